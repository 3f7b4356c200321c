/- Contracts of functions that this seat's laws reach, each: what one call returns and what it leaves in memory; no condition beyond each theorem's own hypotheses. -/
import Derived.Test.YtgcpegjggakemaaGreatDoorZqPathC
import Derived.Test.YtgcpegjggakemaaGreatDoorZqKit3
import Derived.Test.YtgcpegjggakemaaGreatDoorZqCelS
import Derived.Test.YtgcpegjggakemaaGreatDoorZqNestCat
set_option linter.unusedVariables false
set_option linter.unusedSimpArgs false
namespace Go.Proofs.YtgcpegjggakemaaGreatDoor
open Go.RowKit Go.Bl

def dist (a b : Pt) : Int := max (max (a.x - b.x) (-(a.x - b.x))) (max (a.y - b.y) (-(a.y - b.y)))

def near (p : Pt) : Prop := (-100000 ≤ p.x ∧ p.x ≤ 100000) ∧ (-100000 ≤ p.y ∧ p.y ≤ 100000)

end Go.Proofs.YtgcpegjggakemaaGreatDoor

namespace Go.Bl

end Go.Bl
namespace Go.Proofs.YtgcpegjggakemaaGreatDoor
open Go.RowKit Go.Bl

end Go.Proofs.YtgcpegjggakemaaGreatDoor

namespace Go.Bl
open Go
/-- a list holds just the cells about a cell -/
def AboutL (p : Pt) (n : Int) (l : List Pt) : Prop := ∀ q, q ∈ l ↔ (-n ≤ q.x - p.x ∧ q.x - p.x ≤ n) ∧ -n ≤ q.y - p.y ∧ q.y - p.y ≤ n

def AboutI (p : Pt) (n y x : Int) (l : List Pt) : Prop := ∀ q, q ∈ l ↔ (-n ≤ q.x - p.x ∧ q.x - p.x ≤ n) ∧ -n ≤ q.y - p.y ∧ (q.y - p.y < y ∨ q.y - p.y = y ∧ q.x - p.x < x)

theorem AboutI.nil (p : Pt) (n x : Int) : AboutI p n (-n) (-n) [] := fun q => by
  constructor
  · intro h; cases h
  · intro h; omega

theorem AboutI.snoc {p : Pt} {n y x : Int} {l : List Pt} (h : AboutI p n y x l) (hx : -n ≤ x ∧ x ≤ n) (hy : -n ≤ y) : AboutI p n y (x + 1) (l ++ [⟨p.x + x, p.y + y⟩]) := fun q => by
  rw [List.mem_append, h q, List.mem_singleton]
  constructor
  · rintro (h | rfl)
    · omega
    · simp only; omega
  · intro h
    by_cases e : q.y - p.y = y ∧ q.x - p.x = x
    · right; cases q; simp only [Pt.mk.injEq] at *; omega
    · left; omega

theorem AboutI.row {p : Pt} {n y x : Int} {l : List Pt} (h : AboutI p n y x l) (hx : n < x) (hy : -n ≤ y) : AboutI p n (y + 1) (-n) l := fun q => by
  rw [h q]
  constructor <;> intro h <;> omega

theorem AboutI.all {p : Pt} {n y x : Int} {l : List Pt} (h : AboutI p n y x l) (hy : y = n + 1) (hx : x = -n) : AboutL p n l := fun q => by
  rw [h q]
  constructor <;> intro h <;> omega

end Go.Bl
namespace Go.Proofs.YtgcpegjggakemaaGreatDoor
open Go Go.RowKit Go.Bl

theorem info_spot : (Tryz.prog.info? 89).map (fun i => (i.zero, i.size, i.bytes)) = some (some (.agg #[.int .i64 0, .int .i64 0]), 2, 16) := by kernel_rfl

set_option maxHeartbeats 4000000 in
set_option maxRecDepth 100000 in
theorem about_any (p : Pt) (n : Int) (w : World) (hx : -1000000000000 ≤ p.x ∧ p.x ≤ 1000000000000) (hy : -1000000000000 ≤ p.y ∧ p.y ≤ 1000000000000) (hn : 0 ≤ n ∧ n ≤ 20) :
    Calls Tryz.prog 101 #[.agg #[.int .i64 p.x, .int .i64 p.y], .int .i64 n] w fun e w' => ∃ (A : Option Addr) (c : Nat) (l : List Pt), e = .returned (.slice A l.length c) ∧ Own w' w.heap.size 89 A c l ∧ AboutL p n l ∧ l.length ≤ 1681 ∧ w.grownBy w' none := by
  obtain ⟨i0, hi, hz, h1, h2⟩ := info_parts info_spot
  go_enter Tryz.func101, Tryz.ntmps101
  go_upto_region 1 with fail
  obtain ⟨w2, hw2⟩ : ∃ x, x = (w).alloc (.cells [.int .i64 p.x, .int .i64 p.y].toArray 89) := ⟨_, rfl⟩
  have hg2 : (w).grownBy w2 none := by rw [hw2]; exact gr_alloc (World.grownBy.refl _ _) _
  have hb2 : Box w2 (w).heap.size 89 [.int .i64 p.x, .int .i64 p.y] := by rw [hw2]; exact Box.new _ _ _
  have hxs2 := hb2.lt
  rw [← hw2]
  clear hw2
  obtain ⟨x2, hx2⟩ : ∃ x, x = (w).heap.size := ⟨_, rfl⟩
  rw [← hx2] at hb2 hxs2 ⊢
  have hxl2 : (w).heap.size ≤ x2 := by omega
  clear hx2
  have hself := World.grownBy.refl w2 none
  clear hxs2 hxl2
  go_wp2_with fail
  go_loopw [5, 6] (fun s i wr => ∃ (y : Int) (l : List Pt) (A : Option Addr) (c : Nat), -n ≤ y ∧ y ≤ n + 1 ∧ i = .int .i64 y ∧ s = .slice A l.length c ∧ (l.length : Int) ≤ 41 * (y + n) ∧ Hid (AboutI p n y (-n) l) ∧ Own wr w2.heap.size 89 A c l ∧ w2.grownBy wr none) (fun _ i _ => (n + 1 - intOf i).toNat)
  case atStart => exact ⟨-n, [], none, 0, by omega, by omega, rfl, rfl, by simp; omega, AboutI.nil p n 0, Own.nil _ _ _, hself⟩
  case round =>
    clear hself
    obtain ⟨y, l, A, c, hy1, hy2, rfl, rfl, hll, hab, hor, hgr⟩ := hrel
    by_cases hyn : y ≤ n
    · go_wp2_with fail
      go_loopw [5, 7] (fun s i wr => ∃ (x : Int) (l : List Pt) (A : Option Addr) (c : Nat), -n ≤ x ∧ x ≤ n + 1 ∧ i = .int .i64 x ∧ s = .slice A l.length c ∧ (l.length : Int) ≤ 41 * (y + n) + (x + n) ∧ Hid (AboutI p n y x l) ∧ Own wr w2.heap.size 89 A c l ∧ w2.grownBy wr none) (fun _ i _ => (n + 1 - intOf i).toNat)
      case atStart => exact ⟨-n, l, A, c, by omega, by omega, rfl, rfl, by omega, hab, hor, hgr⟩
      case round =>
        clear hab hor hgr hll
        obtain ⟨x, l, A, c, hx1, hx2, rfl, rfl, hll, hab, hor, hgr⟩ := hrel
        by_cases hxn : x ≤ n
        · obtain ⟨d0, -⟩ := (hb2.pure hgr).c 0 rfl
          obtain ⟨d1, -⟩ := (hb2.pure hgr).c 1 rfl
          have hszw := hgr.size
          have hl2 : l.length ≤ 1680 := by omega
          have hab2 := hide (hab.out.snoc ⟨hx1, hxn⟩ hy1)
          go_wp2_with (at_builtin; refine wpList_push (α := Pt) _ rfl (.tmp 22) (.tmp 32) _ rfl w2.heap.size 89 i0 _ 16 Tryz.underlying122 hi hz h1 h2 rfl _ _ _ l rfl rfl (by exact hor.pure (gr_alloc (World.grownBy.refl _ _) _)) 0 ⟨_, 0, none⟩ 1 1 [⟨p.x + x, p.y + y⟩] rfl rfl (by exact sl_oneAt _ 0 [.int .i64 (p.x + x), .int .i64 (p.y + y)] _ _ _ (by first | rfl | simp) (Nat.zero_le _) rfl) ?d2 ?d3 ?d4 ?_)
          case d2 => first | omega | (simp; omega)
          case d3 => first | (simp [maxLen]; omega) | (unfold maxLen; omega)
          case d4 => first | omega | (simp; omega)
          intro A6 c6 w6 hO6 hU6
          have hgy := hU6.gr (Nat.le_refl _) (hgr.t (gr_alloc (World.grownBy.refl _ _) (.cells #[.int .i64 (p.x + x), .int .i64 (p.y + y)] 89)))
          go_wp2_with fail
          (go_roundw; (case rel => exact ⟨x + 1, l ++ [⟨p.x + x, p.y + y⟩], A6, c6, by omega, by omega, rfl, by rw [List.length_append]; rfl, by rw [List.length_append]; simp; omega, hab2, hO6, hgy⟩); (case measure => simp [intOf]; omega))
        · have hab2 := hide (hab.out.row (by omega) hy1)
          go_wp2_with fail
          (go_roundw; (case rel => exact ⟨y + 1, l, A, c, by omega, by omega, rfl, rfl, by omega, hab2, hor, hgr⟩); (case measure => simp [intOf]; omega))
    · have hab2 := hide (hab.out.all (by omega) rfl)
      have hl2 : l.length ≤ 1681 := by omega
      go_wp2_with fail
      go_ret
      exact ⟨A, c, l, rfl, hor.lower hg2.size, hab2.out, hl2, hg2.t hgr⟩

end Go.Proofs.YtgcpegjggakemaaGreatDoor

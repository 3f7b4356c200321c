/- Contracts of functions that this seat's laws reach, each: what one call returns and what it leaves in memory; no condition beyond each theorem's own hypotheses. -/
import Derived.Test.YtgcpegjggakemaaGreatDoorZqSortK
import Derived.Test.YtgcpegjggakemaaGreatDoorSortSide
import Derived.Test.YtgcpegjggakemaaGreatDoorShelf
import Derived.Test.YtgcpegjggakemaaGreatDoorZqPathC
import Derived.Test.YtgcpegjggakemaaGreatDoorZqTree
import Derived.Test.YtgcpegjggakemaaGreatDoorZqGr2
set_option linter.unusedVariables false
set_option linter.unusedSimpArgs false
namespace Go.Proofs.YtgcpegjggakemaaGreatDoor
open Go Go.RowKit Go.Bl Go.Sort Go.Lib

def lowX (s : Sid) : Int := min s.a.x s.b.x

def cmpSd (x y : Sid) : Int := compareInt (lowX x) (lowX y)

theorem ltSd (x y : Sid) : ltOf cmpSd x y = decide (lowX x < lowX y) := by
  unfold ltOf cmpSd compareInt
  by_cases h1 : lowX x < lowX y
  · simp [h1]
  · by_cases h2 : lowX y < lowX x <;> simp [h1, h2]

theorem swoSd : SWO (ltOf cmpSd) where
  irrefl x := by rw [ltSd]; simp
  trans x y z h1 h2 := by rw [ltSd] at *; simp at *; omega
  ntrans x y z h1 h2 := by rw [ltSd] at *; simp at *; omega

theorem isAgg_side (w : World) : (isAgg 176).run Tryz.prog w = .ok true w := Tryz.isAgg176 w

theorem sizeOf_side (w : World) : (Go.sizeOf 176).run Tryz.prog w = .ok 5 w := Tryz.sizeOf176 w

set_option maxHeartbeats 1000000 in
theorem cmpSide_any (x y : Sid) (W : World) : Calls Tryz.prog 134 #[.agg #[.int .i64 x.ring, .int .i64 x.a.x, .int .i64 x.a.y, .int .i64 x.b.x, .int .i64 x.b.y], .agg #[.int .i64 y.ring, .int .i64 y.a.x, .int .i64 y.a.y, .int .i64 y.b.x, .int .i64 y.b.y]] W fun e w' => e = .returned (.int .i64 (cmpSd x y)) ∧ ∃ q os', w' = grow (W.drewN q) os' := by
  have hcon := hide fun W' => Tryz.cmp_Compare_int (min x.a.x x.b.x) (min y.a.x y.b.x) W'
  have hV : Hid (cmpSd x y = compareInt (min x.a.x x.b.x) (min y.a.x y.b.x)) := rfl
  rw [← hV.out] at hcon
  generalize cmpSd x y = r at hcon hV ⊢
  generalize hm1 : min x.a.x x.b.x = m1 at *
  generalize hm2 : min y.a.x y.b.x = m2 at *
  go_enter Tryz.func134, Tryz.ntmps134
  go_wp2_with fail
  refine (hcon.out _).mono ?_
  rintro e w' ⟨rfl, rfl⟩
  go_wp2_with fail
  go_ret
  exact ⟨rfl, 0, _, by rw [alloc_eq_grow, alloc_eq_grow, grow_grow]; rfl⟩

set_option maxHeartbeats 1000000 in
theorem sortSide_any (g c : Nat) (lo : Nat) (l : List Sid) (w : World) (ho : Own w lo 176 (some ⟨g, 0, none⟩) c l) (hl : l.length ≤ 1000000) :
    Calls Tryz.prog 133 #[.slice (some ⟨g, 0, none⟩) l.length c, .func (.func 134) #[] #[]] w fun e w' => e = .returned (.tuple #[]) ∧ ∃ l' : List Sid, l'.Perm l ∧ (∀ i j (hi : i < l'.length) (hj : j < l'.length), i < j → lowX l'[i] ≤ lowX l'[j]) ∧ Own w' lo 176 (some ⟨g, 0, none⟩) c l' ∧ w.grownBy w' (some g) := by
  have eg : ∀ args w, (callFunc 134 args).run Tryz.prog w = .ok (.enter 134 args) w := enters_of Tryz.func134 (by kernel_rfl) rfl
  have hsz : l.toArray.size < 4611686018427387904 := by
    simp only [List.size_toArray]; omega
  have hcon := AnyQ.slices_SortFunc Tryz.sortSide 5 isAgg_side sizeOf_side EncL.e (fun x => EncL.len x) (fun x v hv => EncL.one x v hv) cmpSd swoSd 134 #[] g 0 c l.toArray w eg (fun m os dk _ x y => cmpSide_any x y _) ho.holds (ho.blk_lt rfl).2 hsz
  change Calls Tryz.prog 133 _ _ _ at hcon
  refine hcon.mono ?_
  rintro e w' ⟨rfl, d', n, os, hp, hs, rfl⟩
  obtain ⟨h1, h2, h3⟩ := ho.sorted (n := n) (os := os) hp
  refine ⟨rfl, d'.toList, h1, fun i j hi hj hij => ?_, h2, h3⟩
  have hsz2 : d'.size = l.length := by simpa using (permIn_all hp).2
  have := hs i j (Nat.zero_le _) hij (by simpa [hsz2] using hj)
  rw [ltSd] at this
  simp only [Array.length_toList] at hi hj
  rw [getElem!_pos d' i hi, getElem!_pos d' j hj] at this
  simp at this
  simpa using this

theorem lenBitsS_any (w : World) : Calls Tryz.prog 160 #[.int .u64 0] w fun e w' => e = .returned (.int .i64 0) ∧ w = w' :=
  (Tryz.bits_Len 0 w (by omega) (by omega)).mono fun _ _ ⟨he, hw⟩ => ⟨he, hw.symm⟩

set_option maxRecDepth 100000 in
theorem insNilS_any (w : World) (f : Value) : Calls Tryz.prog 214 #[.slice none 0 0, .int .i64 0, .int .i64 0, f] w fun e w' => e = .returned (.tuple #[]) ∧ w = w' := by
  go_enter Tryz.func214, Tryz.ntmps214
  go_wp2_with fail
  refine wp_loop_once ?_
  go_wp2_with fail
  go_end0
  exact ⟨rfl, rfl⟩

set_option maxRecDepth 100000 in
theorem pdqNilS_any (w : World) (f : Value) : Calls Tryz.prog 179 #[.slice none 0 0, .int .i64 0, .int .i64 0, .int .i64 0, f] w fun e w' => e = .returned (.tuple #[]) ∧ w = w' := by
  go_enter Tryz.func179, Tryz.ntmps179
  go_wp2_with fail
  refine wp_loop_once ?_
  go_wp2_with (go_at_call 214; refine (insNilS_any _ _).mono ?_; rintro e w' ⟨rfl, rfl⟩)
  first
    | (go_ret; exact ⟨rfl, rfl⟩)
    | exact bodyPost_ret (v := .tuple #[]) rfl rfl ⟨rfl, rfl⟩
    | exact bodyPost_ret (v := .tuple #[]) (by simp [results, Tryz.results179]) rfl ⟨rfl, rfl⟩

set_option maxRecDepth 100000 in
theorem sortNilS_any (w : World) (f : Value) : Calls Tryz.prog 133 #[.slice none 0 0, f] w fun e w' => e = .returned (.tuple #[]) ∧ w = w' := by
  go_enter Tryz.func133, Tryz.ntmps133
  go_wp2_with fail
  refine (lenBitsS_any _).mono ?_
  rintro e w' ⟨rfl, rfl⟩
  go_wp2_with fail
  refine (pdqNilS_any _ _).mono ?_
  rintro e w' ⟨rfl, rfl⟩
  go_wp2_with fail
  go_end0
  exact ⟨rfl, rfl⟩

theorem Own.cases {α : Type} [Enc α] {w : World} {lo : Nat} {e : TypeId} {A : Option Addr} {c : Nat} {l : List α} (h : Own w lo e A c l) : (A = none ∧ c = 0 ∧ l = []) ∨ ∃ g, A = some ⟨g, 0, none⟩ := by
  obtain ⟨_, cs, _, ho⟩ := h
  rcases ho.2 with ⟨h1, h2⟩ | ⟨g, cap, cur, hv, _⟩
  · injection h1 with h1 h3 h4
    exact .inl ⟨h1, h4, List.eq_nil_of_length_eq_zero h2⟩
  · injection hv with hv
    exact .inr ⟨g, hv⟩

theorem sortS_any (A : Option Addr) (c : Nat) (lo : Nat) (l : List Sid) (w : World) (ho : Own w lo 176 A c l) (hl : l.length ≤ 1000000) :
    Calls Tryz.prog 133 #[.slice A l.length c, .func (.func 134) #[] #[]] w fun e w' => e = .returned (.tuple #[]) ∧ ∃ l' : List Sid, l'.Perm l ∧ (∀ i j (hi : i < l'.length) (hj : j < l'.length), i < j → lowX l'[i] ≤ lowX l'[j]) ∧ Own w' lo 176 A c l' ∧ w.grownBy w' (blk A) := by
  rcases Own.cases ho with ⟨rfl, rfl, rfl⟩ | ⟨g, rfl⟩
  · refine (sortNilS_any w _).mono ?_
    rintro e w' ⟨rfl, rfl⟩
    exact ⟨rfl, [], List.Perm.refl _, fun i j hi => by simp at hi, ho, World.grownBy.refl _ _⟩
  · exact sortSide_any g c lo l w ho hl

end Go.Proofs.YtgcpegjggakemaaGreatDoor

namespace Go.Bl
open Go

def cmpPt (a b : Pt) : Int := orL [Lib.compareInt a.y b.y, Lib.compareInt a.x b.x]

theorem cmpPt_neg (a b : Pt) : cmpPt a b < 0 ↔ a.y < b.y ∨ a.y = b.y ∧ a.x < b.x := by
  unfold cmpPt orL orL orL Lib.compareInt
  repeat' split
  all_goals first | omega | simp_all <;> omega

theorem ltPt (a b : Pt) : Go.Proofs.ltOf cmpPt a b = decide (a.y < b.y ∨ a.y = b.y ∧ a.x < b.x) := by
  unfold Go.Proofs.ltOf
  rw [decide_eq_decide, cmpPt_neg]

theorem swoPt : Go.Sort.SWO (Go.Proofs.ltOf cmpPt) where
  irrefl x := by rw [ltPt]; simp
  trans x y z h1 h2 := by rw [ltPt] at *; simp at *; omega
  ntrans x y z h1 h2 := by rw [ltPt] at *; simp only [decide_eq_false_iff_not] at *; omega
/-- a step that only draws and lays blocks -/
structure Qt (w w' : World) : Prop where
  g : w.grownBy w' none
  d : w.drawn ≤ w'.drawn

theorem Qt.refl (w : World) : Qt w w := ⟨World.grownBy.refl _ _, Nat.le_refl _⟩

theorem Qt.trans {w w' w'' : World} (h : Qt w w') (k : Qt w' w'') : Qt w w'' := ⟨gr_trans h.g k.g, Nat.le_trans h.d k.d⟩

theorem Qt.alloc (w : World) (o : Obj) : Qt w (w.alloc o) := ⟨gr_alloc (World.grownBy.refl _ _) _, by simp⟩

theorem Qt.drew (w : World) : Qt w w.drew := ⟨gr_drew (World.grownBy.refl _ _), by simp⟩

theorem Qt.drewN (w : World) (n : Nat) : Qt w (w.drewN n) := ⟨gr_drewN (World.grownBy.refl _ _) n, Nat.le_add_right _ _⟩

theorem Qt.eq {w w' : World} (h : Qt w w') : ∃ q os, w' = Go.Sort.grow (w.drewN q) os := by
  refine ⟨w'.drawn - w.drawn, w'.heap.extract w.heap.size w'.heap.size, ?_⟩
  obtain ⟨⟨h1, h2, h3, h4, h5⟩, h6⟩ := h
  obtain ⟨hp, tp, dr, os, op⟩ := w
  obtain ⟨hp', tp', dr', os', op'⟩ := w'
  simp only at h1 h2 h3 h4 h5 h6
  subst h1 h2 h3
  simp only [Go.Sort.grow, World.drewN, World.mk.injEq, true_and, and_true]
  refine ⟨?_, by omega⟩
  apply Array.ext_getElem?
  intro k
  rw [Array.getElem?_append]
  by_cases hk : k < hp.size
  · rw [if_pos hk]; exact h5 k hk (by simp)
  · rw [if_neg hk, Array.getElem?_extract]
    by_cases hk2 : k < hp'.size
    · rw [if_pos (by omega)]; congr 1; omega
    · rw [if_neg (by omega), Array.getElem?_eq_none (by omega)]

end Go.Bl
namespace Go.Proofs.YtgcpegjggakemaaGreatDoor
open Go Go.RowKit Go.Bl

set_option maxHeartbeats 400000 in
theorem orInt_any (A : Option Addr) (n c : Nat) (l : List Int) (w : World) (hl : Sl w 0 A l) (hn : n = l.length) :
    Calls Tryz.prog 158 #[.slice A n c] w fun e w' => e = .returned (.int .i64 (orL l)) ∧ w' = w := by
  have hm := hl.1
  unfold maxLen at hm
  subst hn
  go_enter Tryz.func158, Tryz.ntmps158
  go_wp2
  go_loop [8] (fun i => ∃ k : Nat, k ≤ l.length ∧ i = .int .i64 k ∧ Hid (orL (l.drop k) = orL l)) (fun i => l.length - (intOf i).toNat)
  case atStart => exact ⟨0, Nat.zero_le _, rfl, rfl⟩
  case round =>
    obtain ⟨k, hk, rfl, hd⟩ := hrel
    by_cases hlt : k < l.length
    · obtain ⟨g, o, cx, rfl, hb0, hb1, rfl, hc⟩ := hl.at_ (by decide) hlt
      have c0 : w.cell? ⟨g, o + k, none⟩ = some (.int .i64 l[k]) := by have := hc 0 _ rfl; rwa [show Enc.sz Int = 1 from rfl, Nat.mul_one] at this
      clear hc
      by_cases hz : l[k] = 0
      · have HS : Hid (orL (l.drop (k + 1)) = orL l) := by have := hd.out; rw [orL_drop hlt, if_neg (by simp [hz])] at this; exact this
        have hb : (l[k] != 0) = false := by simp [hz]
        clear hz
        go_wp2
        go_round
        case rel => exact ⟨k + 1, by omega, by go_num, HS⟩
        case measure => simp [intOf]; omega
      · have HS : Hid (l[k] = orL l) := by have := hd.out; rw [orL_drop hlt, if_pos hz] at this; exact this
        have hb : (l[k] != 0) = true := by simp [hz]
        clear hz
        go_wp2
        go_ret
        exact ⟨ret_int HS.out, rfl⟩
    · have HS : Hid ((0 : Int) = orL l) := by have := hd.out; rw [List.drop_of_length_le (by omega)] at this; exact this
      go_wp2
      go_ret
      exact ⟨ret_int HS.out, rfl⟩

end Go.Proofs.YtgcpegjggakemaaGreatDoor

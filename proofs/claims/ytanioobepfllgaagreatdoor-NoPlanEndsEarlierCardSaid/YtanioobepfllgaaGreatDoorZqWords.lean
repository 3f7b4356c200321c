/- Contracts of functions that this seat's laws reach, each: what one call returns and what it leaves in memory; no condition beyond each theorem's own hypotheses. -/
import Derived.Test.YtanioobepfllgaaGreatDoorZqPathA
import Derived.Test.YtanioobepfllgaaGreatDoorZqFarmData
import Derived.Test.YtanioobepfllgaaGreatDoorZqGrS
import Derived.Test.YtanioobepfllgaaGreatDoorZqDelData
set_option linter.unusedVariables false
set_option linter.unusedSimpArgs false
namespace Go.Proofs.YtanioobepfllgaaGreatDoor
open Go Go.RowKit Go.Bl

def SInts (b : Nat) (N : Int) (n : Nat) (w : World) (e : Ending) (w' : World) : Prop := ∃ (l : List Int) (A : Option Addr) (c : Nat), e = .returned (.slice A l.length c) ∧ Own w' w.heap.size 3 A c l ∧ l.length = n ∧ SOut b N w w'

set_option maxHeartbeats 2000000 in
set_option maxRecDepth 100000 in
theorem order_any (b : Nat) (N : Int) (n : Nat) (w : World) (hs : Strm w b N) (hN : N ≤ 1000000000) (hn : n ≤ 1000000) :
    Calls Tryz.prog 34 #[.pointer (some ⟨b, 0, none⟩), .int .i64 n] w (SInts b (N + n) n w) := by
  have hbw := hs.lt
  obtain ⟨i0, hi, hz, h1, h2⟩ := info_parts info_int
  go_enter Tryz.func34, Tryz.ntmps34
  go_wp2_with fail
  go_loopw [5, 10] (fun o i wr => ∃ (k : Nat) (l : List Int) (A' : Option Addr) (c' : Nat), k ≤ n ∧ i = .int .i64 k ∧ o = .slice A' l.length c' ∧ Hid (l.length = k) ∧ Own wr w.heap.size 3 A' c' l ∧ w.grownBy wr none) (fun _ i _ => n - (intOf i).toNat)
  case atStart => exact ⟨0, [], none, 0, Nat.zero_le _, rfl, rfl, rfl, Own.nil _ _ _, World.grownBy.refl _ _⟩
  case round =>
    obtain ⟨k, l, A', c', hk, rfl, rfl, hlk, hown, hg⟩ := hrel
    by_cases hlt : k < n
    · go_wp2_with (at_builtin; refine wpList_push (α := Int) _ rfl (.tmp 13) (.tmp 15) _ rfl w.heap.size 3 i0 _ 8 Tryz.underlying22 hi hz h1 h2 rfl _ _ _ l rfl ?c1 (by exact (hown.pure (by repeat (first | exact World.grownBy.refl _ _ | assumption | refine gr_alloc ?_ _ | refine gr_drewN ?_ _ | refine gr_drew ?_)))) 0 ⟨_, 0, none⟩ 1 1 [(k : Int)] rfl rfl (by exact sl_int1 _ _ _ _ (by first | rfl | simp)) ?c2 ?c3 ?c4 ?_)
      case c1 => rfl
      case c2 => rw [hlk.out]; simp; omega
      case c3 => rw [hlk.out]; simp [maxLen]; omega
      case c4 => simp; have := hg.size; omega
      intro A2 c2 w2 hown2 hup2
      go_wp2
      (go_roundw; (case rel => exact ⟨k + 1, _, A2, c2, by omega, by go_num, by simp, by simp [Hid, hlk.out], hown2, hup2.gr (Nat.le_refl _) (gr_alloc hg _)⟩); (case measure => simp [intOf]; omega))
    · have hkn : k = n := by omega
      have hln : Hid (l.length = n) := by rw [Hid, hlk.out, hkn]
      have hs2 := hs.pure hg
      have hgs : SOut b N w wr := ⟨gr_any hg, hs2⟩
      clear hkn hlk hs2
      rename World => wq
      go_wp2_with fail
      by_cases h0 : n = 0
      · subst h0
        refine wp_loop_once ?_
        go_wp2_with fail
        go_ret
        exact ⟨l, A', c', rfl, hown, hln.out, hgs.mono (by simp)⟩
      · obtain ⟨g, rfl, hgl, hgs2⟩ := hown.shape (by rw [hln.out]; omega)
        go_loopw [7] (fun i wr => ∃ (j : Nat) (m : List Int), i = .int .i64 j ∧ j + 1 ≤ n ∧ Hid (m.length = n) ∧ Own wr w.heap.size 3 (some ⟨g, 0, none⟩) c' m ∧ SOut b (N + (n - 1 - j)) w wr) (fun i _ => (intOf i).toNat)
        case atStart => exact ⟨n - 1, l, by congr 1; omega, by omega, hln, hown, hgs.mono (by omega)⟩
        case round =>
          obtain ⟨j, m, rfl, hj, hml, hown, hS⟩ := hrel
          by_cases hj0 : 0 < j
          · go_wp2_with fail
            refine (next_any b _ _ _ hS.2 (by omega) (by omega)).mono ?_
            rintro e w2 ⟨r, rfl, ⟨hr0, hr1⟩, ho2⟩
            obtain ⟨r, rfl⟩ := Int.eq_ofNat_of_zero_le hr0
            have hown2 := hown.s ho2 hbw
            have hjm : j < m.length := by rw [hml.out]; omega
            have hrm : r < m.length := by rw [hml.out]; omega
            have hjl : j < l.length := by rw [hln.out]; omega
            have hrl : r < l.length := by rw [hln.out]; omega
            have c0 := hown2.cell_int hjm
            have c1 := hown2.cell_int hrm
            have f0 := hown2.frozen j
            have f1 := hown2.frozen r
            have hset := (hown2.set_int j m[r]).set_int r m[j]
            have hset := hide hset
            have hS2 := hS.trans ho2
            have hml2 : Hid (((m.set j m[r]).set r m[j]).length = n) := by simp [Hid, hml.out]
            by_cases hrj : r = j
            · subst hrj
              go_wp2_with fail
              go_region
              all_goals
                go_wp2
                go_roundw
                case rel => exact ⟨r - 1, _, by congr 1; omega, by omega, hml2, hset.out.pure (gr_drew (World.grownBy.refl _ _)), ((hS2.set hbw hgl _).set hbw hgl _).drew.mono (by omega)⟩
                case measure => simp [intOf]; omega
            · have hjr : j ≠ r := fun e => hrj e.symm
              go_wp2_with fail
              go_region
              all_goals
                go_wp2
                go_roundw
                case rel => exact ⟨j - 1, _, by congr 1; omega, by omega, hml2, hset.out.pure (gr_drew (World.grownBy.refl _ _)), ((hS2.set hbw hgl _).set hbw hgl _).drew.mono (by omega)⟩
                case measure => simp [intOf]; omega
          · have hj2 : j = 0 := by omega
            subst hj2
            go_wp2_with fail
            go_ret
            exact ⟨m, _, c', by rw [hml.out, ← hln.out]; exact rfl, hown, hml.out, hS.mono (by omega)⟩

def SStr (b : Nat) (N : Int) (w : World) (e : Ending) (w' : World) : Prop := ∃ s : ByteArray, e = .returned (.string s) ∧ SOut b N w w'

theorem row_strs (w : World) (lo : Nat) (l : List ByteArray) : Row w lo l (l.map Value.string) := by
  induction l with
  | nil => rfl
  | cons x l ih => exact ⟨[.string x], l.map Value.string, rfl, rfl, ih⟩

theorem sl_strsAt (w : World) (lo : Nat) (t : TypeId) (l : List ByteArray) (g : Nat) (hg : g = w.heap.size) (hlo : lo ≤ w.heap.size) (hm : l.length ≤ maxLen) :
    Sl (w.alloc (.cells (l.map Value.string).toArray t)) lo (some ⟨g, 0, none⟩) l := by
  subst hg
  exact sl_lit w lo (l.map Value.string) t l hlo hm (row_strs _ _ _)

set_option maxHeartbeats 400000 in
theorem some_any (b : Nat) (N : Int) (A : Option Addr) (n c : Nat) (l : List ByteArray) (w : World) (hs : Strm w b N) (hN : N ≤ 1000000000000) (hl : Sl w (b + 1) A l) (hn : l.length = n) (h0 : 0 < n) :
    Calls Tryz.prog 56 #[.pointer (some ⟨b, 0, none⟩), .slice A n c] w (SStr b (N + 1) w) := by
  have hm := hl.1
  unfold maxLen at hm
  subst hn
  go_enter Tryz.func56, Tryz.ntmps56
  go_wp2_with fail
  refine (next_any b N _ _ hs hN (by omega)).mono ?_
  rintro e w1 ⟨r, rfl, ⟨hr0, hr1⟩, ho⟩
  obtain ⟨i, rfl⟩ := Int.eq_ofNat_of_zero_le hr0
  have hi : i < l.length := by omega
  obtain ⟨g, o, c1, rfl, hb0, hb1, rfl, hc⟩ := (hl.gr ho.1 (fun g e => by cases e; omega)).at_ (by decide) hi
  have c0 : w1.cell? ⟨g, o + i, none⟩ = some (.string l[i]) := by have := hc 0 _ rfl; rwa [show Enc.sz ByteArray = 1 from rfl, Nat.mul_one] at this
  clear hc
  go_wp2_with fail
  go_ret
  exact ⟨_, rfl, ho⟩

end Go.Proofs.YtanioobepfllgaaGreatDoor

namespace Go.Proofs.YtanioobepfllgaaGreatDoor
open Go Go.RowKit Go.Bl

def SLst {α : Type} [Enc α] (b : Nat) (N : Int) (M : Nat) (w : World) (e : Ending) (w' : World) : Prop := ∃ (l : List α) (A : Option Addr) (c : Nat), e = .returned (.slice A l.length c) ∧ Sl w' (b + 1) A l ∧ l.length ≤ M ∧ l.length ≤ c ∧ SOut b N w w'

/-- the words lie in a block -/
def KWs (L : List ByteArray) (w : World) (g : Nat) : Prop := g < w.heap.size ∧ ∀ i (h : i < L.length), w.cell? ⟨g, i, none⟩ = some (.string L[i])
section
variable {L : List ByteArray} {w w' : World} {g : Nat}

theorem KWs.new (L : List ByteArray) (w : World) (t : TypeId) : KWs L (w.alloc (.cells (L.map Value.string).toArray t)) w.heap.size :=
  ⟨by simp, fun i h => (Cell.new w (L.map Value.string) t i (.string L[i]) (by simp [h]) _ rfl).1⟩

theorem KWs.gr {r : Option Nat} (h : KWs L w g) (hg : w.grownBy w' r) (hr : r ≠ some g) : KWs L w' g := ⟨Nat.lt_of_lt_of_le h.1 hg.size, fun i hi => gr_cell hg (h.2 i hi) hr⟩

theorem KWs.upd {lo : Nat} (h : KWs L w g) (hu : Upd lo w w') (hl : g < lo) : KWs L w' g := by
  obtain ⟨r, hg, hr⟩ := hu
  exact h.gr hg (fun e => by have := hr g e; omega)

theorem KWs.lt (h : KWs L w g) : g < w.heap.size := h.1
end

end Go.Proofs.YtanioobepfllgaaGreatDoor

/- Contracts of functions that this seat's laws reach, each: what one call returns and what it leaves in memory; no condition beyond each theorem's own hypotheses. -/
import Derived.Test.YtanioobepfllgaaDoorZqPathA
import Derived.Test.YtanioobepfllgaaDoorZqFarmData
import Derived.Test.YtanioobepfllgaaDoorZqGrS
import Derived.Test.YtanioobepfllgaaDoorZqNest2
set_option linter.unusedVariables false
set_option linter.unusedSimpArgs false
namespace Go.Proofs.YtanioobepfllgaaDoor
open Go Go.RowKit Go.Bl

def SInts (b : Nat) (N : Int) (n : Nat) (w : World) (e : Ending) (w' : World) : Prop := ∃ (l : List Int) (A : Option Addr) (c : Nat), e = .returned (.slice A l.length c) ∧ Own w' w.heap.size 3 A c l ∧ l.length = n ∧ SOut b N w w'

def SStr (b : Nat) (N : Int) (w : World) (e : Ending) (w' : World) : Prop := ∃ s : ByteArray, e = .returned (.string s) ∧ SOut b N w w'

theorem row_strs (w : World) (lo : Nat) (l : List ByteArray) : Row w lo l (l.map Value.string) := by
  induction l with
  | nil => rfl
  | cons x l ih => exact ⟨[.string x], l.map Value.string, rfl, rfl, ih⟩

theorem sl_strsAt (w : World) (lo : Nat) (t : TypeId) (l : List ByteArray) (g : Nat) (hg : g = w.heap.size) (hlo : lo ≤ w.heap.size) (hm : l.length ≤ maxLen) :
    Sl (w.alloc (.cells (l.map Value.string).toArray t)) lo (some ⟨g, 0, none⟩) l := by
  subst hg
  exact sl_lit w lo (l.map Value.string) t l hlo hm (row_strs _ _ _)

set_option maxHeartbeats 400000 in
theorem some_any (b : Nat) (N : Int) (A : Option Addr) (n c : Nat) (l : List ByteArray) (w : World) (hs : Strm w b N) (hN : N ≤ 1000000000000) (hl : Sl w (b + 1) A l) (hn : l.length = n) (h0 : 0 < n) :
    Calls Tryd.prog 21 #[.pointer (some ⟨b, 0, none⟩), .slice A n c] w (SStr b (N + 1) w) := by
  have hm := hl.1
  unfold maxLen at hm
  subst hn
  go_enter Tryd.func21, Tryd.ntmps21
  go_wp2_with fail
  refine (next_any b N _ _ hs hN (by omega)).mono ?_
  rintro e w1 ⟨r, rfl, ⟨hr0, hr1⟩, ho⟩
  obtain ⟨i, rfl⟩ := Int.eq_ofNat_of_zero_le hr0
  have hi : i < l.length := by omega
  obtain ⟨g, o, c1, rfl, hb0, hb1, rfl, hc⟩ := (hl.gr ho.1 (fun g e => by cases e; omega)).at_ (by decide) hi
  have c0 : w1.cell? ⟨g, o + i, none⟩ = some (.string l[i]) := by have := hc 0 _ rfl; rwa [show Enc.sz ByteArray = 1 from rfl, Nat.mul_one] at this
  clear hc
  go_wp2_with fail
  go_ret
  exact ⟨_, rfl, ho⟩

end Go.Proofs.YtanioobepfllgaaDoor

namespace Go.Proofs.YtanioobepfllgaaDoor
open Go Go.RowKit Go.Bl

def SLst {α : Type} [Enc α] (b : Nat) (N : Int) (M : Nat) (w : World) (e : Ending) (w' : World) : Prop := ∃ (l : List α) (A : Option Addr) (c : Nat), e = .returned (.slice A l.length c) ∧ Sl w' (b + 1) A l ∧ l.length ≤ M ∧ l.length ≤ c ∧ SOut b N w w'

/-- the words lie in a block -/
def KWs (L : List ByteArray) (w : World) (g : Nat) : Prop := g < w.heap.size ∧ ∀ i (h : i < L.length), w.cell? ⟨g, i, none⟩ = some (.string L[i])
section
variable {L : List ByteArray} {w w' : World} {g : Nat}

theorem KWs.new (L : List ByteArray) (w : World) (t : TypeId) : KWs L (w.alloc (.cells (L.map Value.string).toArray t)) w.heap.size :=
  ⟨by simp, fun i h => (Cell.new w (L.map Value.string) t i (.string L[i]) (by simp [h]) _ rfl).1⟩

theorem KWs.gr {r : Option Nat} (h : KWs L w g) (hg : w.grownBy w' r) (hr : r ≠ some g) : KWs L w' g := ⟨Nat.lt_of_lt_of_le h.1 hg.size, fun i hi => gr_cell hg (h.2 i hi) hr⟩

theorem KWs.upd {lo : Nat} (h : KWs L w g) (hu : Upd lo w w') (hl : g < lo) : KWs L w' g := by
  obtain ⟨r, hg, hr⟩ := hu
  exact h.gr hg (fun e => by have := hr g e; omega)

theorem KWs.lt (h : KWs L w g) : g < w.heap.size := h.1
end

end Go.Proofs.YtanioobepfllgaaDoor

/- Contracts of functions that this seat's laws reach, each: what one call returns and what it leaves in memory; no condition beyond each theorem's own hypotheses. -/
import Derived.Test.YtanioobepfllgaaDoorZqJobN
import Derived.Test.YtanioobepfllgaaDoorZqRowsN
set_option linter.unusedVariables false
set_option linter.unusedSimpArgs false
namespace Go.Proofs.YtanioobepfllgaaDoor
open Go Go.RowKit Go.Bl

set_option maxHeartbeats 400000 in
theorem changeTime_any (b : Nat) (N : Int) (w : World) (hs : Strm w b N) (hN : N ≤ 1000000000) :
    Calls Tryd.prog 6 #[.pointer (some ⟨b, 0, none⟩)] w (SInt b (N + 2) (fun _ => True) w) := by
  have hbw := hs.lt
  go_enter Tryd.func6, Tryd.ntmps6
  go_wp2_with fail
  refine (pick_any b N _ _ _ [-1, 100001, 10] _ (hs.pure (gr_alloc (World.grownBy.refl _ _) _)) (by omega) (sl_intsAt _ _ _ _ _ (by first | rfl | simp) (by omega) (by simp [maxLen])) rfl (by simp)).mono ?_
  rintro e w2 ⟨s1, rfl, _, ho2⟩
  go_wp2_with fail
  refine (pick_any b (N + 1) _ _ _ [0, 5, 10, 10, 30, s1] _ (ho2.2.pure (gr_alloc (World.grownBy.refl _ _) _)) (by omega) (sl_intsAt _ _ _ _ _ (by first | rfl | simp) (by have := ho2.2.lt; omega) (by simp [maxLen])) rfl (by simp)).mono ?_
  rintro e w3 ⟨s2, rfl, _, ho3⟩
  go_wp2_with fail
  go_ret
  exact ⟨s2, rfl, trivial, (((SOut.refl hs).al _ |>.trans ho2).al _ |>.trans ho3).mono (by omega)⟩

/-- a plan in memory, made by the stream -/
def SPlan (b : Nat) (N : Int) (M : Nat) (w : World) (e : Ending) (w' : World) : Prop := ∃ (l : List (List Int)) (A : Option Addr) (c : Nat), e = .returned (.slice A l.length c) ∧ Sl w' (b + 1) A l ∧ l.flatten.length ≤ M ∧ l.length ≤ c ∧ l.length ≤ 51 ∧ SOut b N w w'

end Go.Proofs.YtanioobepfllgaaDoor

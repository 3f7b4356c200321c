/- Contracts of functions that this seat's laws reach, each: what one call returns and what it leaves in memory; no condition beyond each theorem's own hypotheses. -/
import Derived.Test.YtanioobepfllgaaGreatDoorRows
import Derived.Test.YtanioobepfllgaaGreatDoorZqTree
set_option linter.unusedVariables false
set_option linter.unusedSimpArgs false
namespace Go.Proofs.YtanioobepfllgaaGreatDoor
open Go.RowKit Go.Bl

theorem infoI : (Tryz.prog.info? 3).map (fun i => (i.zero, i.size, i.bytes)) = some (some (.int .i64 0), 1, 8) := by kernel_rfl

set_option maxHeartbeats 400000 in
theorem cloneInt_any (A : Option Addr) (c : Nat) (l : List Int) (w : World) (hl : Sl w 0 A l) (hlen : l.length ≤ 1000000) :
    Calls Tryz.prog 18 #[.slice A l.length c] w fun e w' => ∃ A' c', e = .returned (.slice A' l.length c') ∧ Own w' w.heap.size 3 A' c' l ∧ w.grownBy w' none := by
  obtain ⟨i0, hi, hz, h1, h2⟩ := info_parts infoI
  have hq := fun W => Lib.run_eql_slice_nil (P := Tryz.prog) W 22 3 A l.length c 0 0 Tryz.underlying22
  rcases A with _ | ad
  · have hl0 : l = [] := by
      rcases Nat.eq_zero_or_pos l.length with h | h
      · exact List.eq_nil_of_length_eq_zero h
      · obtain ⟨g, o, cx, e, _⟩ := hl.at_ (by decide) h
        cases e
    subst hl0
    simp only [List.length_nil] at hq
    go_enter Tryz.func18, Tryz.ntmps18
    go_wp2_with fail
    go_ret
    exact ⟨none, 0, rfl, Own.nil _ _ _, World.grownBy.refl _ _⟩
  · go_enter Tryz.func18, Tryz.ntmps18
    go_wp2_with (at_builtin; refine wpList_push (α := Int) _ rfl (.tmp 5) (.tmp 6) _ rfl w.heap.size 3 i0 _ 8 Tryz.underlying22 hi hz h1 h2 rfl _ _ _ [] rfl rfl (by exact Own.empty _ _ _ (Nat.le_refl _)) 0 ad _ c l rfl rfl (by exact hl.pure (gr_alloc (World.grownBy.refl _ _) _)) ?c2 ?c3 ?c4 ?_)
    case c2 => simp; omega
    case c3 => simp [maxLen]; omega
    case c4 => simp
    intro A2 c2 w2 hown hup
    go_wp2
    go_ret
    exact ⟨A2, c2, rfl, hown, hup.gr (Nat.le_refl _) (gr_alloc (World.grownBy.refl _ _) _)⟩

def ltB (x y : Int) : Bool := decide (x < y)

end Go.Proofs.YtanioobepfllgaaGreatDoor

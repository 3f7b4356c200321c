/- Contracts of functions that this seat's laws reach, each: what one call returns and what it leaves in memory; no condition beyond each theorem's own hypotheses. -/
import Derived.Test.YtanioobepfllgaaGreatDoorZqBusData
import Derived.Test.YtanioobepfllgaaGreatDoorZqSlices
import Derived.Test.YtanioobepfllgaaGreatDoorZqDelData
set_option linter.unusedVariables false
set_option linter.unusedSimpArgs false
namespace Go.Proofs.YtanioobepfllgaaGreatDoor
open Go Go.RowKit Go.Bl

set_option maxHeartbeats 1600000 in
theorem sameEv_any (A : Option Addr) (c : Nat) (l : List Ev) (B : Option Addr) (d : Nat) (w : World) (hl : Sl w 0 A l) (hm : Sl w 0 B l) :
    Calls Tryz.prog 26 #[.slice A l.length c, .slice B l.length d] w fun e w' => e = .returned (.bool true) ∧ w.grownBy w' none := by
  have hm1 := hl.1
  unfold maxLen at hm1
  have hb : ((l.length : Int) != l.length) = false := by simp
  go_enter Tryz.func26, Tryz.ntmps26
  go_wp2
  go_loopw [13] (fun i wr => ∃ k : Nat, k ≤ l.length ∧ i = .int .i64 k ∧ w.grownBy wr none) (fun i _ => l.length - (intOf i).toNat)
  case atStart => exact ⟨0, Nat.zero_le _, rfl, World.grownBy.refl _ _⟩
  case round =>
    obtain ⟨k, hk, rfl, hg⟩ := hrel
    by_cases hlt : k < l.length
    · obtain ⟨g, o, cx, rfl, hb0, hb1, rfl, hc⟩ := (hl.pure hg).at_ (by decide) hlt
      have c0 : wr.cell? ⟨g, o + k * 5, none⟩ = some (.int .i64 l[k].at_) := hc 0 _ rfl
      have c1 : wr.cell? ⟨g, o + k * 5 + 1, none⟩ = some (.int .i64 l[k].kind) := hc 1 _ rfl
      have c2 : wr.cell? ⟨g, o + k * 5 + 2, none⟩ = some (.string l[k].pr) := hc 2 _ rfl
      have c3 : wr.cell? ⟨g, o + k * 5 + 3, none⟩ = some (.string l[k].job) := hc 3 _ rfl
      have c4 : wr.cell? ⟨g, o + k * 5 + 4, none⟩ = some (.string l[k].mat) := hc 4 _ rfl
      obtain ⟨g2, o2, cx, rfl, hb2, hb3, rfl, hc2⟩ := (hm.pure hg).at_ (by decide) hlt
      have d0 : wr.cell? ⟨g2, o2 + k * 5, none⟩ = some (.int .i64 l[k].at_) := hc2 0 _ rfl
      have d1 : wr.cell? ⟨g2, o2 + k * 5 + 1, none⟩ = some (.int .i64 l[k].kind) := hc2 1 _ rfl
      have d2 : wr.cell? ⟨g2, o2 + k * 5 + 2, none⟩ = some (.string l[k].pr) := hc2 2 _ rfl
      have d3 : wr.cell? ⟨g2, o2 + k * 5 + 3, none⟩ = some (.string l[k].job) := hc2 3 _ rfl
      have d4 : wr.cell? ⟨g2, o2 + k * 5 + 4, none⟩ = some (.string l[k].mat) := hc2 4 _ rfl
      clear hc hc2
      have hi0 : (0 : Int) ≤ (k : Int) ∧ (k : Int) < l.length := by omega
      generalize l[k] = q at *
      go_wp2_with fail
      go_quiet (fail)
      go_wp2
      go_roundw
      case rel => exact ⟨k + 1, by omega, by go_num, gr_drewN hg _⟩
      case measure => simp [intOf]; omega
    · go_wp2
      go_ret
      exact ⟨rfl, hg⟩

end Go.Proofs.YtanioobepfllgaaGreatDoor

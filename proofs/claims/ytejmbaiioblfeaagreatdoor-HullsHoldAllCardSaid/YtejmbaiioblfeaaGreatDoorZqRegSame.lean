/- Contracts of functions that this seat's laws reach, each: what one call returns and what it leaves in memory; no condition beyond each theorem's own hypotheses. -/
import Derived.Test.YtejmbaiioblfeaaGreatDoorZqPtCl
import Derived.Test.YtejmbaiioblfeaaGreatDoorZqPathA
import Derived.Test.YtejmbaiioblfeaaGreatDoorZqRegRefC
import Derived.Test.YtejmbaiioblfeaaGreatDoorZqFlowD
set_option linter.unusedVariables false
set_option linter.unusedSimpArgs false
namespace Go.Proofs.YtejmbaiioblfeaaGreatDoor
open Go Go.RowKit Go.Bl

/-- a ring of new memory -/
def SRing (b : Nat) (N : Int) (w : World) (e : Ending) (w' : World) : Prop := ∃ (g c : Nat) (l : List Pt), e = .returned (.slice (some ⟨g, 0, none⟩) l.length c) ∧ Sl w' w.heap.size (some ⟨g, 0, none⟩) l ∧ l.length ≤ c ∧ l.length ≤ 6 ∧ (w.heap.size ≤ g ∧ g < w'.heap.size) ∧ SOut b N w w'

end Go.Proofs.YtejmbaiioblfeaaGreatDoor

namespace Go.Proofs.YtejmbaiioblfeaaGreatDoor
open Go Go.RowKit Go.Bl

/-- a region of new memory -/
def SReg (b : Nat) (N : Int) (w : World) (e : Ending) (w' : World) : Prop := ∃ (A : Option Addr) (c : Nat) (rs : List (List Pt)), e = .returned (.slice A rs.length c) ∧ OwnN RawS w' w.heap.size 36 A c rs ∧ rs.length ≤ c ∧ rs.length ≤ 3 ∧ (∀ r ∈ rs, r.length ≤ 6) ∧ SOut b N w w'

end Go.Proofs.YtejmbaiioblfeaaGreatDoor

namespace Go.Proofs.YtejmbaiioblfeaaGreatDoor
open Go Go.RowKit Go.Bl

/-- a region that is right, of new memory -/
def RReg (b : Nat) (N : Int) (w : World) (e : Ending) (w' : World) : Prop := ∃ (A : Option Addr) (c : Nat) (rs : List (List Pt)), e = .returned (.slice A rs.length c) ∧ Sl w' w.heap.size A rs ∧ rs.length ≤ c ∧ regF rs = 0 ∧ SOut b (N + 700) w w'

set_option maxHeartbeats 1600000 in
theorem equalRing_same (A : Option Addr) (c : Nat) (l : List Pt) (B : Option Addr) (d : Nat) (w : World) (hl : Sl w 0 A l) (hm : Sl w 0 B l) :
    Calls Tryz.prog 23 #[.slice A l.length c, .slice B l.length d] w fun e w' => e = .returned (.bool true) ∧ w.grownBy w' none := by
  have hm1 := hl.1
  unfold maxLen at hm1
  have hb : ((l.length : Int) != l.length) = false := by simp
  go_enter Tryz.func23, Tryz.ntmps23
  go_wp2
  go_loopw [13] (fun i wr => ∃ k : Nat, k ≤ l.length ∧ i = .int .i64 k ∧ w.grownBy wr none) (fun i _ => l.length - (intOf i).toNat)
  case atStart => exact ⟨0, Nat.zero_le _, rfl, World.grownBy.refl _ _⟩
  case round =>
    obtain ⟨k, hk, rfl, hg⟩ := hrel
    by_cases hlt : k < l.length
    · obtain ⟨g, o, cx, rfl, hb0, hb1, rfl, hc⟩ := (hl.pure hg).at_ (by decide) hlt
      have c0 : wr.cell? ⟨g, o + k * 2, none⟩ = some (.int .i64 l[k].x) := hc 0 _ rfl
      have c1 : wr.cell? ⟨g, o + k * 2 + 1, none⟩ = some (.int .i64 l[k].y) := hc 1 _ rfl
      obtain ⟨g2, o2, cx, rfl, hb2, hb3, rfl, hc2⟩ := (hm.pure hg).at_ (by decide) hlt
      have d0 : wr.cell? ⟨g2, o2 + k * 2, none⟩ = some (.int .i64 l[k].x) := hc2 0 _ rfl
      have d1 : wr.cell? ⟨g2, o2 + k * 2 + 1, none⟩ = some (.int .i64 l[k].y) := hc2 1 _ rfl
      clear hc hc2
      have hi0 : (0 : Int) ≤ (k : Int) ∧ (k : Int) < l.length := by omega
      generalize l[k] = q at *
      go_wp2_with fail
      go_quiet (fail)
      go_wp2
      go_roundw
      case rel => exact ⟨k + 1, by omega, by go_num, gr_drewN hg _⟩
      case measure => simp [intOf]; omega
    · go_wp2
      go_ret
      exact ⟨rfl, hg⟩

end Go.Proofs.YtejmbaiioblfeaaGreatDoor

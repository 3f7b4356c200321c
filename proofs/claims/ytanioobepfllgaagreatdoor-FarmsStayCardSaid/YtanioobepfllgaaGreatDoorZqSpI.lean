/- Contracts of functions that this seat's laws reach, each: what one call returns and what it leaves in memory; no condition beyond each theorem's own hypotheses. -/
import Derived.Test.YtanioobepfllgaaGreatDoorZqDelData
import Derived.Test.YtanioobepfllgaaGreatDoorZqSlices
set_option linter.unusedVariables false
set_option linter.unusedSimpArgs false
namespace Go.Proofs.YtanioobepfllgaaGreatDoor
open Go Go.RowKit Go.Bl

set_option maxHeartbeats 800000 in
/-- what is spoiled is one's own -/
theorem spoilInts_any (A : Option Addr) (n c lo : Nat) (l : List Int) (w : World) (hO : Own w lo 3 A c l) (hn : l.length = n) :
    Calls Tryz.prog 21 #[.slice A n c] w fun e w' => e = .returned (.tuple #[]) ∧ w.grownBy w' (blk A) := by
  have hm := hO.1
  unfold maxLen at hm
  have hn2 := hide hn
  have hnb : n ≤ 9223372036854775807 := by omega
  go_enter Tryz.func21, Tryz.ntmps21
  go_wp2
  go_loopw [5] (fun i wr => ∃ (k : Nat) (m : List Int), k ≤ n ∧ i = .int .i64 k ∧ Hid (m.length = n) ∧ Own wr lo 3 A c m ∧ w.grownBy wr (blk A)) (fun i _ => n - (intOf i).toNat)
  case atStart => exact ⟨0, l, Nat.zero_le _, rfl, hn2.out, hO, World.grownBy.refl _ _⟩
  case round =>
    clear hO hn
    obtain ⟨k, m, hk, rfl, hmn, hown, hg⟩ := hrel
    by_cases hlt : k < n
    · have hlm : k < m.length := by rw [hmn.out]; exact hlt
      obtain ⟨g1, rfl, hgl, hgr⟩ := hown.shape (by omega)
      have cj := hown.cell_int hlm
      have fj := hown.frozen k
      have hown2 := hown.set_int k 777
      have hg2 := gr_set hg (p := ⟨g1, k, none⟩) (.inl rfl) (.int .i64 777)
      have hm2 : Hid ((m.set k 777).length = n) := by rw [Hid, List.length_set]; exact hmn.out
      go_wp2_with fail
      (go_roundw; (case rel => exact ⟨k + 1, _, by omega, by go_num, hm2, hown2, hg2⟩); (case measure => simp [intOf]; omega))
    · go_wp2
      go_end0
      exact ⟨rfl, hg⟩

end Go.Proofs.YtanioobepfllgaaGreatDoor

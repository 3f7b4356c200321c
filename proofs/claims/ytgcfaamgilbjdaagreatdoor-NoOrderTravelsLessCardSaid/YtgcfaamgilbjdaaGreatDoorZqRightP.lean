/- Contracts of functions that this seat's laws reach, each: what one call returns and what it leaves in memory; no condition beyond each theorem's own hypotheses. -/
import Derived.Test.YtgcfaamgilbjdaaGreatDoorZqPathE
import Derived.Test.YtgcfaamgilbjdaaGreatDoorZqOrdG
set_option linter.unusedVariables false
set_option linter.unusedSimpArgs false
namespace Go.Proofs.YtgcfaamgilbjdaaGreatDoor
open Go.RowKit Go.Bl

def RPOut (b : Nat) (N : Int) (most : Nat) (w : World) (e : Ending) (w' : World) : Prop := ∃ (l : List PathV) (A : Option Addr) (c : Nat), e = .returned (.slice A l.length c) ∧ Sl w' w.heap.size A l ∧ pathsF l = 0 ∧ l.length ≤ most ∧ (∀ p ∈ l, p.pts.length ≤ 4) ∧ SOut b (N + 6000) w w'

set_option maxHeartbeats 4000000 in
set_option maxRecDepth 100000 in
theorem rightPaths_any (b : Nat) (N : Int) (most : Nat) (w : World) (hs : Strm w b N) (hN : N ≤ 1000000) (hm : most ≤ 10) :
    Calls Tryz.prog 5 #[.pointer (some ⟨b, 0, none⟩), .int .i64 most] w (RPOut b N most w) := by
  have hbw := hs.lt
  go_enter Tryz.func5, Tryz.ntmps5
  go_wp2_with fail
  go_loopw [6] (fun i wr => ∃ k : Nat, k ≤ 6 ∧ i = .int .i64 k ∧ SOut b (N + 1000 * k) w wr) (fun i _ => 6 - (intOf i).toNat)
  case atStart => exact ⟨0, by omega, rfl, (SOut.refl hs).mono (by omega)⟩
  case round =>
    obtain ⟨k, hk, rfl, ho⟩ := hrel
    by_cases hlt : k < 6
    · go_wp2_with fail
      refine (pathList_any b _ most wr ho.2 (by omega) hm).mono ?_
      rintro e w1 ⟨l, A, c, rfl, hl, hlm, hl4, ho1⟩
      have hsz := ho.size
      replace ho := ho.trans ho1
      replace hl := hl.mono hsz
      clear ho1
      have hPF := pathsFaultRef_any A c l w1 (hl.mono (Nat.zero_le _))
      by_cases hz : pathsF l = 0
      · have hz2 := hide hz
        rw [hz] at hPF
        clear hz
        go_wp2_with fail
        refine hPF.mono ?_
        rintro e w2 ⟨rfl, h1⟩
        go_wp2_with fail
        go_ret
        exact ⟨l, A, c, rfl, hl.pure h1, hz2.out, hlm, hl4, (ho.pure h1).mono (by omega)⟩
      · have hb : (pathsF l == 0) = false := by simp [hz]
        generalize pathsF l = F at *
        clear hz
        go_wp2_with fail
        refine hPF.mono ?_
        rintro e w2 ⟨rfl, h1⟩
        go_wp2_with fail
        (go_roundw; (case rel => exact ⟨k + 1, by omega, by go_num, (ho.pure h1).mono (by omega)⟩); (case measure => simp [intOf]; omega))
    · go_wp2_with fail
      go_ret
      exact ⟨[], none, 0, rfl, ⟨by simp [maxLen], [], rfl, fun h => absurd rfl h⟩, by decide, by simp, by simp, ho.mono (by omega)⟩

end Go.Proofs.YtgcfaamgilbjdaaGreatDoor

/- Contracts of functions that this seat's laws reach, each: what one call returns and what it leaves in memory; no condition beyond each theorem's own hypotheses. -/
import Derived.Test.YtjodjdjfagjiaaaMeshK
set_option linter.unusedVariables false
set_option linter.unusedSimpArgs false
namespace Go.Proofs.Ytjodjdjfagjiaaa
open Go.RowKit Go.Bl

def volK (k : Nat) : Int := ((pyrF.take k).map (partV pyrV)).sum

def pyrAt (k : Nat) : Fc := pyrF.getD k ⟨0, 0, 0⟩
theorem volK_succ : ∀ k, k < 4 → volK (k + 1) = volK k + partV pyrV (pyrAt k) ∧ (-1000 ≤ volK k ∧ volK k ≤ 1000) ∧ (-1000 ≤ partV pyrV (pyrAt k) ∧ partV pyrV (pyrAt k) ≤ 1000) ∧ inF pyrV.length (pyrAt k) = true := by decide

set_option maxHeartbeats 2000000 in
set_option maxRecDepth 100000 in
theorem volumePyr_any (A B : Option Addr) (w : World) (hA : Sl w 0 A pyrV) (hB : Sl w 0 B pyrF) : Calls Try.prog 60 #[.agg #[.slice A 4 4, .slice B 4 4]] w fun e w' => e = .returned (.tuple #[.int .i64 216, .int .i64 0]) ∧ w.grownBy w' none := by
  have hg0 := gr_alloc (World.grownBy.refl w none) (.cells #[.slice A 4 4, .slice B 4 4] 29)
  have b0 := Cell.new w [.slice A 4 4, .slice B 4 4] 29 0 _ rfl _ rfl
  have b1 := Cell.new w [.slice A 4 4, .slice B 4 4] 29 1 _ rfl _ rfl
  go_enter Try.func60, Try.ntmps60
  go_wp2_with fail
  refine (closedPyr_any A B _ (hA.pure hg0) (hB.pure hg0)).mono ?_
  rintro e w1 ⟨rfl, hg1⟩
  have b0 := (b0.gr hg1 (by simp)).1
  have b1 := (b1.gr hg1 (by simp)).1
  have hg2 := gr_trans hg0 hg1
  clear hg0 hg1
  go_wp2_with fail
  have hW := World.grownBy.refl w1 none
  go_loopw [5, 16] (fun o i wr => ∃ k : Nat, k ≤ 4 ∧ i = .int .i64 k ∧ o = .int .i64 (volK k) ∧ w.grownBy wr none ∧ w1.grownBy wr none) (fun _ i _ => 4 - (intOf i).toNat)
  case atStart => exact ⟨0, by omega, rfl, rfl, hg2, hW⟩
  case round =>
    obtain ⟨k, hk, rfl, rfl, hg, hgW⟩ := hrel
    by_cases hlt : k < 4
    · obtain ⟨hv1, hv2, hv3, hv4⟩ := volK_succ k hlt
      have d0 := hgW.k b0
      have d1 := hgW.k b1
      have hlt0 : w.heap.size < wr.heap.size := cell_lt d0
      obtain ⟨g, o, rfl, hb0, hb1, hc⟩ := (hB.pure hg).fc (by decide)
      have hlt' : k < pyrF.length := hlt
      have hpe : pyrF[k] = pyrAt k := by simp [pyrAt, hlt']
      obtain ⟨v0, v1, v2⟩ := hc k hlt'
      rw [hpe] at v0 v1 v2
      clear hpe
      clear hc
      replace hv1 := hide hv1
      replace hv4 := hide hv4
      generalize pyrAt k = f at *
      go_wp2_with fail
      refine (part_any A 4 pyrV _ 4 4 f _ (hA.pure (gr_alloc hg _)) (by decide) hv4.out).mono ?_
      rintro e w' ⟨rfl, hg'⟩
      generalize partV pyrV f = X at *
      generalize hVk : volK k = V at *
      go_wp2_with fail
      (go_roundw; (case rel => exact ⟨k + 1, by omega, by go_num, by rw [hv1.out], (by repeat (first | exact World.grownBy.refl _ _ | assumption | refine gr_alloc ?_ _ | (apply gr_tail; assumption) | refine gr_drewN ?_ _ | refine gr_drew ?_)), (by repeat (first | exact World.grownBy.refl _ _ | assumption | refine gr_alloc ?_ _ | (apply gr_tail; assumption) | refine gr_drewN ?_ _ | refine gr_drew ?_))⟩); (case measure => simp [intOf]; omega))
    · have hk4 : k = 4 := by omega
      subst hk4
      rw [show volK 4 = 216 by decide]
      go_wp2
      exact bodyPost_ret (v := .tuple #[.int .i64 216, .int .i64 0]) (by simp [results, Try.results60, go_sem]) rfl ⟨rfl, hg⟩

theorem meshed_any (w : World) : Calls Try.prog 18 #[] w fun e w' => e = .returned (.bool true) ∧ w.grownBy w' none := by
  go_enter Try.func18, Try.ntmps18
  go_wp2_with fail
  refine (pyramid_any _).mono ?_
  rintro e w1 ⟨A, B, rfl, hA, hB, hg1⟩
  go_wp2_with fail
  refine (volumePyr_any A B _ hA hB).mono ?_
  rintro e w2 ⟨rfl, hg2⟩
  go_wp2_with fail
  go_ret
  exact ⟨rfl, gr_trans hg1 hg2⟩

end Go.Proofs.Ytjodjdjfagjiaaa

/- Contracts of functions that this seat's laws reach, each: what one call returns and what it leaves in memory; no condition beyond each theorem's own hypotheses. -/
import Derived.Test.YtlefdcodfjifcaaGreatDoorMChainLaw
import Derived.Test.YtlefdcodfjifcaaGreatDoorMRightP
import Derived.Test.YtlefdcodfjifcaaGreatDoorMReady
set_option linter.unusedVariables false
set_option linter.unusedSimpArgs false
namespace Go.Proofs.YtlefdcodfjifcaaGreatDoor
open Go Go.RowKit Go.Bl

theorem tot_six {l : List PathV} (h : l.length ≤ 6) (h4 : ∀ p ∈ l, p.pts.length ≤ 4) : totP l ≤ 24 := by
  have : ∀ (l : List PathV), (∀ x ∈ l, x.pts.length ≤ 4) → totP l ≤ 4 * l.length := by
    intro l h
    unfold totP
    induction l with
    | nil => simp
    | cons y l ih =>
      have h1 := h y (by simp)
      have h2 := ih (fun x hx => h x (List.mem_cons_of_mem _ hx))
      simp only [List.map_cons, List.sum_cons, List.length_cons]; omega
  have := this l h4
  omega

theorem countP_len (l : List PathV) : closedN l ≤ l.length := List.countP_le_length

set_option maxHeartbeats 4000000 in
set_option maxRecDepth 100000 in
theorem chainedAreAsLong_law (A : Option Addr) (n c : Nat) (L : List Int) (w : World) (hL : Sl w 0 A L) (hn : L.length = n) :
    Calls Tryz.prog 3 #[.slice A n c] w fun e w' => e = .returned (.bool true) ∧ w.grownBy w' none := by
  have hs0 := strm_new (c := c) 25 hL hn
  have hg0 := gr_alloc (World.grownBy.refl w none) (.cells #[.slice A n c, .int .i64 0] 25)
  have hS0 := SOut.refl hs0
  have hR := rightPaths_any _ 0 6 _ hs0 (by omega) (by omega)
  go_enter Tryz.func3, Tryz.ntmps3
  go_wp2_with fail
  refine hR.mono ?_
  rintro e w1 ⟨p, A1, c1, rfl, hp, hpF, hp6, hp4, ho1⟩
  replace hS0 := hS0.trans ho1
  replace hp := hp.mono (Nat.zero_le _)
  have hgw : w.grownBy w1 none := gr_new hg0 hS0.1 (Nat.le_refl _)
  clear ho1 hS0 hs0 hg0 hL hR
  have ht := tot_six hp6 hp4
  have htp : pointsN p ≤ 24 := ht
  obtain ⟨k1, k2, k3, k4, k5⟩ := chainN_keeps p.length p hpF (by omega)
  have k6 := chainN_none p.length p (Nat.le_refl _)
  have k7 : totP (chainN p.length p) ≤ 24 := by omega
  have k8 : pointsN (chainN p.length p) ≤ 24 := k7
  have hCh := chained_any A1 c1 p _ hp hpF k1
  have hcp := countP_len p
  generalize hC : chainN p.length p = C at *
  have k9 := hide (chainN_id k6 C.length)
  have hLp := fun wx (hx : w1.grownBy wx none) => long_any A1 c1 p wx (hp.pure hx)
  have e1 : longS p = longSum p := if_pos hpF
  have e2 : longS C = longSum p := by rw [← k2]; exact if_pos k1
  rw [e1, hpF] at hLp
  generalize longSum p = S at *
  have hb : ((pointsN p : Int) - (pointsN C : Int) == (p.length : Int) - (C.length : Int)) = true := by
    have : pointsN C + p.length = pointsN p + C.length := k4
    simp; omega
  have kc : closedN C = closedN p := k3
  have hK := hide (And.intro k1 (And.intro e2 kc))
  have hcn : ∀ wx, w1.grownBy wx none → _ := fun wx (hx : w1.grownBy wx none) => count_any A1 c1 p wx (hp.pure hx) (by omega) (by omega)
  replace hcn := hide hcn
  replace hLp := hide hLp
  have hpts1 : pointsN p ≤ 24 := htp
  have hCl : C.length ≤ 6 := by omega
  clear k1 k2 k3 k4 k5 k6 k7 e1 e2 kc hC ht htp hpF hp4
  go_wp2_with fail
  refine hCh.mono ?_
  rintro e w2 ⟨A2, c2, rfl, hN2, hg2⟩
  clear hCh
  have hC2 := hN2.sl.mono (Nat.zero_le _)
  have hLc := fun wx (hx : w2.grownBy wx none) => long_any A2 c2 C wx (hC2.pure hx)
  rw [hK.out.1, hK.out.2.1] at hLc
  have hCh2 := fun wx (hx : w2.grownBy wx none) => chained_any A2 c2 C wx (hC2.pure hx) hK.out.1 (by rw [k9.out]; exact hK.out.1)
  simp only [k9.out] at hCh2
  have hcc := fun wx (hx : w2.grownBy wx none) => count_any A2 c2 C wx (hC2.pure hx) (by omega) (by omega)
  rw [hK.out.2.2] at hcc
  replace hLc := hide hLc
  replace hCh2 := hide hCh2
  replace hcc := hide hcc
  clear hN2
  go_wp2_with fail
  refine (hLp.out _ hg2).mono ?_
  rintro e w3 ⟨A3, c3, rfl, -, hg3⟩
  go_wp2_with fail
  refine (hLc.out _ hg3).mono ?_
  rintro e w4 ⟨A4, c4, rfl, -, hg4⟩
  go_wp2_with fail
  refine (hCh2.out _ (hg3.t hg4)).mono ?_
  rintro e w5 ⟨A5, c5, rfl, hN5, hg5⟩
  have hC5 := hN5.sl.mono (Nat.zero_le _)
  clear hN5 hLc hCh2 hLp
  have hSP := samePaths_same A5 c5 C A2 c2 w5 hC5 (hC2.pure (hg3.t (hg4.t hg5)))
  have hg25 : w2.grownBy w5 none := hg3.t (hg4.t hg5)
  replace hSP := hide hSP
  go_wp2_with fail
  refine hSP.out.mono ?_
  rintro e w6 ⟨rfl, hg6⟩
  have hg26 := hg25.t hg6
  clear hSP
  go_wp2_with fail
  refine (hcn.out _ (hg2.t hg26)).mono ?_
  rintro e w7 ⟨rfl, hg7⟩
  have hg27 := hg26.t hg7
  clear hcn
  go_wp2_with fail
  refine (hcc.out _ hg27).mono ?_
  rintro e w8 ⟨rfl, hg8⟩
  have hg28 := hg27.t hg8
  clear hcc
  go_wp2_with fail
  refine (ready_any _).mono ?_
  rintro e w9 ⟨rfl, hg9⟩
  go_wp2_with fail
  go_ret
  exact ⟨rfl, hgw.t (hg2.t (hg28.t hg9))⟩

end Go.Proofs.YtlefdcodfjifcaaGreatDoor

/- Contracts of functions that this seat's laws reach, each: what one call returns and what it leaves in memory; no condition beyond each theorem's own hypotheses. -/
import Derived.Test.YtejmbaiioblfeaaGreatDoorZqHulE
import Derived.Test.YtejmbaiioblfeaaGreatDoorZqHulDX
import Derived.Test.YtejmbaiioblfeaaGreatDoorZqHulR
set_option linter.unusedVariables false
set_option linter.unusedSimpArgs false
namespace Go.Proofs.YtejmbaiioblfeaaGreatDoor
open Go Go.RowKit Go.Bl

theorem compactAllX_any (A : Option Addr) (c lo : Nat) (l : List Pt) (w : World) (ho : Own w lo 29 A c l) (hn : l.length ≤ 1000000) (hwk : WkS l) :
    Calls Tryz.prog 56 #[.slice A l.length c] w fun e w' => ∃ l' : List Pt, e = .returned (.slice A l'.length c) ∧ Own w' lo 29 A c l' ∧ l'.length ≤ l.length ∧ SrtP l' ∧ (∀ p, p ∈ l' ↔ p ∈ l) ∧ w.grownBy w' (blk A) := by
  rcases Own.cases ho with ⟨rfl, rfl, rfl⟩ | ⟨g, rfl⟩
  · go_enter Tryz.func56, Tryz.ntmps56
    go_wp2_with fail
    go_ret
    exact ⟨[], rfl, ho, by simp, .nil, fun p => Iff.rfl, World.grownBy.refl _ _⟩
  · exact compactX_any g c lo l w ho hn hwk

/-- why there is no hull -/
def NoHull (l : List Pt) (E : Int) : Prop := (1000 < l.length ∧ E = 2) ∨ (l.length ≤ 1000 ∧ l.any farP = true ∧ E = 1) ∨ (l.length ≤ 1000 ∧ l.any farP = false ∧ E = 3 ∧ ∃ ps, SrtP ps ∧ (∀ x, x ∈ ps ↔ x ∈ l) ∧ (ps.length < 3 ∨ (hullL ps).length < 3))

def IsHull (l : List Pt) (H : List Pt) : Prop := l.length ≤ 1000 ∧ l.any farP = false ∧ ∃ ps, SrtP ps ∧ (∀ x, x ∈ ps ↔ x ∈ l) ∧ 3 ≤ ps.length ∧ 3 ≤ (hullL ps).length ∧ H = hullL ps

def HullX (l : List Pt) (w : World) (e : Ending) (w' : World) : Prop :=
  (∃ E : Int, NoHull l E ∧ e = .returned (.tuple #[.slice none 0 0, .int .i64 E]) ∧ w.grownBy w' none) ∨ ∃ (A' : Option Addr) (c' : Nat) (out : List Pt), IsHull l out ∧ e = .returned (.tuple #[.slice A' out.length c', .int .i64 0]) ∧ Own w' w.heap.size 29 A' c' out ∧ w.grownBy w' none

set_option maxHeartbeats 4000000 in
set_option maxRecDepth 100000 in
theorem hullX_any (A : Option Addr) (n c : Nat) (l : List Pt) (w : World) (hl : Sl w 0 A l) (hln : l.length = n) (hn : n ≤ 1000000) :
    Calls Tryz.prog 21 #[.slice A n c] w (HullX l w) := by
  have hCf := hide fun W (h : w.grownBy W none) => containsFar_any A c l W (hl.pure h)
  have hCl := hide fun W (h : w.grownBy W none) => clonePt_any A c l W (hl.pure h) (by omega)
  rw [hln] at hCf hCl
  replace hln := hide hln
  have hg0 := World.grownBy.refl w none
  go_enter Tryz.func21, Tryz.ntmps21
  by_cases hbig : 1000 < n
  · have hbi : (1000 : Int) < n := by omega
    go_wp2_with fail
    exact bodyPost_ret (v := .tuple #[.slice none 0 0, .int .i64 2]) (by simp [results, Tryz.results21, go_sem]) rfl (.inl ⟨2, (.inl ⟨by rw [hln.out]; exact hbig, rfl⟩), rfl, hg0⟩)
  · go_wp2_with fail
    refine (hCf.out w hg0).mono ?_
    rintro e w1 ⟨rfl, hg1⟩
    have hfar : Hid (l.any farP = false → ∀ p ∈ l, bdP p) := fun h p hp => bd_of_far (by
      rcases hq : farP p with _ | _
      · rfl
      · rw [List.any_eq_true.2 ⟨p, hp, hq⟩] at h; exact absurd h (by simp))
    have hfe : Hid (l.any farP = l.any farP) := rfl
    obtain ⟨far, hfr⟩ : ∃ far, far = l.any farP := ⟨_, rfl⟩
    rw [← hfr] at hfar ⊢
    replace hfr := hide hfr
    clear hfe
    clear hCf
    cases far
    · have hbd := hide (hfar.out rfl)
      clear hfar
      go_wp2_with fail
      refine (hCl.out w1 hg1).mono ?_
      rintro e w2 ⟨A2, c2, rfl, hO2, hg2⟩
      replace hO2 := hO2.lower hg1.size
      have hgw := hg1.t hg2
      clear hCl hg0 hg1 hg2 hl
      have hS := hide (sortPt_any A2 c2 _ l w2 hO2 (by rw [hln.out]; exact hn))
      rw [hln.out] at hS
      go_wp2_with fail
      refine hS.out.mono ?_
      rintro e w3 ⟨rfl, l3, hp3, hws, hO3, hg3⟩
      have hwk : WkS l3 := fun i j hi hj hij => by rw [cmpPt_neg]; exact hws i j hi hj hij
      clear hws
      have hgw3 := gr_row hgw hg3 (fun g e => (hO2.blk_lt e).1)
      have hl3 := hp3.length_eq.trans hln.out
      have hbd3 : Hid (∀ p ∈ l3, bdP p) := fun p hp => hbd.out p (hp3.subset hp)
      have hC := hide (compactAllX_any A2 c2 _ l3 w3 hO3 (by omega) hwk)
      rw [hl3] at hC
      replace hl3 := hide hl3
      have hpm := hide fun x => hp3.mem_iff (a := x)
      clear hS hp3 hg3 hO2 hgw hbd hwk
      go_wp2_with fail
      refine hC.out.mono ?_
      rintro e w4 ⟨m, rfl, hO4, hlm, hms, hsm, hg4⟩
      have hgw4 := gr_row hgw3 hg4 (fun g e => (hO3.blk_lt e).1)
      have hbdm : Hid (∀ p ∈ m, bdP p) := fun p hp => hbd3.out p ((hsm p).1 hp)
      have hpss : Hid (SrtP m ∧ ∀ x, x ∈ m ↔ x ∈ l) := ⟨hms, fun x => (hsm x).trans (hpm.out x)⟩
      have hl1000 : Hid (l.length ≤ 1000 ∧ l.any farP = false) := ⟨by rw [hln.out]; omega, hfr.out.symm⟩
      clear hms hpm
      replace hlm : m.length ≤ 1000 := by have := hl3.out; omega
      clear hC hg4 hO3 hgw3 hbd3 hl3 hsm
      by_cases h3 : m.length < 3
      · go_wp2_with fail
        exact bodyPost_ret (v := .tuple #[.slice none 0 0, .int .i64 3]) (by simp [results, Tryz.results21, go_sem]) rfl (.inl ⟨3, (.inr (.inr ⟨hl1000.out.1, hl1000.out.2, rfl, m, hpss.out.1, hpss.out.2, .inl h3⟩)), rfl, hgw4⟩)
      · obtain ⟨g2, rfl, hgl2, hgr2⟩ := hO4.shape (by omega)
        have hH := hide (halfX_any (some ⟨g2, 0, none⟩) c2 m w4 (hO4.sl.mono (Nat.zero_le _)) (by omega) (by omega) hbdm.out)
        go_wp2_with fail
        refine hH.out.mono ?_
        rintro e w5 ⟨A5, c5, up, rfl, hO5, hup, hul, -, hupE, hg5⟩
        replace hupE := hide hupE
        have hgw5 := hgw4.t hg5
        replace hO4 := hO4.pure hg5
        have hR := hide (reversePt_any _ g2 c2 m w5 hO4 (by omega) (by omega))
        clear hH hg5 hgw4
        go_wp2_with fail
        refine hR.out.mono ?_
        rintro e w6 ⟨⟨v, rfl⟩, hO6, hg6⟩
        have hO5b := hO5.keep hg6 (fun g e => by injection e with e; omega)
        have hgw6 := gr_new hgw5 hg6 hgl2
        have hlr : m.reverse.length = m.length := List.length_reverse
        have hH2 := hide (halfX_any _ c2 m.reverse w6 (hO6.sl.mono (Nat.zero_le _)) (by rw [hlr]; omega) (by rw [hlr]; omega) (fun p hp => hbdm.out p (List.mem_reverse.1 hp)))
        rw [hlr] at hH2
        clear hR hg6 hgw5 hlr hO5 hO4 hO6
        go_wp2_with fail
        refine hH2.out.mono ?_
        rintro e w7 ⟨A7, c7, dn, rfl, hO7, hdn, hdl, -, hdnE, hg7⟩
        replace hdnE := hide hdnE
        have hgw7 := hgw6.t hg7
        replace hO5b := hO5b.pure hg7
        clear hH2 hg7 hgw6 hbdm
        obtain ⟨g5, rfl, -, -⟩ := hO5b.shape (by omega)
        obtain ⟨g7, rfl, -, -⟩ := hO7.shape (by omega)
        have hcap5 := hO5b.cap
        have hcap7 := hO7.cap
        have hU := hide fun W (h : w7.grownBy W none) => ((hO5b.takeH (up.length - 1) (by omega)).pure h).sl.mono (Nat.zero_le _)
        have hD := hide fun W (h : w7.grownBy W none) => ((hO7.takeH (dn.length - 1) (by omega)).pure h).sl.mono (Nat.zero_le _)
        have hUl : Hid (up.length - 1 = (up.take (up.length - 1)).length) := by rw [Hid, List.length_take]; omega
        have hDl : Hid (dn.length - 1 = (dn.take (dn.length - 1)).length) := by rw [Hid, List.length_take]; omega
        have hdl2 : dn.length ≤ 1000 := by omega
        have hul2 : up.length ≤ 1000 := by omega
        have hHE : Hid (flatK [up.take (up.length - 1), dn.take (dn.length - 1)] 2 = hullL m) := by
          rw [Hid, flatK_all (Nat.le_refl 2)]
          simp only [List.flatten_cons, List.flatten_nil, List.append_nil]
          unfold hullL upL
          rw [← hupE.out, ← hdnE.out, List.reverse_reverse, List.reverse_reverse, List.dropLast_eq_take, List.dropLast_eq_take]
        have hm3 : 3 ≤ m.length := by omega
        have hsum : Hid ((flatK [up.take (up.length - 1), dn.take (dn.length - 1)] 2).length ≤ 1000000) := by
          rw [Hid, flatK_all (Nat.le_refl 2)]
          simp only [List.flatten_cons, List.flatten_nil, List.append_nil, List.length_append]
          rw [← hUl.out, ← hDl.out]
          omega
        have hszw := hgw7.size
        clear hO5b hO7 h3 hlm hul hdl hgl2 hgr2
        go_upto_region 13 with fail
        refine wp_region_tree (fun wx => w7.grownBy wx none) [2, 2, 2, 2, 2, 2, 2, 2, 2, 2, 0, 0, 2] (.bl 0 (.bl 1 (.bl 2 (.bl 3 (.bl 4 (.bl 5 (.bl 6 (.bl 7 (.bl 8 (.bl 9 (.ef 10 (.ef 11 (.bl 12 .done))))))))))))) (by kernel_rfl) (by kernel_rfl) (gr_drew (World.grownBy.refl _ _)) ?_
        obtain ⟨u0, hu0⟩ : ∃ x, x = (w7).drew := ⟨_, rfl⟩
        rw [← hu0]
        have hgu0 : (w7).grownBy u0 none := by rw [hu0]; exact gr_drew (World.grownBy.refl _ _)
        clear hu0
        refine tree_p rfl rfl rfl rfl _ rfl (by simp) (fun K hK => ?_)
        apply Exists.intro
        refine ⟨fun wq K' hK' => ?_, ?_⟩
        · go_wp2_with fail
          exact hK'
        go_simp
        refine hK _ ?_
        clear hK K
        refine tree_p rfl rfl rfl rfl _ rfl (by simp) (fun K hK => ?_)
        apply Exists.intro
        refine ⟨fun wq K' hK' => ?_, ?_⟩
        · go_wp2_with fail
          exact hK'
        go_simp
        refine hK _ ?_
        clear hK K
        refine tree_p rfl rfl rfl rfl _ rfl (by simp) (fun K hK => ?_)
        apply Exists.intro
        refine ⟨fun wq K' hK' => ?_, ?_⟩
        · go_wp2_with fail
          exact hK'
        go_simp
        refine hK _ ?_
        clear hK K
        refine tree_p rfl rfl rfl rfl _ rfl (by simp) (fun K hK => ?_)
        apply Exists.intro
        refine ⟨fun wq K' hK' => ?_, ?_⟩
        · go_wp2_with fail
          exact hK'
        go_simp
        refine hK _ ?_
        clear hK K
        refine tree_p rfl rfl rfl rfl _ rfl (by simp) (fun K hK => ?_)
        apply Exists.intro
        refine ⟨fun wq K' hK' => ?_, ?_⟩
        · go_wp2_with fail
          exact hK'
        go_simp
        refine hK _ ?_
        clear hK K
        refine tree_p rfl rfl rfl rfl _ rfl (by simp) (fun K hK => ?_)
        apply Exists.intro
        refine ⟨fun wq K' hK' => ?_, ?_⟩
        · go_wp2_with fail
          exact hK'
        go_simp
        refine hK _ ?_
        clear hK K
        refine tree_p rfl rfl rfl rfl _ rfl (by simp) (fun K hK => ?_)
        apply Exists.intro
        refine ⟨fun wq K' hK' => ?_, ?_⟩
        · go_wp2_with fail
          exact hK'
        go_simp
        refine hK _ ?_
        clear hK K
        refine tree_p rfl rfl rfl rfl _ rfl (by simp) (fun K hK => ?_)
        apply Exists.intro
        refine ⟨fun wq K' hK' => ?_, ?_⟩
        · go_wp2_with fail
          exact hK'
        go_simp
        refine hK _ ?_
        clear hK K
        refine tree_p rfl rfl rfl rfl _ rfl (by simp) (fun K hK => ?_)
        apply Exists.intro
        refine ⟨fun wq K' hK' => ?_, ?_⟩
        · go_wp2_with fail
          exact hK'
        go_simp
        refine hK _ ?_
        clear hK K
        refine tree_p rfl rfl rfl rfl _ rfl (by simp) (fun K hK => ?_)
        apply Exists.intro
        refine ⟨fun wq K' hK' => ?_, ?_⟩
        · go_wp2_with fail
          exact hK'
        go_simp
        refine hK _ ?_
        clear hK K
        refine tree_e0 (by kernel_rfl) rfl rfl (fun K hK => ?_)
        go_wp2_with fail
        try go_simp
        refine hK _ _ trivial ?_
        clear hK K
        refine tree_e0 (by kernel_rfl) rfl rfl (fun K hK => ?_)
        go_wp2_with fail
        refine (concatPts_any (some ⟨u0.heap.size, 0, none⟩) 2 [up.take (up.length - 1), dn.take (dn.length - 1)] _ (sl_two u0 0 35 (some ⟨g5, 0, none⟩) (some ⟨g7, 0, none⟩) _ _ (up.length - 1) (dn.length - 1) c5 c7 hUl.out hDl.out (by omega) (by omega) (hU.out u0 hgu0) (hD.out u0 hgu0) (Nat.zero_le _)) hsum.out).mono ?_
        rintro e w11 ⟨A11, c11, rfl, hO11, hg11⟩
        have hgA := gr_trans (gr_alloc hgu0 _) hg11
        go_wp2_with fail
        try go_simp
        refine hK _ _ trivial ?_
        clear hK K
        refine tree_p rfl rfl rfl rfl _ rfl (by simp) (fun K hK => ?_)
        apply Exists.intro
        refine ⟨fun wq K' hK' => ?_, ?_⟩
        · go_wp2_with fail
          exact hK'
        go_simp
        refine hK _ ?_
        clear hK K
        refine tree_done ?_
        have hgz := hgw7.t hgA
        have hO := hO11.lower (hgw7.t (gr_alloc hgu0 _)).size
        have hfl := hsum.out
        clear hO11 hsum hU hD hUl hDl
        generalize flatK [up.take (up.length - 1), dn.take (dn.length - 1)] 2 = out at *
        have hHo : out = hullL m := hHE.out
        replace hHo := hide hHo
        by_cases h3o : out.length < 3
        · go_wp2_with fail
          exact bodyPost_ret (v := .tuple #[.slice none 0 0, .int .i64 3]) (by simp [results, Tryz.results21, go_sem]) rfl (.inl ⟨3, (.inr (.inr ⟨hl1000.out.1, hl1000.out.2, rfl, m, hpss.out.1, hpss.out.2, .inr (by rw [← hHo.out]; exact h3o)⟩)), rfl, hgz⟩)
        · go_wp2_with fail
          exact bodyPost_ret (v := .tuple #[.slice A11 out.length c11, .int .i64 0]) (by simp [results, Tryz.results21, go_sem]) rfl (.inr ⟨A11, c11, out, ⟨hl1000.out.1, hl1000.out.2, m, hpss.out.1, hpss.out.2, hm3, by rw [← hHo.out]; omega, hHo.out⟩, rfl, hO, hgz⟩)
    · go_wp2_with fail
      exact bodyPost_ret (v := .tuple #[.slice none 0 0, .int .i64 1]) (by simp [results, Tryz.results21, go_sem]) rfl (.inl ⟨1, (.inr (.inl ⟨by rw [hln.out]; omega, hfr.out.symm, rfl⟩)), rfl, hg1⟩)

end Go.Proofs.YtejmbaiioblfeaaGreatDoor

/- Contracts of functions that this seat's laws reach, each: what one call returns and what it leaves in memory; no condition beyond each theorem's own hypotheses. -/
import Derived.Test.YtcjocckpbgihcaaGreatDoorZqReady
import Derived.Test.YtcjocckpbgihcaaGreatDoorZqLateG
import Derived.Test.YtcjocckpbgihcaaGreatDoorZqLateL
import Derived.Test.YtcjocckpbgihcaaGreatDoorZqOrderP
import Derived.Test.YtcjocckpbgihcaaGreatDoorZqLateData
set_option linter.unusedVariables false
set_option linter.unusedSimpArgs false
namespace Go.Proofs.YtcjocckpbgihcaaGreatDoor
open Go Go.RowKit Go.Bl

theorem prnsF_first {x : Prn} {p : List Prn} (h : prnsF (x :: p) = 0) : prnsF [x] = 0 := by
  unfold prnsF at h
  rw [if_neg (by simp)] at h
  by_cases h2 : 50 < (x :: p).length
  · rw [if_pos h2] at h; cases h
  · rw [if_neg h2] at h
    have := scanN_zero h 0 (by simp)
    unfold prnsF
    rw [if_neg (by simp), if_neg (by simp)]
    show (if scanN (prnF [x]) 0 = 0 then prnF [x] 0 else scanN (prnF [x]) 0) = 0
    rw [show scanN (prnF [x]) 0 = 0 from rfl, if_pos rfl]
    exact this

theorem isP_of_perm {n : Nat} {l : List Int} (h : l.Perm (idL n)) : IsP n l := by
  refine ⟨?_, fun i hi => ?_⟩
  · rw [h.nodup_iff]
    unfold idL
    rw [List.nodup_iff_pairwise_ne, List.pairwise_map]
    exact List.pairwise_lt_range.imp fun h => by omega
  · have := h.mem_iff.1 hi
    obtain ⟨q, hq, rfl⟩ := List.mem_map.1 this
    have := List.mem_range.1 hq
    omega

set_option maxHeartbeats 4000000 in
set_option maxRecDepth 100000 in
theorem leastLate_law (A : Option Addr) (n c : Nat) (L : List Int) (w : World) (hL : Sl w 0 A L) (hn : L.length = n) :
    Calls Tryz.prog 3 #[.slice A n c] w fun e w' => e = .returned (.bool true) ∧ w.grownBy w' none := by
  have hs0 := strm_new (c := c) 25 hL hn
  have hg0 := gr_alloc (World.grownBy.refl w none) (.cells #[.slice A n c, .int .i64 0] 25)
  have hS0 := SOut.refl hs0
  go_enter Tryz.func3, Tryz.ntmps3
  go_wp2_with fail
  refine (rightPrinters_any _ 0 1 _ hs0 (by omega) (by omega)).mono ?_
  rintro e w1 ⟨p, A1, c1, rfl, hp, hp3, hpc, hpF, ho1⟩
  replace hS0 := hS0.trans ho1
  go_wp2_with fail
  refine (rightJobs_any _ _ 5 _ hS0.2 (by omega) (by omega)).mono ?_
  rintro e w2 ⟨j, A2, c2, rfl, hj, hj5, -, hjF, ho2⟩
  replace hS0 := hS0.trans ho2
  replace hp := hp.gr ho2.1 (fun x e => by injection e; omega)
  have hbw2 := hS0.2.lt
  go_wp2_with fail
  refine (pick_any w.heap.size _ _ _ _ [0, 5, 10, 30] _ (hS0.2.pure (gr_alloc (World.grownBy.refl _ _) _)) (by omega) (sl_intsAt _ _ _ _ _ (by first | rfl | simp) (by omega) (by simp [maxLen])) rfl (by simp)).mono ?_
  rintro e w3 ⟨ch, rfl, hch, ho3⟩
  replace hp := ((hp.pure (gr_alloc (World.grownBy.refl _ _) _)).gr ho3.1 (fun x e => by injection e; omega))
  replace hj := ((hj.pure (gr_alloc (World.grownBy.refl _ _) _)).gr ho3.1 (fun x e => by injection e; omega))
  replace hS0 := (hS0.al _).trans ho3
  have hp1 : p ≠ [] := by rintro rfl; cases hpF
  obtain ⟨⟨key, mat⟩, p', rfl⟩ := List.exists_cons_of_ne_nil hp1
  have hc : spanF ch 0 100000 = 0 := by
    simp only [List.mem_cons, List.not_mem_nil, or_false] at hch
    rcases hch with rfl | rfl | rfl | rfl <;> decide
  have hF : farmF [⟨key, mat⟩] j = 0 := by unfold farmF; rw [if_pos (prnsF_first hpF)]; exact hjF
  have hgw : w.grownBy w3 none := gr_new hg0 hS0.1 (Nat.le_refl _)
  have hp0 : Sl w3 (w.heap.size + 1) A1 [(⟨key, mat⟩ : Prn)] := hp.take 1
  obtain ⟨gp, op, cp, rfl, _, _, rfl, hcp⟩ := hp.at_ (by decide) (k := 0) (by simp)
  have p0 : w3.cell? ⟨gp, op, none⟩ = some (.string key) := by simpa using hcp 0 _ rfl
  have p1 : w3.cell? ⟨gp, op + 1, none⟩ = some (.string mat) := by simpa using hcp 1 _ rfl
  have hLs := leastLate_any key mat A2 c2 j ch w3 (hj.mono (Nat.zero_le _)) hF hc (by omega)
  obtain ⟨s1, s2, s3, s4⟩ := leastL_spec (f := latF j ch mat) (n := j.length) (fun o => lateR_nn j ch (0, mat) o)
  obtain ⟨LL, hLL⟩ : ∃ x, leastL (latF j ch mat) j.length = x := ⟨_, rfl⟩
  rw [hLL] at hLs s1 s2 s3 s4
  have hpc1 : 1 ≤ c1 := by simp at hpc; omega
  clear hcp hp hLL hch hpc hp3 hpF ho1 ho2 ho3 hs0 hg0 hp1
  go_wp2_with fail
  refine hLs.mono ?_
  rintro e w4 ⟨B, d, rfl, hd, hsb, hg4⟩
  clear hLs p0 p1
  have hPl : plannedF [⟨key, mat⟩] j [LL.1] ch = 0 := planned_order hF rfl hc s1 s2
  have eT : lateT [⟨key, mat⟩] j [LL.1] ch = LL.2 := by unfold lateT; rw [if_pos hPl, lateS_order s1 s2, s3]; rfl
  have eM : lateM [⟨key, mat⟩] j [LL.1] ch = lateL (endsF [⟨key, mat⟩] j [LL.1] ch) j j.length := if_pos hPl
  have hnil := (lateL_nil (endsF [⟨key, mat⟩] j [LL.1] ch) j j.length).2
  rw [lateS_order s1 s2, ← eM] at hnil
  have hnil2 : Hid (LL.2 = 0 ↔ lateM [⟨key, mat⟩] j [LL.1] ch = []) := by rw [Hid, s3]; exact hnil
  have hga := gr_alloc (World.grownBy.refl w4 none) (.cells #[.slice B LL.1.length d] 22)
  have hpl : Sl (w4.alloc (.cells #[.slice B LL.1.length d] 22)) 0 (some ⟨w4.heap.size, 0, none⟩) [LL.1] :=
    sl_lit w4 0 [.slice B LL.1.length d] _ [LL.1] (Nat.zero_le _) (by simp [maxLen]) (Row.single ⟨B, d, rfl, hd, hsb.pure hga⟩)
  have hLt := late_any (some ⟨gp, op, none⟩) c1 [⟨key, mat⟩] A2 c2 j _ 1 [LL.1] ch _ ((hp0.pure (hg4.t hga)).mono (Nat.zero_le _)) ((hj.pure (hg4.t hga)).mono (Nat.zero_le _)) hpl
  rw [hPl, eT] at hLt
  replace s4 := hide s4
  replace hF := hide hF
  replace hc := hide hc
  clear eM hnil hpl eT hPl hsb hd s1 s2 s3
  generalize lateM [⟨key, mat⟩] j [LL.1] ch = M at *
  generalize hV : LL.2 = V at *
  clear hV
  go_wp2_with fail
  refine hLt.mono ?_
  rintro e w5 ⟨M', cm, rfl, hM, hg5⟩
  clear hLt hM
  have hg35 := hg4.t (hga.t hg5)
  replace hp0 := hp0.pure hg35
  replace hj := hj.pure hg35
  replace hS0 := hS0.pure hg35
  replace hgw := hgw.t hg35
  clear hg35 hga hg4 hg5
  go_upto_region 7 with fail
  refine wp_region_tree (fun _ => True) [2, 2, 2, 2, 2, 2, 0, 0, 2, 0, 2, 2, 2, 2, 2, 2, 2] (.bl 0 (.bl 1 (.bl 2 (.bl 3 (.bl 4 (.bl 5 (.bl 8 (.ef 6 (.ef 7 (.ef 9 (.bl 10 (.bl 11 (.bl 12 (.bl 13 (.bl 14 (.bl 15 (.bl 16 .done))))))))))))))))) (by kernel_rfl) (by kernel_rfl) (trivial) ?_
  obtain ⟨W1, hW1⟩ : ∃ x, x = (w5).drew := ⟨_, rfl⟩
  rw [← hW1]
  have hgW1 : (w5).grownBy W1 none := by rw [hW1]; exact gr_drew (World.grownBy.refl _ _)
  clear hW1
  replace hp0 := hp0.pure hgW1
  replace hj := hj.pure hgW1
  replace hS0 := hS0.pure hgW1
  replace hgw := hgw.t hgW1
  clear hgW1
  refine tree_p rfl rfl rfl rfl _ rfl (by simp) (fun K hK => ?_)
  apply Exists.intro
  refine ⟨fun wq K' hK' => ?_, ?_⟩
  · go_wp2_with fail
    exact hK'
  go_simp
  refine hK _ ?_
  clear hK K
  refine tree_p rfl rfl rfl rfl _ rfl (by simp) (fun K hK => ?_)
  apply Exists.intro
  refine ⟨fun wq K' hK' => ?_, ?_⟩
  · go_wp2_with fail
    exact hK'
  go_simp
  refine hK _ ?_
  clear hK K
  refine tree_p rfl rfl rfl rfl _ rfl (by simp) (fun K hK => ?_)
  apply Exists.intro
  refine ⟨fun wq K' hK' => ?_, ?_⟩
  · go_wp2_with fail
    exact hK'
  go_simp
  refine hK _ ?_
  clear hK K
  refine tree_p rfl rfl rfl rfl _ rfl (by simp) (fun K hK => ?_)
  apply Exists.intro
  refine ⟨fun wq K' hK' => ?_, ?_⟩
  · go_wp2_with fail
    exact hK'
  go_simp
  refine hK _ ?_
  clear hK K
  refine tree_p rfl rfl rfl rfl _ rfl (by simp) (fun K hK => ?_)
  apply Exists.intro
  refine ⟨fun wq K' hK' => ?_, ?_⟩
  · go_wp2_with fail
    exact hK'
  go_simp
  refine hK _ ?_
  clear hK K
  refine tree_p rfl rfl rfl rfl _ rfl (by simp) (fun K hK => ?_)
  apply Exists.intro
  refine ⟨fun wq K' hK' => ?_, ?_⟩
  · go_wp2_with fail
    exact hK'
  go_simp
  refine hK _ ?_
  clear hK K
  refine tree_p rfl rfl rfl rfl _ rfl (by simp) (fun K hK => ?_)
  apply Exists.intro
  refine ⟨fun wq K' hK' => ?_, ?_⟩
  · go_wp2_with fail
    exact hK'
  go_simp
  refine hK _ ?_
  clear hK K
  refine tree_e0 (by kernel_rfl) rfl rfl (fun K hK => ?_)
  go_wp2_with fail
  refine (orderP_any _ _ j.length W1 hS0.2 (by omega) (by omega)).mono ?_
  rintro e w6 ⟨o, B2, d2, rfl, hO, hol, hop, ho6⟩
  replace hol := hide hol
  go_wp2_with fail
  try go_simp
  refine hK _ _ trivial ?_
  clear hK K
  have hbo : w.heap.size < W1.heap.size := hS0.2.lt
  have hgw6 := gr_new hgw ho6.1 (by omega)
  have hga := gr_alloc (World.grownBy.refl w6 none) (.cells #[.slice B2 o.length d2] 22)
  have hpl : Sl (w6.alloc (.cells #[.slice B2 o.length d2] 22)) 0 (some ⟨w6.heap.size, 0, none⟩) [o] :=
    sl_lit w6 0 [.slice B2 o.length d2] _ [o] (Nat.zero_le _) (by simp [maxLen]) (Row.single ⟨B2, d2, rfl, hO.cap, (hO.sl.mono (Nat.zero_le _)).pure hga⟩)
  have hoP := isP_of_perm hop
  have hPl : plannedF [⟨key, mat⟩] j [o] ch = 0 := planned_order hF.out rfl hc.out hoP hol.out
  have eT : lateT [⟨key, mat⟩] j [o] ch = latF j ch mat o := by unfold lateT; rw [if_pos hPl, lateS_order hoP hol.out]; rfl
  have hle := s4.out o hoP hol.out
  have hLt := late_any (some ⟨gp, op, none⟩) c1 [⟨key, mat⟩] A2 c2 j _ 1 [o] ch _ (((hp0.s ho6 (by omega)).pure hga).mono (Nat.zero_le _)) (((hj.s ho6 (by omega)).pure hga).mono (Nat.zero_le _)) hpl
  rw [hPl, eT] at hLt
  replace hgw6 := hgw6.t hga
  clear hpl hPl eT hoP hO hol hop ho6 s4 hF hc hp0 hj hS0 hgw hga
  generalize latF j ch mat o = V2 at *
  refine tree_e0 (by kernel_rfl) rfl rfl (fun K hK => ?_)
  go_wp2_with fail
  try go_simp
  refine hK _ _ trivial ?_
  clear hK K
  refine tree_e0 (by kernel_rfl) rfl rfl (fun K hK => ?_)
  go_wp2_with fail
  refine hLt.mono ?_
  rintro e w9 ⟨M2, cm2, rfl, -, hg9⟩
  go_wp2_with fail
  try go_simp
  refine hK _ _ trivial ?_
  clear hK K
  refine tree_p rfl rfl rfl rfl _ rfl (by simp) (fun K hK => ?_)
  apply Exists.intro
  refine ⟨fun wq K' hK' => ?_, ?_⟩
  · go_wp2_with fail
    exact hK'
  go_simp
  refine hK _ ?_
  clear hK K
  refine tree_p rfl rfl rfl rfl _ rfl (by simp) (fun K hK => ?_)
  apply Exists.intro
  refine ⟨fun wq K' hK' => ?_, ?_⟩
  · go_wp2_with fail
    exact hK'
  go_simp
  refine hK _ ?_
  clear hK K
  refine tree_p rfl rfl rfl rfl _ rfl (by simp) (fun K hK => ?_)
  apply Exists.intro
  refine ⟨fun wq K' hK' => ?_, ?_⟩
  · go_wp2_with fail
    exact hK'
  go_simp
  refine hK _ ?_
  clear hK K
  refine tree_p rfl rfl rfl rfl _ rfl (by simp) (fun K hK => ?_)
  apply Exists.intro
  refine ⟨fun wq K' hK' => ?_, ?_⟩
  · go_wp2_with fail
    exact hK'
  go_simp
  refine hK _ ?_
  clear hK K
  refine tree_p rfl rfl rfl rfl _ rfl (by simp) (fun K hK => ?_)
  apply Exists.intro
  refine ⟨fun wq K' hK' => ?_, ?_⟩
  · go_wp2_with fail
    exact hK'
  go_simp
  refine hK _ ?_
  clear hK K
  refine tree_p rfl rfl rfl rfl _ rfl (by simp) (fun K hK => ?_)
  apply Exists.intro
  refine ⟨fun wq K' hK' => ?_, ?_⟩
  · go_wp2_with fail
    exact hK'
  go_simp
  refine hK _ ?_
  clear hK K
  refine tree_p rfl rfl rfl rfl _ rfl (by simp) (fun K hK => ?_)
  apply Exists.intro
  refine ⟨fun wq K' hK' => ?_, ?_⟩
  · go_wp2_with fail
    exact hK'
  go_simp
  refine hK _ ?_
  clear hK K
  refine tree_done ?_
  clear hLt
  replace hgw6 := hgw6.t hg9
  by_cases h0 : V = 0
  · have hM0 := hnil2.out.1 h0
    subst hM0
    subst h0
    clear hnil2
    go_wp2_with fail
    refine (ready_any _).mono ?_
    rintro e wz ⟨rfl, hgz⟩
    go_wp2_with fail
    go_ret
    exact ⟨rfl, hgw6.t hgz⟩
  · have hM0 : (M.length : Int) ≠ 0 := fun e => h0 (hnil2.out.2 (List.eq_nil_of_length_eq_zero (by omega)))
    have hb1 : (V == 0) = false := by simp [h0]
    have hb2 : ((M.length : Int) == 0) = false := by simp only [beq_eq_false_iff_ne]; exact hM0
    clear hnil2 h0 hM0
    go_wp2_with fail
    refine (ready_any _).mono ?_
    rintro e wz ⟨rfl, hgz⟩
    go_wp2_with fail
    go_ret
    exact ⟨rfl, hgw6.t hgz⟩

end Go.Proofs.YtcjocckpbgihcaaGreatDoor

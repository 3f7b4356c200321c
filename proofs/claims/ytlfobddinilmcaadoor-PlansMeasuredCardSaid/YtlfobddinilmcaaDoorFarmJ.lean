/- Contracts of functions that this seat's laws reach, each: what one call returns and what it leaves in memory; no condition beyond each theorem's own hypotheses. -/
import Derived.Test.YtlfobddinilmcaaDoorEndsData
set_option linter.unusedVariables false
set_option linter.unusedSimpArgs false
namespace Go.Proofs.YtlfobddinilmcaaDoor
open Go Go.RowKit Go.Bl

set_option maxHeartbeats 4000000 in
set_option maxRecDepth 100000 in
theorem ends_any (A : Option Addr) (c : Nat) (p : List Prn) (B : Option Addr) (d : Nat) (j : List Jb) (C : Option Addr) (e0 : Nat) (plan : List (List Int)) (ch : Int) (w : World) (hp : Sl w 0 A p) (hj : Sl w 0 B j) (hpl : Sl w 0 C plan) (hok : POk p j plan ch) :
    Calls Tryd.prog 52 #[.slice A p.length c, .slice B j.length d, .slice C plan.length e0, .int .i64 ch] w fun e w' => ∃ g, e = .returned (.tuple #[.slice (some ⟨g, 0, none⟩) j.length j.length, .int .i64 (endF p j plan ch)]) ∧ Own w' w.heap.size 3 (some ⟨g, 0, none⟩) j.length (endsF p j plan ch) ∧ w.grownBy w' none := by
  have hj5 := hok.len
  have hch := hok.chg
  have hrw := hok.row
  have hpm := hpl.1
  unfold maxLen at hpm
  obtain ⟨i0, hi, hz, hi1, hi2⟩ := info_parts info_int
  obtain ⟨w2, hrun, hoO, hg2⟩ := run_makeOwn (P := Tryd.prog) w 22 3 i0 _ (0 : Int) Tryd.underlying22 hi hz hi1 rfl rfl .i64 .i64 j.length (by rw [hi2]; omega) (by simp [maxLen]; omega)
  clear hi hz hi1 hi2 i0
  obtain ⟨gs, hgs⟩ : ∃ g, g = w.heap.size := ⟨_, rfl⟩
  rw [← hgs] at hrun hoO
  have hgs0 : w.heap.size ≤ gs := by omega
  clear hgs
  replace hoO := hoO.lower hgs0
  replace hok := hide hok
  go_enter Tryd.func52, Tryd.ntmps52
  go_wp2_with fail
  clear hrun
  go_loopw [11, 22] (fun l i wr => ∃ k : Nat, k ≤ plan.length ∧ i = .int .i64 k ∧ l = .int .i64 (lastO (pairsK p j plan ch k)) ∧ Own wr w.heap.size 3 (some ⟨gs, 0, none⟩) j.length (outO j.length (pairsK p j plan ch k)) ∧ w.grownBy wr none) (fun _ i _ => plan.length - (intOf i).toNat)
  case atStart => exact ⟨0, Nat.zero_le _, rfl, rfl, hoO, hg2⟩
  case round =>
    clear hoO hg2
    obtain ⟨k, hk, rfl, rfl, hoO, hg⟩ := hrel
    by_cases hlt : k < plan.length
    · obtain ⟨g, o, Bk, dk, rfl, hb1, c0, hsl⟩ := sl_inner hpl hlt
      replace c0 := hg.k c0
      have hpk : k < p.length := by omega
      clear hrw
      obtain ⟨ga, oa, cx, rfl, _, hb2, rfl, hc⟩ := (hp.pure hg).at_ (by decide) hpk
      have d0 : wr.cell? ⟨ga, oa + k * 2, none⟩ = some (.string p[k].key) := hc 0 _ rfl
      have d1 : wr.cell? ⟨ga, oa + k * 2 + 1, none⟩ = some (.string p[k].mat) := hc 1 _ rfl
      clear hc
      have hps : pairsK p j plan ch (k + 1) = pairsK p j plan ch k ++ rowC j ch (0, p[k].mat) plan[k] := by rw [pairsK_succ]; unfold rowP; simp [List.getD, hlt, hpk]
      replace hps := hide hps
      have hin := hide (fun i hi => hok.out.ix i (row_in hlt i hi))
      have hln := hide (Nat.le_trans (row_len hlt) hok.out.few)
      obtain ⟨row, hrow⟩ : ∃ x, x = plan[k] := ⟨_, rfl⟩
      rw [← hrow] at c0 hsl hps hin hln
      clear hrow
      have hrm := hln.out
      generalize hPk : pairsK p j plan ch k = Pk at *
      clear hPk
      go_upto_region 7 with fail
      obtain ⟨w0, hw0⟩ : ∃ x, x = (wr).alloc (.cells [.int .i64 0, .string p[k].mat].toArray 92) := ⟨_, rfl⟩
      have hg0 : (wr).grownBy w0 none := by rw [hw0]; exact gr_alloc (World.grownBy.refl _ _) _
      have hb0 : Box w0 (wr).heap.size 92 [.int .i64 0, .string p[k].mat] := by rw [hw0]; exact Box.new _ _ _
      have hxs0 := hb0.lt
      rw [← hw0]
      clear hw0
      obtain ⟨x0, hx0⟩ : ∃ x, x = (wr).heap.size := ⟨_, rfl⟩
      rw [← hx0] at hb0 hxs0 ⊢
      have hxl0 : (wr).heap.size ≤ x0 := by omega
      clear hx0
      replace c0 := hg0.k c0
      have hx0 : w.heap.size ≤ x0 := Nat.le_trans hg.size hxl0
      replace hoO := hoO.pure hg0
      replace hg := gr_trans hg hg0
      clear hg0 d0 d1
      generalize hmt : p[k].mat = mat at *
      clear hmt
      go_wp2_with fail
      go_loopw [11, 35] (fun l i wr => ∃ m : Nat, m ≤ row.length ∧ i = .int .i64 m ∧ l = .int .i64 (lastO (Pk ++ rowC j ch (0, mat) (row.take m))) ∧ Own wr w.heap.size 3 (some ⟨gs, 0, none⟩) j.length (outO j.length (Pk ++ rowC j ch (0, mat) (row.take m))) ∧ Box wr x0 92 [.int .i64 (clkC j ch (0, mat) (row.take m)).1, .string (clkC j ch (0, mat) (row.take m)).2] ∧ w.grownBy wr none) (fun _ i _ => row.length - (intOf i).toNat)
      case atStart => exact ⟨0, Nat.zero_le _, rfl, by simp [rowC], by simpa [rowC] using hoO, hb0, hg⟩
      case round =>
        clear hoO hg hb0 c0
        obtain ⟨m, hmk, rfl, rfl, hoO, hb0, hg⟩ := hrel
        by_cases hml : m < row.length
        · obtain ⟨g2, o2, cx, rfl, _, hb2', rfl, hc⟩ := (hsl.pure hg).at_ (by decide) hml
          have r0 : _ := hc 0 _ rfl
          rw [show Enc.sz Int = 1 from rfl, Nat.mul_one, Nat.add_zero] at r0
          clear hc
          have hri := hin.out _ (List.getElem_mem hml)
          obtain ⟨x, hx⟩ := Int.eq_ofNat_of_zero_le hri.1
          have hxl : x < j.length := by omega
          have htk := take_snoc hml
          have hps2 : Hid (Pk ++ rowC j ch (0, mat) (row.take (m + 1)) = (Pk ++ rowC j ch (0, mat) (row.take m)) ++ [((x : Int), (doC (clkC j ch (0, mat) (row.take m)) j[x] ch).1)]) := by rw [Hid, htk, rowC_snoc, List.append_assoc, hx, jobAt_nat hxl]
          have hck2 : Hid (clkC j ch (0, mat) (row.take (m + 1)) = doC (clkC j ch (0, mat) (row.take m)) j[x] ch) := by rw [Hid, htk, clkC_snoc, hx, jobAt_nat hxl]
          have hbd := clkC_bd hok.out.toJOk (row.take m) (fun i hi => hin.out i (List.mem_of_mem_take hi)) (0, mat) (N := 0) (by simp)
          rw [List.length_take, Nat.min_eq_left hmk] at hbd
          obtain ⟨gj, oj, cx, rfl, _, hbj, rfl, hc⟩ := (hj.pure hg).at_ (by decide) hxl
          have hjb := hok.out.bd _ (List.getElem_mem hxl)
          rw [hx] at r0
          clear htk hri hx
          generalize hQ : Pk ++ rowC j ch (0, mat) (row.take m) = Q at *
          generalize hcl : clkC j ch (0, mat) (row.take m) = cl at *
          clear hQ hcl
          obtain ⟨cle, clm⟩ := cl
          have xb := hbd.1
          have xb2 := hbd.2
          simp only at xb xb2
          have j0 : wr.cell? ⟨gj, oj + x * 4, none⟩ = some (.string j[x].key) := hc 0 _ rfl
          have j1 : wr.cell? ⟨gj, oj + x * 4 + 1, none⟩ = some (.string j[x].mat) := hc 1 _ rfl
          have j2 : wr.cell? ⟨gj, oj + x * 4 + 2, none⟩ = some (.int .i64 j[x].min) := hc 2 _ rfl
          have j3 : wr.cell? ⟨gj, oj + x * 4 + 3, none⟩ = some (.int .i64 j[x].due) := hc 3 _ rfl
          clear hc
          generalize hY : j[x] = Y at *
          have hcd := clockDo_any cle clm Y ch
          obtain ⟨z, hz⟩ : ∃ z, z = doC (cle, clm) Y ch := ⟨_, rfl⟩
          rw [← hz] at hcd hck2 hps2
          clear hz
          go_upto_region 10 with fail
          refine wp_region_tree (fun wx => wr.grownBy wx none) [1, 2, 2, 2, 1, 2, 0, 0] (.bl 0 (.bl 1 (.bl 2 (.bl 3 (.bl 4 (.bl 5 (.ef 6 (.ef 7 .done)))))))) (by kernel_rfl) (by kernel_rfl) (gr_drew (World.grownBy.refl _ _)) ?_
          obtain ⟨W1, hW1⟩ : ∃ x, x = (wr).drew := ⟨_, rfl⟩
          rw [← hW1]
          have hgW1 : (wr).grownBy W1 none := by rw [hW1]; exact gr_drew (World.grownBy.refl _ _)
          clear hW1
          refine tree_b rfl rfl rfl rfl _ rfl (by simp) (fun K hK => ?_)
          apply Exists.intro
          refine ⟨fun wq hq K' hK' => ?_, ?_⟩
          · have jj0 := hq.k j0
            have jj1 := hq.k j1
            have jj2 := hq.k j2
            have jj3 := hq.k j3
            have ⟨bb0, _⟩ := (hb0.pure hq).c 0 rfl
            have ⟨bb1, _⟩ := (hb0.pure hq).c 1 rfl
            go_wp2_with fail
            exact hK'
          go_simp
          refine hK _ ?_
          clear hK K
          refine tree_p rfl rfl rfl rfl _ rfl (by simp) (fun K hK => ?_)
          apply Exists.intro
          refine ⟨fun wq K' hK' => ?_, ?_⟩
          · go_wp2_with fail
            exact hK'
          go_simp
          refine hK _ ?_
          clear hK K
          refine tree_p rfl rfl rfl rfl _ rfl (by simp) (fun K hK => ?_)
          apply Exists.intro
          refine ⟨fun wq K' hK' => ?_, ?_⟩
          · go_wp2_with fail
            exact hK'
          go_simp
          refine hK _ ?_
          clear hK K
          refine tree_p rfl rfl rfl rfl _ rfl (by simp) (fun K hK => ?_)
          apply Exists.intro
          refine ⟨fun wq K' hK' => ?_, ?_⟩
          · go_wp2_with fail
            exact hK'
          go_simp
          refine hK _ ?_
          clear hK K
          refine tree_b rfl rfl rfl rfl _ rfl (by simp) (fun K hK => ?_)
          apply Exists.intro
          refine ⟨fun wq hq K' hK' => ?_, ?_⟩
          · have jj0 := hq.k j0
            have jj1 := hq.k j1
            have jj2 := hq.k j2
            have jj3 := hq.k j3
            have ⟨bb0, _⟩ := (hb0.pure hq).c 0 rfl
            have ⟨bb1, _⟩ := (hb0.pure hq).c 1 rfl
            go_wp2_with fail
            exact hK'
          go_simp
          refine hK _ ?_
          clear hK K
          refine tree_p rfl rfl rfl rfl _ rfl (by simp) (fun K hK => ?_)
          apply Exists.intro
          refine ⟨fun wq K' hK' => ?_, ?_⟩
          · go_wp2_with fail
            exact hK'
          go_simp
          refine hK _ ?_
          clear hK K
          refine tree_e0 (by kernel_rfl) rfl rfl (fun K hK => ?_)
          go_wp2_with fail
          refine (hcd W1 ?_ ?_ ?_).mono ?_
          · omega
          · omega
          · omega
          rintro e w6 ⟨rfl, hg6⟩
          have hg6w := gr_trans hgW1 hg6
          go_wp2_with fail
          try go_simp
          refine hK _ _ trivial ?_
          clear hK K
          refine tree_e0 (by kernel_rfl) rfl rfl (fun K hK => ?_)
          have hb6 := hb0.pure hg6w
          obtain ⟨y0, z0⟩ := hb6.c 0 rfl
          obtain ⟨y1, z1⟩ := hb6.c 1 rfl
          go_wp2_with fail
          try go_simp
          refine hK _ _ trivial ?_
          clear hK K
          refine tree_done ?_
          have hoO6 := hoO.pure hg6w
          have hne := hb6.ne_own hoO6 (by decide)
          obtain ⟨w8, hw8⟩ : ∃ x, x = (w6.setCell ⟨x0, 0, none⟩ (.int .i64 z.1)).setCell ⟨x0, 1, none⟩ (.string z.2) := ⟨_, rfl⟩
          have hb8 : Box w8 x0 92 [.int .i64 z.1, .string z.2] := by rw [hw8]; exact (hb6.set_ 0 _ (by simp)).set_ 1 _ (by simp)
          have hoO8 : Own w8 w.heap.size 3 (some ⟨gs, 0, none⟩) j.length (outO j.length Q) := by rw [hw8]; exact (hoO6.set_other _ hne).set_other _ hne
          have hg8 : w.grownBy w8 none := by rw [hw8]; exact gr_set (gr_set (gr_trans hg hg6w) (.inr hx0) _) (.inr hx0) _
          rw [← hw8]
          clear hw8 y0 y1 z0 z1 hb6 hoO6 hg6w hg6 hgW1 hcd j0 j1 j2 j3 r0 hb0 hg hoO hY hjb xb xb2 hbd hne
          obtain ⟨y0, z0⟩ := hb8.c 0 rfl
          obtain ⟨y1, z1⟩ := hb8.c 1 rfl
          have hlO : x < (outO j.length Q).length := by rw [outO_len]; exact hxl
          have o0 := hoO8.cell_int hlO
          have of := hoO8.frozen x
          have hoO9 := hoO8.set_int x z.1
          have hb9 := hb8.set_other (g' := gs) (i := x) (.int .i64 z.1) (fun e => hb8.ne_own hoO8 (by decide) (by rw [e]; rfl))
          have hg9 := gr_set hg8 (p := ⟨gs, x, none⟩) (.inr hgs0) (.int .i64 z.1)
          obtain ⟨y2, z2⟩ := hb9.c 0 rfl
          obtain ⟨y3, z3⟩ := hb9.c 1 rfl
          go_wp2_with fail
          (go_roundw; (case rel => exact ⟨m + 1, by omega, by go_num, by rw [hps2.out, lastO_snoc], by rw [hps2.out, outO_snoc]; exact hoO9, by rw [hck2.out]; exact hb9, hg9⟩); (case measure => simp [intOf]; omega))
        · have hm2 : m = row.length := by omega
          subst hm2
          rw [List.take_length] at hoO hb0 ⊢
          rw [← hps.out] at hoO ⊢
          go_wp2_with fail
          (go_roundw; (case rel => exact ⟨k + 1, by omega, by go_num, rfl, hoO, hg⟩); (case measure => simp [intOf]; omega))
    · have hke : k = plan.length := by omega
      subst hke
      go_wp2_with fail
      refine bodyPost_ret (v := .tuple #[.slice (some ⟨gs, 0, none⟩) j.length j.length, .int .i64 (lastO (pairsK p j plan ch plan.length))]) (by simp [results, Tryd.results52, go_sem]) rfl ⟨gs, rfl, hoO, hg⟩
end Go.Proofs.YtlfobddinilmcaaDoor

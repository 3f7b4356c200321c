/- Contracts of functions that this seat's laws reach, each: what one call returns and what it leaves in memory; no condition beyond each theorem's own hypotheses. -/
import Derived.Test.YtkcchcnljanloaaGreatZqShellB
import Derived.Test.YtkcchcnljanloaaGreatZqMeshVol
import Derived.Test.YtkcchcnljanloaaGreatZqVolLaw
import Derived.BigQuiet
set_option linter.unusedVariables false
set_option linter.unusedSimpArgs false
namespace Go.Proofs.YtkcchcnljanloaaGreat
open Go Go.RowKit Go.Bl

noncomputable def grpVol (vs : List V3) (fs : List Fc) (g : List Nat) : Int := (g.map fun k => partV vs (fcAt fs k)).sum

noncomputable def volsS (vs : List V3) (fs : List Fc) : List Int := (shellsF fs).map (grpVol vs fs)

noncomputable def volsF (vs : List V3) (fs : List Fc) : List Int := if openS fs = [] then volsS vs fs else []

theorem volsS_sum (vs : List V3) (fs : List Fc) : (volsS vs fs).sum = volS vs fs := by
  unfold volsS grpVol
  rw [shells_sum fs fun k => partV vs (fcAt fs k)]
  unfold volS
  congr 1
  apply List.ext_getElem
  · simp
  · intro k h1 h2
    simp only [List.length_map, List.length_range] at h1
    simp [fcAt, List.getD_eq_getElem?_getD, h1]

theorem shell_mem {fs : List Fc} {g : List Nat} (h : g ∈ shellsF fs) : g.length ≤ fs.length ∧ ∀ k ∈ g, k < fs.length := by
  unfold shellsF shellsTo at h
  obtain ⟨i, -, rfl⟩ := List.mem_map.1 h
  have hb : ∀ k ∈ compF fs i, k < fs.length := fun k hk => (mem_comp.1 hk).lt.2
  exact ⟨nodup_bound (comp_nodup fs i) hb, hb⟩

theorem grpVol_snoc (vs : List V3) (fs : List Fc) {g : List Nat} {q : Nat} (h : q < g.length) : grpVol vs fs (g.take (q + 1)) = grpVol vs fs (g.take q) + partV vs (fcAt fs g[q]) := by
  unfold grpVol
  rw [take_snoc h, List.map_append, List.sum_append]; simp

theorem grpVol_bd {vs : List V3} (h : vs.any farV = false) (fs : List Fc) : ∀ g : List Nat, -(6000000000000000 * g.length) ≤ grpVol vs fs g ∧ grpVol vs fs g ≤ 6000000000000000 * g.length
  | [] => by simp [grpVol]
  | k :: r => by
    have h1 := grpVol_bd h fs r
    have h2 := partV_bd h (fcAt fs k)
    have e : grpVol vs fs (k :: r) = partV vs (fcAt fs k) + grpVol vs fs r := by simp [grpVol]
    rw [e, List.length_cons]
    omega

theorem fcAt_in {fs : List Fc} {k : Nat} (h : k < fs.length) : fcAt fs k = fs[k] := by unfold fcAt; rw [List.getD_eq_getElem?_getD, List.getElem?_eq_getElem h, Option.getD_some]

theorem shellsI_eq (fs : List Fc) : shellsI fs fs.length = (shellsF fs).map gi := rfl

theorem shellsF_len (fs : List Fc) : (shellsF fs).length ≤ fs.length := by have := shellsI_len fs fs.length; rw [shellsI_eq] at this; simpa using this

set_option maxHeartbeats 4000000 in
set_option maxRecDepth 100000 in
theorem volumes_any (A : Option Addr) (c : Nat) (vs : List V3) (B : Option Addr) (d : Nat) (fs : List Fc) (w : World) (hl : Sl w 0 A vs) (hfs : Sl w 0 B fs) (hM : meshF ⟨vs, fs⟩ = 0) :
    Calls Tryz.prog 12 #[.agg #[.slice A vs.length c, .slice B fs.length d]] w fun e w' => ∃ O co, e = .returned (.tuple #[.slice O (volsF vs fs).length co, .int .i64 (closE fs)]) ∧ Own w' w.heap.size 3 O co (volsF vs fs) ∧ w.grownBy w' none := by
  have hg0 := gr_alloc (World.grownBy.refl w none) (.cells #[.slice A vs.length c, .slice B fs.length d] 29)
  have b0 := Cell.new w [.slice A vs.length c, .slice B fs.length d] 29 0 _ rfl _ rfl
  have b1 := Cell.new w [.slice A vs.length c, .slice B fs.length d] 29 1 _ rfl _ rfl
  have hok := meshOk.1 hM
  have hm2 := hok.fl
  have hCF := closedFault_any A c vs B d fs _ (hl.pure hg0) (hfs.pure hg0) hM
  by_cases hz : openS fs = []
  · rw [show volsF vs fs = volsS vs fs by unfold volsF; rw [if_pos hz]]
    rw [show closE fs = 0 by unfold closE; rw [if_pos hz]] at hCF ⊢
    have hSh := fun W h => shells_any A vs.length c B d fs W h hok.fl (fun s hs => by
      obtain ⟨f, hf, hs⟩ := List.mem_flatMap.1 hs
      exact sd_cell hok.vl (faceF_in (hok.face f hf)) s hs)
    replace hCF := hide hCF
    clear hz
    replace hok := hide hok
    have hSL := shellsF_len fs
    rw [shellsI_eq] at hSh
    have hvE : Hid (volsS vs fs = (shellsF fs).map (grpVol vs fs)) := rfl
    have hmem : Hid (∀ g ∈ shellsF fs, g.length ≤ fs.length ∧ ∀ k ∈ g, k < fs.length) := fun g hg => shell_mem hg
    generalize shellsF fs = SH at *
    go_enter Tryz.func12, Tryz.ntmps12
    go_wp2_with fail
    refine hCF.out.mono ?_
    rintro e w1 ⟨rfl, hg1⟩
    have b0' := (b0.gr hg1 (by simp)).1
    have b1' := (b1.gr hg1 (by simp)).1
    have hgw1 := gr_trans hg0 hg1
    clear hCF b0 b1 hg0 hg1
    go_wp2_with fail
    refine (hSh _ (hfs.pure hgw1)).mono ?_
    rintro e w2 ⟨O, co, rfl, hO, hg2⟩
    have hOs := hO.toN.sl
    have hgw2 := gr_trans hgw1 hg2
    have d0 := hg2.k b0'
    have d1 := hg2.k b1'
    have hlen : Hid ((SH.map gi).length = SH.length) := by rw [Hid, List.length_map]
    rw [hlen.out]
    clear hSh hO b0' b1'
    have hW2 := World.grownBy.refl w2 none
    have hw2s := hgw2.size
    go_wp2_with fail
    go_loopw [5, 19] (fun o i wr => ∃ (k : Nat) (V : Option Addr) (cv : Nat), k ≤ SH.length ∧ i = .int .i64 k ∧ o = .slice V k cv ∧ Own wr w2.heap.size 3 V cv ((SH.take k).map (grpVol vs fs)) ∧ w2.grownBy wr none ∧ w.grownBy wr none) (fun _ i _ => SH.length - (intOf i).toNat)
    case atStart => exact ⟨0, none, 0, Nat.zero_le _, rfl, rfl, Own.nil _ _ _, hW2, hgw2⟩
    case round =>
      obtain ⟨k, V, cv, hk, rfl, rfl, hV, hg2', hgw⟩ := hrel
      clear hW2 hgw2 hgw1
      by_cases hlt : k < SH.length
      · obtain ⟨m1, m2⟩ := hmem.out _ (List.getElem_mem hlt)
        have hTk : Hid ((SH.take (k + 1)).map (grpVol vs fs) = (SH.take k).map (grpVol vs fs) ++ [grpVol vs fs SH[k]]) := by rw [Hid, take_snoc hlt, List.map_append]; rfl
        have hlV : Hid (k = ((SH.take k).map (grpVol vs fs)).length) := by rw [Hid, List.length_map, List.length_take, Nat.min_eq_left hk]
        obtain ⟨gO, oO, c1, rfl, hb0, hb1, ⟨AG, cG, rfl, hcap, hG⟩, hc⟩ := (hOs.pure hg2').at_ (by decide) (k := k) (by rw [hlen.out]; exact hlt)
        have v0 := hc 0 _ rfl
        rw [show Enc.sz (List Int) = 1 from rfl, Nat.mul_one, Nat.add_zero] at v0
        have hgk : (SH.map gi)[k]'(by rw [hlen.out]; exact hlt) = gi SH[k] := List.getElem_map _
        rw [hgk] at v0 hG hcap
        clear hc hgk hcap
        have hgg : Hid ((gi SH[k]).length = SH[k].length) := gi_len _
        rw [hgg.out] at v0
        have hbd := grpVol_bd hok.out.near fs
        have hpb := partV_bd hok.out.near
        have hPt := fun j (hj : j < fs.length) W h => part_any A c vs B fs.length d fs[j] W h hok.out.near (faceF_in (hok.out.face _ (List.getElem_mem hj)))
        have hsn := fun (q : Nat) (h : q < (SH[k]'hlt).length) => grpVol_snoc vs fs (g := SH[k]'hlt) (q := q) h
        have hfa : Hid (SH[k].take SH[k].length = SH[k]) := List.take_length
        generalize SH[k] = G at *
        replace hbd := hide hbd
        replace hpb := hide hpb
        replace hPt := hide hPt
        replace hsn := hide hsn
        generalize (SH.take k).map (grpVol vs fs) = LV at *
        go_wp2_with fail
        have hWr := World.grownBy.refl wr none
        go_loopw [8, 25] (fun o i wx => ∃ q : Nat, q ≤ G.length ∧ i = .int .i64 q ∧ o = .int .i64 (grpVol vs fs (G.take q)) ∧ wr.grownBy wx none) (fun _ i _ => G.length - (intOf i).toNat)
        case atStart => exact ⟨0, Nat.zero_le _, rfl, rfl, hWr⟩
        case round =>
          obtain ⟨q, hq, rfl, rfl, hgx⟩ := hrel
          clear hWr
          by_cases hql : q < G.length
          · have hjl := m2 _ (List.getElem_mem hql)
            have hs1 : Hid (grpVol vs fs (G.take (q + 1)) = grpVol vs fs (G.take q) + partV vs fs[G[q]]) := by rw [Hid, hsn.out q hql, fcAt_in hjl]
            have hv2 := hbd.out (G.take q)
            rw [List.length_take, Nat.min_eq_left hq] at hv2
            have hv3 := hpb.out fs[G[q]]
            have hgz := hgw.t hgx
            have hPq := hPt.out _ hjl _ ((hl.pure hgz).pure (gr_drew (World.grownBy.refl _ none)))
            obtain ⟨gG, oG, c1, rfl, hx0, hx1, hcr, hc⟩ := (hG.pure hgx).at_ (by decide) (k := q) (by rw [hgg.out]; exact hql)
            have hcr : c1 = [.int .i64 ((gi G)[q]'(by rw [hgg.out]; exact hql))] := hcr
            subst hcr
            have u0 := hc 0 _ rfl
            rw [show Enc.sz Int = 1 from rfl, Nat.mul_one, Nat.add_zero, gi_get] at u0
            clear hc hx0 hx1
            have z0 := (hg2'.t hgx).k d0
            have z1 := (hg2'.t hgx).k d1
            obtain ⟨g, o, cx, rfl, hb0, hb1, rfl, hc⟩ := (hfs.pure hgz).at_ (by decide) hjl
            have v0 : wr.cell? ⟨g, o + G[q] * 3, none⟩ = some (.int .i64 fs[G[q]].a) := hc 0 _ rfl
            have v1 : wr.cell? ⟨g, o + G[q] * 3 + 1, none⟩ = some (.int .i64 fs[G[q]].b) := hc 1 _ rfl
            have v2 : wr.cell? ⟨g, o + G[q] * 3 + 2, none⟩ = some (.int .i64 fs[G[q]].c) := hc 2 _ rfl
            clear hc
            generalize fs[G[q]] = f at *
            generalize G[q] = j at *
            generalize partV vs f = X at *
            generalize grpVol vs fs (G.take q) = Y at *
            have hb : -9223372036854775808 ≤ Y + X ∧ Y + X ≤ 9223372036854775807 := by omega
            replace hPq := hide hPq
            clear hv2 hv3
            go_upto_region 12 with fail
            refine wp_region_tree (fun wx => wr.grownBy wx none) [2, 1, 2, 1, 2, 2, 1, 0, 2, 2] (.bl 0 (.bl 1 (.bl 2 (.bl 3 (.bl 4 (.bl 5 (.bl 6 (.ef 7 (.bl 8 (.bl 9 .done)))))))))) (by kernel_rfl) (by kernel_rfl) (gr_drew (World.grownBy.refl _ _)) ?_
            refine tree_p rfl rfl rfl rfl _ rfl (by simp) (fun K hK => ?_)
            apply Exists.intro
            refine ⟨fun wq K' hK' => ?_, ?_⟩
            · go_wp2_with fail
              exact hK'
            go_simp
            refine hK _ ?_
            clear hK K
            refine tree_b rfl rfl rfl rfl _ rfl (by simp) (fun K hK => ?_)
            apply Exists.intro
            refine ⟨fun wq hq K' hK' => ?_, ?_⟩
            · have q1 := hq.k z0
              have q2 := hq.k z1
              have q3 := hq.k v0
              have q4 := hq.k v1
              have q5 := hq.k v2
              go_wp2_with fail
              exact hK'
            go_simp
            refine hK _ ?_
            clear hK K
            refine tree_p rfl rfl rfl rfl _ rfl (by simp) (fun K hK => ?_)
            apply Exists.intro
            refine ⟨fun wq K' hK' => ?_, ?_⟩
            · go_wp2_with fail
              exact hK'
            go_simp
            refine hK _ ?_
            clear hK K
            refine tree_b rfl rfl rfl rfl _ rfl (by simp) (fun K hK => ?_)
            apply Exists.intro
            refine ⟨fun wq hq K' hK' => ?_, ?_⟩
            · have q1 := hq.k z0
              have q2 := hq.k z1
              have q3 := hq.k v0
              have q4 := hq.k v1
              have q5 := hq.k v2
              go_wp2_with fail
              exact hK'
            go_simp
            refine hK _ ?_
            clear hK K
            refine tree_p rfl rfl rfl rfl _ rfl (by simp) (fun K hK => ?_)
            apply Exists.intro
            refine ⟨fun wq K' hK' => ?_, ?_⟩
            · go_wp2_with fail
              exact hK'
            go_simp
            refine hK _ ?_
            clear hK K
            refine tree_p rfl rfl rfl rfl _ rfl (by simp) (fun K hK => ?_)
            apply Exists.intro
            refine ⟨fun wq K' hK' => ?_, ?_⟩
            · go_wp2_with fail
              exact hK'
            go_simp
            refine hK _ ?_
            clear hK K
            refine tree_b rfl rfl rfl rfl _ rfl (by simp) (fun K hK => ?_)
            apply Exists.intro
            refine ⟨fun wq hq K' hK' => ?_, ?_⟩
            · have q1 := hq.k z0
              have q2 := hq.k z1
              have q3 := hq.k v0
              have q4 := hq.k v1
              have q5 := hq.k v2
              go_wp2_with fail
              exact hK'
            go_simp
            refine hK _ ?_
            clear hK K
            refine tree_e0 (by kernel_rfl) rfl rfl (fun K hK => ?_)
            go_wp2_with fail
            refine hPq.out.mono ?_
            rintro e w5 ⟨rfl, hg5⟩
            go_wp2_with fail
            try go_simp
            refine hK _ _ trivial ?_
            clear hK K
            refine tree_p rfl rfl rfl rfl _ rfl (by simp) (fun K hK => ?_)
            apply Exists.intro
            refine ⟨fun wq K' hK' => ?_, ?_⟩
            · go_wp2_with fail
              exact hK'
            go_simp
            refine hK _ ?_
            clear hK K
            refine tree_p rfl rfl rfl rfl _ rfl (by simp) (fun K hK => ?_)
            apply Exists.intro
            refine ⟨fun wq K' hK' => ?_, ?_⟩
            · go_wp2_with fail
              exact hK'
            go_simp
            refine hK _ ?_
            clear hK K
            refine tree_done ?_
            go_wp2_with fail
            (go_roundw; (case rel => exact ⟨q + 1, by omega, by go_num, by rw [hs1.out], (hgx.t (gr_drew (World.grownBy.refl _ _))).t hg5⟩); (case measure => simp [intOf]; omega))
          · have hqe : q = G.length := by omega
            subst hqe
            rw [hfa.out]
            generalize grpVol vs fs G = X at *
            have hgz := hgw.t hgx
            have hV1 := hV.pure hgx
            obtain ⟨i0, hi0, hz, hi1, hi3⟩ := info_parts info_int
            go_wp2_with (at_builtin; refine wpList_pushAt (α := Int) _ rfl (.tmp 39) (.tmp 41) _ rfl w2.heap.size 3 i0 _ 8 Tryz.underlying22 hi0 hz hi1 hi3 rfl V _ cv LV rfl hlV.out (by exact hV1.pure (gr_alloc (World.grownBy.refl _ _) _)) 0 ⟨_, 0, none⟩ 1 1 [X] rfl rfl (by exact sl_int1 _ _ _ _ (by first | rfl | simp)) ?c2 ?c3 ?c4 ?_)
            case c2 => rw [← hlV.out]; simp; omega
            case c3 => rw [← hlV.out]; simp [maxLen]; omega
            case c4 => have := (hg2'.t hgx).size; simp; omega
            intro A6 c6 w6 ho6 hG6
            have hg6 := gr_row (hgz.t (gr_alloc (World.grownBy.refl _ none) _)) hG6.1 (fun b e => Nat.le_trans hw2s (hV1.blk_lt e).1)
            have hg7 := gr_row ((hg2'.t hgx).t (gr_alloc (World.grownBy.refl _ none) _)) hG6.1 (fun b e => (hV1.blk_lt e).1)
            have hlW : Hid (LV.length + 1 = k + 1) := by rw [Hid, ← hlV.out]
            go_wp2_with fail
            (go_roundw; (case rel => exact ⟨k + 1, A6, c6, by omega, by go_num, by rw [hlW.out], by rw [hTk.out]; exact ho6, hg7, hg6⟩); (case measure => simp [intOf]; omega))
      · have hke : k = SH.length := by omega
        subst hke
        rw [List.take_length] at hV
        go_wp2_with fail
        exact bodyPost_ret (v := .tuple #[.slice V SH.length cv, .int .i64 0]) (by simp [results, Tryz.results12, go_sem]) rfl ⟨V, cv, by rw [hvE.out, List.length_map], by rw [hvE.out]; exact hV.lower hw2s, hgw⟩
  · rw [show volsF vs fs = [] by unfold volsF; rw [if_neg hz]]
    rw [show closE fs = 11 by unfold closE; rw [if_neg hz]] at hCF ⊢
    replace hCF := hide hCF
    clear hz hok
    go_enter Tryz.func12, Tryz.ntmps12
    go_wp2_with fail
    refine hCF.out.mono ?_
    rintro e w1 ⟨rfl, hg1⟩
    go_wp2_with fail
    exact bodyPost_ret (v := .tuple #[.slice none 0 0, .int .i64 11]) (by simp [results, Tryz.results12, go_sem]) rfl ⟨none, 0, rfl, Own.nil _ _ _, gr_trans hg0 hg1⟩

end Go.Proofs.YtkcchcnljanloaaGreat

namespace Go.Proofs.YtkcchcnljanloaaGreat
open Go Go.RowKit Go.Bl

theorem one_sumV : ∀ g : List Nat, (g.map fun _ => (1 : Int)).sum = g.length
  | [] => rfl
  | x :: g => by rw [List.map_cons, List.sum_cons, one_sumV g, List.length_cons]; omega

theorem shells_lensV (fs : List Fc) : ((shellsF fs).map fun g => (g.length : Int)).sum = fs.length := by
  have h := shells_sum fs fun _ => (1 : Int)
  have e : (fun g : List Nat => (g.map fun _ => (1 : Int)).sum) = fun g => (g.length : Int) := by funext g; exact one_sumV g
  rw [e, one_sumV, List.length_range] at h
  exact h

theorem grps_bdV {vs : List V3} (h : vs.any farV = false) (fs : List Fc) : ∀ (G : List (List Nat)) (k : Nat), -(6000000000000000 * (G.map fun g => (g.length : Int)).sum) ≤ ((G.map (grpVol vs fs)).take k).sum ∧ ((G.map (grpVol vs fs)).take k).sum ≤ 6000000000000000 * (G.map fun g => (g.length : Int)).sum
  | [], k => by simp
  | g :: G, 0 => by
    have h1 := grps_bdV h fs G 0
    simp only [List.take_zero, List.sum_nil, List.map_cons, List.sum_cons] at h1 ⊢
    omega
  | g :: G, k + 1 => by
    have h1 := grps_bdV h fs G k
    have h2 := grpVol_bd h fs g
    simp only [List.map_cons, List.take_succ_cons, List.sum_cons]
    omega

theorem vols_bdV {vs : List V3} (h : vs.any farV = false) (fs : List Fc) (k : Nat) : -(6000000000000000 * (fs.length : Int)) ≤ ((volsS vs fs).take k).sum ∧ ((volsS vs fs).take k).sum ≤ 6000000000000000 * (fs.length : Int) := by
  have h1 := grps_bdV h fs (shellsF fs) k
  rw [shells_lensV] at h1
  exact h1

theorem sum_takeV {l : List Int} {k : Nat} (h : k < l.length) : (l.take (k + 1)).sum = (l.take k).sum + l[k] := by
  rw [take_snoc h, List.sum_append]; simp

end Go.Proofs.YtkcchcnljanloaaGreat

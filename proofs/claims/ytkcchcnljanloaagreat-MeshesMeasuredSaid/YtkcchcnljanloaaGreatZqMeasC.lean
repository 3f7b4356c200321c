/- Contracts of functions that this seat's laws reach, each: what one call returns and what it leaves in memory; no condition beyond each theorem's own hypotheses. -/
import Derived.Test.YtkcchcnljanloaaGreatZqMeasB
import Derived.Test.YtkcchcnljanloaaGreatZqVolSum
import Derived.Deep.DeepCutAuto
set_option linter.unusedVariables false
set_option linter.unusedSimpArgs false
namespace Go.Proofs.YtkcchcnljanloaaGreat
open Go Go.RowKit Go.Bl

def prmSum (vs : List V3) (fs : List Fc) (g : List Nat) : Int := (g.map fun k => prismV vs (fcAt fs k)).sum

theorem prmSum_snoc (vs : List V3) (fs : List Fc) {g : List Nat} {q : Nat} (h : q < g.length) : prmSum vs fs (g.take (q + 1)) = prmSum vs fs (g.take q) + prismV vs (fcAt fs g[q]) := by
  unfold prmSum
  rw [take_snoc h, List.map_append, List.sum_append]; simp

theorem wrap_add (a b : Int) : wrap64 (wrap64 a + b) = wrap64 (a + b) := by
  unfold wrap64
  omega

theorem wrap_id {a : Int} (h : -9223372036854775808 ≤ a ∧ a ≤ 9223372036854775807) : wrap64 a = a := by
  unfold wrap64
  omega

theorem mul_bd {a b A B : Int} (ha : -A ≤ a ∧ a ≤ A) (hb : -B ≤ b ∧ b ≤ B) : -(A * B) ≤ a * b ∧ a * b ≤ A * B := by
  have h1 : 0 ≤ (A - a) * (B + b) := Int.mul_nonneg (by omega) (by omega)
  have h2 : 0 ≤ (A + a) * (B - b) := Int.mul_nonneg (by omega) (by omega)
  have h3 : 0 ≤ (A - a) * (B - b) := Int.mul_nonneg (by omega) (by omega)
  have h4 : 0 ≤ (A + a) * (B + b) := Int.mul_nonneg (by omega) (by omega)
  constructor <;> grind

/-- three boxes with vectors -/
def CR9 (w0 : World) (va vb vc : V3) (s9 s10 s11 : Value) (wx : World) : Prop :=
  ∃ x9 x10 x11 : Nat, s9 = .pointer (some ⟨x9, 0, none⟩) ∧ s10 = .pointer (some ⟨x10, 0, none⟩) ∧ s11 = .pointer (some ⟨x11, 0, none⟩) ∧ Box3 wx x9 va ∧ Box3 wx x10 vb ∧ Box3 wx x11 vc ∧ w0.grownBy wx none

set_option maxHeartbeats 4000000 in
set_option maxRecDepth 100000 in
theorem volumesOf_any (A : Option Addr) (c : Nat) (vs : List V3) (B : Option Addr) (d : Nat) (fs : List Fc) (w : World) (hl : Sl w 0 A vs) (hfs : Sl w 0 B fs) (hM : meshF ⟨vs, fs⟩ = 0) (hcl : ClosedS fs) :
    Calls Tryz.prog 19 #[.agg #[.slice A vs.length c, .slice B fs.length d]] w fun e w' => ∃ O co, e = .returned (.slice O (volsS vs fs).length co) ∧ Own w' w.heap.size 3 O co (volsS vs fs) ∧ w.grownBy w' none := by
  have hg0 := gr_alloc (World.grownBy.refl w none) (.cells #[.slice A vs.length c, .slice B fs.length d] 29)
  have b0 := (Cell.new w [.slice A vs.length c, .slice B fs.length d] 29 0 _ rfl _ rfl).1
  have b1 := (Cell.new w [.slice A vs.length c, .slice B fs.length d] 29 1 _ rfl _ rfl).1
  have hok := meshOk.1 hM
  have hm2 := hok.fl
  have hSh := fun W h => shellsOf_any A vs.length c B d fs W h hok.fl (fun f hf => face_dist2 (hok.face f hf))
  have hpr : Hid (∀ g ∈ shellsF fs, prmSum vs fs g = grpVol vs fs g) := fun g hg => prism_shell hok.once hcl hg
  replace hok := hide hok
  have hSL := shellsF_len fs
  rw [shellsI_eq] at hSh
  have hvE : Hid (volsS vs fs = (shellsF fs).map (grpVol vs fs)) := rfl
  have hmem : Hid (∀ g ∈ shellsF fs, g.length ≤ fs.length ∧ ∀ k ∈ g, k < fs.length) := fun g hg => shell_mem hg
  generalize shellsF fs = SH at *
  go_enter Tryz.func19, Tryz.ntmps19
  go_wp2_with fail
  refine (hSh _ (hfs.pure hg0)).mono ?_
  rintro e w2 ⟨O, co, rfl, hO, hg2⟩
  have hOs := hO.toN.sl
  have hgw2 := gr_trans hg0 hg2
  have d0 := hg2.k b0
  have d1 := hg2.k b1
  have hlen : Hid ((SH.map gi).length = SH.length) := by rw [Hid, List.length_map]
  rw [hlen.out]
  clear hSh hO b0 b1 hg2
  have hW2 := World.grownBy.refl w2 none
  have hw2s := hgw2.size
  go_wp2_with fail
  go_loopw [3, 15] (fun o i wr => ∃ (k : Nat) (V : Option Addr) (cv : Nat), k ≤ SH.length ∧ i = .int .i64 k ∧ o = .slice V k cv ∧ Own wr w2.heap.size 3 V cv ((SH.take k).map (grpVol vs fs)) ∧ w2.grownBy wr none ∧ w.grownBy wr none) (fun _ i _ => SH.length - (intOf i).toNat)
  case atStart => exact ⟨0, none, 0, Nat.zero_le _, rfl, rfl, Own.nil _ _ _, hW2, hgw2⟩
  case round =>
    obtain ⟨k, V, cv, hk, rfl, rfl, hV, hg2', hgw⟩ := hrel
    clear hW2 hgw2
    by_cases hlt : k < SH.length
    · obtain ⟨m1, m2⟩ := hmem.out _ (List.getElem_mem hlt)
      have hpk := hide (hpr.out _ (List.getElem_mem hlt))
      have hTk : Hid ((SH.take (k + 1)).map (grpVol vs fs) = (SH.take k).map (grpVol vs fs) ++ [grpVol vs fs SH[k]]) := by rw [Hid, take_snoc hlt, List.map_append]; rfl
      have hlV : Hid (k = ((SH.take k).map (grpVol vs fs)).length) := by rw [Hid, List.length_map, List.length_take, Nat.min_eq_left hk]
      obtain ⟨gO, oO, c1, rfl, hb0, hb1, ⟨AG, cG, rfl, hcap, hG⟩, hc⟩ := (hOs.pure hg2').at_ (by decide) (k := k) (by rw [hlen.out]; exact hlt)
      have v0 := hc 0 _ rfl
      rw [show Enc.sz (List Int) = 1 from rfl, Nat.mul_one, Nat.add_zero] at v0
      have hgk : (SH.map gi)[k]'(by rw [hlen.out]; exact hlt) = gi SH[k] := List.getElem_map _
      rw [hgk] at v0 hG hcap
      clear hc hgk hcap
      have hgg : Hid ((gi SH[k]).length = SH[k].length) := gi_len _
      rw [hgg.out] at v0
      have hgb := grpVol_bd hok.out.near fs (SH[k]'hlt)
      have hsn := fun (q : Nat) (h : q < (SH[k]'hlt).length) => prmSum_snoc vs fs (g := SH[k]'hlt) (q := q) h
      have hfa : Hid (SH[k].take SH[k].length = SH[k]) := List.take_length
      generalize SH[k] = G at *
      replace hsn := hide hsn
      replace hgb := hide hgb
      generalize (SH.take k).map (grpVol vs fs) = LV at *
      go_wp2_with fail
      generalize hWq : wr = W8 at *
      clear hWq
      have hWr := World.grownBy.refl W8 none
      go_loopw [6, 21] (fun o i wx => ∃ q : Nat, q ≤ G.length ∧ i = .int .i64 q ∧ o = .int .i64 (wrap64 (prmSum vs fs (G.take q))) ∧ W8.grownBy wx none) (fun _ i _ => G.length - (intOf i).toNat)
      case atStart => exact ⟨0, Nat.zero_le _, rfl, by simp [prmSum, wrap64], hWr⟩
      case round =>
        obtain ⟨q, hq, rfl, rfl, hgx⟩ := hrel
        clear hWr
        by_cases hql : q < G.length
        · have hjl := m2 _ (List.getElem_mem hql)
          have hs1 : Hid (wrap64 (prmSum vs fs (G.take (q + 1))) = wrap64 (wrap64 (prmSum vs fs (G.take q)) + prismV vs fs[G[q]])) := by rw [Hid, hsn.out q hql, fcAt_in hjl, wrap_add]
          have hgz := hgw.t hgx
          have hin := faceF_in (hok.out.face _ (List.getElem_mem hjl))
          have hba := atV_bd hok.out.near fs[G[q]].a
          have hbb := atV_bd hok.out.near fs[G[q]].b
          have hbc := atV_bd hok.out.near fs[G[q]].c
          have hbn := norm_bd hok.out.near fs[G[q]]
          have hPz : Hid (prismV vs fs[G[q]] = ((atV vs fs[G[q]].a).z + (atV vs fs[G[q]].b).z + (atV vs fs[G[q]].c).z) * (normV vs fs[G[q]]).z) := rfl
          have hNo := fun W h => normalRef_any A c vs B fs.length d fs[G[q]] W h hok.out.near hin
          obtain ⟨gG, oG, c1, rfl, hx0, hx1, hcr, hc⟩ := (hG.pure hgx).at_ (by decide) (k := q) (by rw [hgg.out]; exact hql)
          have hcr : c1 = [.int .i64 ((gi G)[q]'(by rw [hgg.out]; exact hql))] := hcr
          subst hcr
          have u0 := hc 0 _ rfl
          rw [show Enc.sz Int = 1 from rfl, Nat.mul_one, Nat.add_zero, gi_get] at u0
          clear hc hx0 hx1
          have z0 := (hg2'.t hgx).k d0
          have z1 := (hg2'.t hgx).k d1
          obtain ⟨g, o, cx, rfl, hb0, hb1, rfl, hc⟩ := (hfs.pure hgz).at_ (by decide) hjl
          have v0 : wr.cell? ⟨g, o + G[q] * 3, none⟩ = some (.int .i64 fs[G[q]].a) := hc 0 _ rfl
          have v1 : wr.cell? ⟨g, o + G[q] * 3 + 1, none⟩ = some (.int .i64 fs[G[q]].b) := hc 1 _ rfl
          have v2 : wr.cell? ⟨g, o + G[q] * 3 + 2, none⟩ = some (.int .i64 fs[G[q]].c) := hc 2 _ rfl
          clear hc
          have hCo := fun W h => corners_any A c vs (some ⟨g, o, none⟩) fs.length d fs[G[q]] W h hin
          generalize fs[G[q]] = f at *
          generalize G[q] = j at *
          replace hNo := hide hNo
          replace hCo := hide hCo
          go_upto_region 9 with fail
          go_cut [9, 10, 11] from 25 to 35 (fun s9 s10 s11 wx => CR9 wr (atV vs f.a) (atV vs f.b) (atV vs f.c) s9 s10 s11 wx)
          case first =>
            clear hs1 hPz hNo hba hbb hbc hbn hgb hsn hpk hV hTk
            generalize atV vs f.a = va at *
            generalize atV vs f.b = vb at *
            generalize atV vs f.c = vc at *
            refine wp_region_tree (fun wx => wr.grownBy wx none) [1, 2, 1, 2, 2, 1, 0, 2, 2, 2, 2, 0, 0, 0, 0, 0, 0] (.bl 0 (.bl 1 (.bl 2 (.bl 3 (.bl 4 (.bl 5 (.alt (.ef 6 (.bl 7 (.bl 8 (.bl 9 (.bl 10 (.alt (.ef 11 (.alt (.ef 12 (.ef 13 (.ef 14 (.ef 15 (.ef 16 .done))))) (.ef 13 (.ef 12 (.ef 14 (.ef 15 (.ef 16 .done))))))) (.alt (.ef 12 (.alt (.ef 11 (.ef 13 (.ef 14 (.ef 15 (.ef 16 .done))))) (.ef 13 (.ef 11 (.ef 14 (.ef 15 (.ef 16 .done))))))) (.ef 13 (.alt (.ef 11 (.ef 12 (.ef 14 (.ef 15 (.ef 16 .done))))) (.ef 12 (.ef 11 (.ef 14 (.ef 15 (.ef 16 .done)))))))))))))) (.alt (.ef 11 (.alt (.ef 6 (.bl 7 (.bl 8 (.bl 9 (.bl 10 (.alt (.ef 12 (.ef 13 (.ef 14 (.ef 15 (.ef 16 .done))))) (.ef 13 (.ef 12 (.ef 14 (.ef 15 (.ef 16 .done))))))))))) (.alt (.ef 12 (.alt (.ef 6 (.bl 7 (.bl 8 (.bl 9 (.bl 10 (.ef 13 (.ef 14 (.ef 15 (.ef 16 .done))))))))) (.ef 13 (.ef 6 (.bl 7 (.bl 8 (.bl 9 (.bl 10 (.ef 14 (.ef 15 (.ef 16 .done))))))))))) (.ef 13 (.alt (.ef 6 (.bl 7 (.bl 8 (.bl 9 (.bl 10 (.ef 12 (.ef 14 (.ef 15 (.ef 16 .done))))))))) (.ef 12 (.ef 6 (.bl 7 (.bl 8 (.bl 9 (.bl 10 (.ef 14 (.ef 15 (.ef 16 .done)))))))))))))) (.alt (.ef 12 (.alt (.ef 6 (.bl 7 (.bl 8 (.bl 9 (.bl 10 (.alt (.ef 11 (.ef 13 (.ef 14 (.ef 15 (.ef 16 .done))))) (.ef 13 (.ef 11 (.ef 14 (.ef 15 (.ef 16 .done))))))))))) (.alt (.ef 11 (.alt (.ef 6 (.bl 7 (.bl 8 (.bl 9 (.bl 10 (.ef 13 (.ef 14 (.ef 15 (.ef 16 .done))))))))) (.ef 13 (.ef 6 (.bl 7 (.bl 8 (.bl 9 (.bl 10 (.ef 14 (.ef 15 (.ef 16 .done))))))))))) (.ef 13 (.alt (.ef 6 (.bl 7 (.bl 8 (.bl 9 (.bl 10 (.ef 11 (.ef 14 (.ef 15 (.ef 16 .done))))))))) (.ef 11 (.ef 6 (.bl 7 (.bl 8 (.bl 9 (.bl 10 (.ef 14 (.ef 15 (.ef 16 .done)))))))))))))) (.ef 13 (.alt (.ef 6 (.bl 7 (.bl 8 (.bl 9 (.bl 10 (.alt (.ef 11 (.ef 12 (.ef 14 (.ef 15 (.ef 16 .done))))) (.ef 12 (.ef 11 (.ef 14 (.ef 15 (.ef 16 .done))))))))))) (.alt (.ef 11 (.alt (.ef 6 (.bl 7 (.bl 8 (.bl 9 (.bl 10 (.ef 12 (.ef 14 (.ef 15 (.ef 16 .done))))))))) (.ef 12 (.ef 6 (.bl 7 (.bl 8 (.bl 9 (.bl 10 (.ef 14 (.ef 15 (.ef 16 .done))))))))))) (.ef 12 (.alt (.ef 6 (.bl 7 (.bl 8 (.bl 9 (.bl 10 (.ef 11 (.ef 14 (.ef 15 (.ef 16 .done))))))))) (.ef 11 (.ef 6 (.bl 7 (.bl 8 (.bl 9 (.bl 10 (.ef 14 (.ef 15 (.ef 16 .done))))))))))))))))))))))) (by kernel_rfl) (by kernel_rfl) (gr_drew (World.grownBy.refl _ _)) ?_
            obtain ⟨W1, hW1⟩ : ∃ x, x = (wr).drew := ⟨_, rfl⟩
            rw [← hW1]
            have hgW1 : (wr).grownBy W1 none := by rw [hW1]; exact gr_drew (World.grownBy.refl _ _)
            clear hW1
            have hcur := hgW1
            refine tree_b rfl rfl rfl rfl _ rfl (by simp) (fun K hK => ?_)
            apply Exists.intro
            refine ⟨fun wq hq K' hK' => ?_, ?_⟩
            · have q0 := hq.k z0
              have q1 := hq.k z1
              have q2 := hq.k u0
              have q3 := hq.k v0
              have q4 := hq.k v1
              have q5 := hq.k v2
              go_wp2_with fail
              exact hK'
            go_simp
            refine hK _ ?_
            clear hK K
            refine tree_p rfl rfl rfl rfl _ rfl (by simp) (fun K hK => ?_)
            apply Exists.intro
            refine ⟨fun wq K' hK' => ?_, ?_⟩
            · go_wp2_with fail
              exact hK'
            go_simp
            refine hK _ ?_
            clear hK K
            refine tree_b rfl rfl rfl rfl _ rfl (by simp) (fun K hK => ?_)
            apply Exists.intro
            refine ⟨fun wq hq K' hK' => ?_, ?_⟩
            · have q0 := hq.k z0
              have q1 := hq.k z1
              have q2 := hq.k u0
              have q3 := hq.k v0
              have q4 := hq.k v1
              have q5 := hq.k v2
              go_wp2_with fail
              exact hK'
            go_simp
            refine hK _ ?_
            clear hK K
            refine tree_p rfl rfl rfl rfl _ rfl (by simp) (fun K hK => ?_)
            apply Exists.intro
            refine ⟨fun wq K' hK' => ?_, ?_⟩
            · go_wp2_with fail
              exact hK'
            go_simp
            refine hK _ ?_
            clear hK K
            refine tree_p rfl rfl rfl rfl _ rfl (by simp) (fun K hK => ?_)
            apply Exists.intro
            refine ⟨fun wq K' hK' => ?_, ?_⟩
            · go_wp2_with fail
              exact hK'
            go_simp
            refine hK _ ?_
            clear hK K
            refine tree_b rfl rfl rfl rfl _ rfl (by simp) (fun K hK => ?_)
            apply Exists.intro
            refine ⟨fun wq hq K' hK' => ?_, ?_⟩
            · have q0 := hq.k z0
              have q1 := hq.k z1
              have q2 := hq.k u0
              have q3 := hq.k v0
              have q4 := hq.k v1
              have q5 := hq.k v2
              go_wp2_with fail
              exact hK'
            go_simp
            refine hK _ ?_
            clear hK K
            refine tree_alt ?_ ?_
            · refine tree_e0 (by kernel_rfl) rfl rfl (fun K hK => ?_)
              go_wp2_with fail
              refine (hCo.out W1 (hl.pure (gr_trans hgz hcur))).mono ?_
              rintro e w6 ⟨rfl, hg6⟩
              go_wp2_with fail
              try go_simp
              refine hK _ _ trivial ?_
              clear hK K
              replace hcur := gr_trans hcur hg6
              refine tree_p rfl rfl rfl rfl _ rfl (by simp) (fun K hK => ?_)
              apply Exists.intro
              refine ⟨fun wq K' hK' => ?_, ?_⟩
              · go_wp2_with fail
                exact hK'
              go_simp
              refine hK _ ?_
              clear hK K
              refine tree_p rfl rfl rfl rfl _ rfl (by simp) (fun K hK => ?_)
              apply Exists.intro
              refine ⟨fun wq K' hK' => ?_, ?_⟩
              · go_wp2_with fail
                exact hK'
              go_simp
              refine hK _ ?_
              clear hK K
              refine tree_p rfl rfl rfl rfl _ rfl (by simp) (fun K hK => ?_)
              apply Exists.intro
              refine ⟨fun wq K' hK' => ?_, ?_⟩
              · go_wp2_with fail
                exact hK'
              go_simp
              refine hK _ ?_
              clear hK K
              refine tree_p rfl rfl rfl rfl _ rfl (by simp) (fun K hK => ?_)
              apply Exists.intro
              refine ⟨fun wq K' hK' => ?_, ?_⟩
              · go_wp2_with fail
                exact hK'
              go_simp
              refine hK _ ?_
              clear hK K
              refine tree_alt ?_ ?_
              · refine tree_e rfl rfl (fun K hK => ?_)
                go_wp2_with fail
                try go_simp
                refine hK _ _ (gr_alloc hcur _) ?_
                clear hK K
                obtain ⟨w11, hw11⟩ : ∃ x, x = (w6).alloc (.cells #[.int .i64 0, .int .i64 0, .int .i64 0] 38) := ⟨_, rfl⟩
                have hg11 : (w6).grownBy w11 none := by rw [hw11]; exact gr_alloc (World.grownBy.refl _ _) _
                have b11 : Box3 w11 (w6).heap.size ⟨0, 0, 0⟩ := by rw [hw11]; exact ⟨Cell.new _ [.int .i64 0, .int .i64 0, .int .i64 0] 38 0 _ rfl _ rfl, Cell.new _ [.int .i64 0, .int .i64 0, .int .i64 0] 38 1 _ rfl _ rfl, Cell.new _ [.int .i64 0, .int .i64 0, .int .i64 0] 38 2 _ rfl _ rfl⟩
                rw [← hw11]
                clear hw11
                have hxs11 := hcur.size
                obtain ⟨x11, hx11⟩ : ∃ x, x = (w6).heap.size := ⟨_, rfl⟩
                rw [← hx11] at b11 hxs11 ⊢
                replace hcur := gr_trans hcur hg11
                clear hx11 hg11
                refine tree_alt ?_ ?_
                · refine tree_e rfl rfl (fun K hK => ?_)
                  go_wp2_with fail
                  try go_simp
                  refine hK _ _ (gr_alloc hcur _) ?_
                  clear hK K
                  obtain ⟨w12, hw12⟩ : ∃ x, x = (w11).alloc (.cells #[.int .i64 0, .int .i64 0, .int .i64 0] 38) := ⟨_, rfl⟩
                  have hg12 : (w11).grownBy w12 none := by rw [hw12]; exact gr_alloc (World.grownBy.refl _ _) _
                  have b12 : Box3 w12 (w11).heap.size ⟨0, 0, 0⟩ := by rw [hw12]; exact ⟨Cell.new _ [.int .i64 0, .int .i64 0, .int .i64 0] 38 0 _ rfl _ rfl, Cell.new _ [.int .i64 0, .int .i64 0, .int .i64 0] 38 1 _ rfl _ rfl, Cell.new _ [.int .i64 0, .int .i64 0, .int .i64 0] 38 2 _ rfl _ rfl⟩
                  rw [← hw12]
                  clear hw12
                  have hxs12 := hcur.size
                  obtain ⟨x12, hx12⟩ : ∃ x, x = (w11).heap.size := ⟨_, rfl⟩
                  rw [← hx12] at b12 hxs12 ⊢
                  have nb1211 : x12 ≠ x11 := by have := cell_lt b11.1.1; simp only at this; omega
                  replace b11 := b11.gr hg12 (by simp)
                  replace hcur := gr_trans hcur hg12
                  clear hx12 hg12
                  refine tree_e rfl rfl (fun K hK => ?_)
                  go_wp2_with fail
                  try go_simp
                  refine hK _ _ (gr_alloc hcur _) ?_
                  clear hK K
                  obtain ⟨w13, hw13⟩ : ∃ x, x = (w12).alloc (.cells #[.int .i64 0, .int .i64 0, .int .i64 0] 38) := ⟨_, rfl⟩
                  have hg13 : (w12).grownBy w13 none := by rw [hw13]; exact gr_alloc (World.grownBy.refl _ _) _
                  have b13 : Box3 w13 (w12).heap.size ⟨0, 0, 0⟩ := by rw [hw13]; exact ⟨Cell.new _ [.int .i64 0, .int .i64 0, .int .i64 0] 38 0 _ rfl _ rfl, Cell.new _ [.int .i64 0, .int .i64 0, .int .i64 0] 38 1 _ rfl _ rfl, Cell.new _ [.int .i64 0, .int .i64 0, .int .i64 0] 38 2 _ rfl _ rfl⟩
                  rw [← hw13]
                  clear hw13
                  have hxs13 := hcur.size
                  obtain ⟨x13, hx13⟩ : ∃ x, x = (w12).heap.size := ⟨_, rfl⟩
                  rw [← hx13] at b13 hxs13 ⊢
                  have nb1311 : x13 ≠ x11 := by have := cell_lt b11.1.1; simp only at this; omega
                  have nb1312 : x13 ≠ x12 := by have := cell_lt b12.1.1; simp only at this; omega
                  replace b11 := b11.gr hg13 (by simp)
                  replace b12 := b12.gr hg13 (by simp)
                  replace hcur := gr_trans hcur hg13
                  clear hx13 hg13
                  refine tree_e0 (by kernel_rfl) rfl rfl (fun K hK => ?_)
                  have b11' := b11
                  obtain ⟨⟨k0, f0⟩, ⟨k1, f1⟩, ⟨k2, f2⟩⟩ := b11'
                  go_wp2_with fail
                  try go_simp
                  refine hK _ _ trivial ?_
                  clear hK K
                  obtain ⟨w14, hw14⟩ : ∃ x, x = (((w13).setCell ⟨x11, 0, none⟩ (.int .i64 (va).x)).setCell ⟨x11, 1, none⟩ (.int .i64 (va).y)).setCell ⟨x11, 2, none⟩ (.int .i64 (va).z) := ⟨_, rfl⟩
                  have hg14 : (w13).grownBy w14 (some x11) := by rw [hw14]; exact gr_set3 _ _ _ _
                  have b11 := b11.set va
                  rw [← hw14] at b11
                  rw [← hw14]
                  clear hw14
                  replace b12 := b12.gr hg14 (by intro e; injection e; omega)
                  replace b13 := b13.gr hg14 (by intro e; injection e; omega)
                  replace hcur := gr_new hcur hg14 hxs11
                  clear hg14
                  refine tree_e0 (by kernel_rfl) rfl rfl (fun K hK => ?_)
                  have b12' := b12
                  obtain ⟨⟨k0, f0⟩, ⟨k1, f1⟩, ⟨k2, f2⟩⟩ := b12'
                  go_wp2_with fail
                  try go_simp
                  refine hK _ _ trivial ?_
                  clear hK K
                  obtain ⟨w15, hw15⟩ : ∃ x, x = (((w14).setCell ⟨x12, 0, none⟩ (.int .i64 (vb).x)).setCell ⟨x12, 1, none⟩ (.int .i64 (vb).y)).setCell ⟨x12, 2, none⟩ (.int .i64 (vb).z) := ⟨_, rfl⟩
                  have hg15 : (w14).grownBy w15 (some x12) := by rw [hw15]; exact gr_set3 _ _ _ _
                  have b12 := b12.set vb
                  rw [← hw15] at b12
                  rw [← hw15]
                  clear hw15
                  replace b11 := b11.gr hg15 (by intro e; injection e; omega)
                  replace b13 := b13.gr hg15 (by intro e; injection e; omega)
                  replace hcur := gr_new hcur hg15 hxs12
                  clear hg15
                  refine tree_e0 (by kernel_rfl) rfl rfl (fun K hK => ?_)
                  have b13' := b13
                  obtain ⟨⟨k0, f0⟩, ⟨k1, f1⟩, ⟨k2, f2⟩⟩ := b13'
                  go_wp2_with fail
                  try go_simp
                  refine hK _ _ trivial ?_
                  clear hK K
                  obtain ⟨w16, hw16⟩ : ∃ x, x = (((w15).setCell ⟨x13, 0, none⟩ (.int .i64 (vc).x)).setCell ⟨x13, 1, none⟩ (.int .i64 (vc).y)).setCell ⟨x13, 2, none⟩ (.int .i64 (vc).z) := ⟨_, rfl⟩
                  have hg16 : (w15).grownBy w16 (some x13) := by rw [hw16]; exact gr_set3 _ _ _ _
                  have b13 := b13.set vc
                  rw [← hw16] at b13
                  rw [← hw16]
                  clear hw16
                  replace b11 := b11.gr hg16 (by intro e; injection e; omega)
                  replace b12 := b12.gr hg16 (by intro e; injection e; omega)
                  replace hcur := gr_new hcur hg16 hxs13
                  clear hg16
                  refine tree_done ?_
                  go_wp2_with fail
                  go_meet
                  exact ⟨x11, x12, x13, rfl, rfl, rfl, b11, b12, b13, hcur⟩
                · refine tree_e rfl rfl (fun K hK => ?_)
                  go_wp2_with fail
                  try go_simp
                  refine hK _ _ (gr_alloc hcur _) ?_
                  clear hK K
                  obtain ⟨w13, hw13⟩ : ∃ x, x = (w11).alloc (.cells #[.int .i64 0, .int .i64 0, .int .i64 0] 38) := ⟨_, rfl⟩
                  have hg13 : (w11).grownBy w13 none := by rw [hw13]; exact gr_alloc (World.grownBy.refl _ _) _
                  have b13 : Box3 w13 (w11).heap.size ⟨0, 0, 0⟩ := by rw [hw13]; exact ⟨Cell.new _ [.int .i64 0, .int .i64 0, .int .i64 0] 38 0 _ rfl _ rfl, Cell.new _ [.int .i64 0, .int .i64 0, .int .i64 0] 38 1 _ rfl _ rfl, Cell.new _ [.int .i64 0, .int .i64 0, .int .i64 0] 38 2 _ rfl _ rfl⟩
                  rw [← hw13]
                  clear hw13
                  have hxs13 := hcur.size
                  obtain ⟨x13, hx13⟩ : ∃ x, x = (w11).heap.size := ⟨_, rfl⟩
                  rw [← hx13] at b13 hxs13 ⊢
                  have nb1311 : x13 ≠ x11 := by have := cell_lt b11.1.1; simp only at this; omega
                  replace b11 := b11.gr hg13 (by simp)
                  replace hcur := gr_trans hcur hg13
                  clear hx13 hg13
                  refine tree_e rfl rfl (fun K hK => ?_)
                  go_wp2_with fail
                  try go_simp
                  refine hK _ _ (gr_alloc hcur _) ?_
                  clear hK K
                  obtain ⟨w12, hw12⟩ : ∃ x, x = (w13).alloc (.cells #[.int .i64 0, .int .i64 0, .int .i64 0] 38) := ⟨_, rfl⟩
                  have hg12 : (w13).grownBy w12 none := by rw [hw12]; exact gr_alloc (World.grownBy.refl _ _) _
                  have b12 : Box3 w12 (w13).heap.size ⟨0, 0, 0⟩ := by rw [hw12]; exact ⟨Cell.new _ [.int .i64 0, .int .i64 0, .int .i64 0] 38 0 _ rfl _ rfl, Cell.new _ [.int .i64 0, .int .i64 0, .int .i64 0] 38 1 _ rfl _ rfl, Cell.new _ [.int .i64 0, .int .i64 0, .int .i64 0] 38 2 _ rfl _ rfl⟩
                  rw [← hw12]
                  clear hw12
                  have hxs12 := hcur.size
                  obtain ⟨x12, hx12⟩ : ∃ x, x = (w13).heap.size := ⟨_, rfl⟩
                  rw [← hx12] at b12 hxs12 ⊢
                  have nb1211 : x12 ≠ x11 := by have := cell_lt b11.1.1; simp only at this; omega
                  have nb1213 : x12 ≠ x13 := by have := cell_lt b13.1.1; simp only at this; omega
                  replace b11 := b11.gr hg12 (by simp)
                  replace b13 := b13.gr hg12 (by simp)
                  replace hcur := gr_trans hcur hg12
                  clear hx12 hg12
                  refine tree_e0 (by kernel_rfl) rfl rfl (fun K hK => ?_)
                  have b11' := b11
                  obtain ⟨⟨k0, f0⟩, ⟨k1, f1⟩, ⟨k2, f2⟩⟩ := b11'
                  go_wp2_with fail
                  try go_simp
                  refine hK _ _ trivial ?_
                  clear hK K
                  obtain ⟨w14, hw14⟩ : ∃ x, x = (((w12).setCell ⟨x11, 0, none⟩ (.int .i64 (va).x)).setCell ⟨x11, 1, none⟩ (.int .i64 (va).y)).setCell ⟨x11, 2, none⟩ (.int .i64 (va).z) := ⟨_, rfl⟩
                  have hg14 : (w12).grownBy w14 (some x11) := by rw [hw14]; exact gr_set3 _ _ _ _
                  have b11 := b11.set va
                  rw [← hw14] at b11
                  rw [← hw14]
                  clear hw14
                  replace b12 := b12.gr hg14 (by intro e; injection e; omega)
                  replace b13 := b13.gr hg14 (by intro e; injection e; omega)
                  replace hcur := gr_new hcur hg14 hxs11
                  clear hg14
                  refine tree_e0 (by kernel_rfl) rfl rfl (fun K hK => ?_)
                  have b12' := b12
                  obtain ⟨⟨k0, f0⟩, ⟨k1, f1⟩, ⟨k2, f2⟩⟩ := b12'
                  go_wp2_with fail
                  try go_simp
                  refine hK _ _ trivial ?_
                  clear hK K
                  obtain ⟨w15, hw15⟩ : ∃ x, x = (((w14).setCell ⟨x12, 0, none⟩ (.int .i64 (vb).x)).setCell ⟨x12, 1, none⟩ (.int .i64 (vb).y)).setCell ⟨x12, 2, none⟩ (.int .i64 (vb).z) := ⟨_, rfl⟩
                  have hg15 : (w14).grownBy w15 (some x12) := by rw [hw15]; exact gr_set3 _ _ _ _
                  have b12 := b12.set vb
                  rw [← hw15] at b12
                  rw [← hw15]
                  clear hw15
                  replace b11 := b11.gr hg15 (by intro e; injection e; omega)
                  replace b13 := b13.gr hg15 (by intro e; injection e; omega)
                  replace hcur := gr_new hcur hg15 hxs12
                  clear hg15
                  refine tree_e0 (by kernel_rfl) rfl rfl (fun K hK => ?_)
                  have b13' := b13
                  obtain ⟨⟨k0, f0⟩, ⟨k1, f1⟩, ⟨k2, f2⟩⟩ := b13'
                  go_wp2_with fail
                  try go_simp
                  refine hK _ _ trivial ?_
                  clear hK K
                  obtain ⟨w16, hw16⟩ : ∃ x, x = (((w15).setCell ⟨x13, 0, none⟩ (.int .i64 (vc).x)).setCell ⟨x13, 1, none⟩ (.int .i64 (vc).y)).setCell ⟨x13, 2, none⟩ (.int .i64 (vc).z) := ⟨_, rfl⟩
                  have hg16 : (w15).grownBy w16 (some x13) := by rw [hw16]; exact gr_set3 _ _ _ _
                  have b13 := b13.set vc
                  rw [← hw16] at b13
                  rw [← hw16]
                  clear hw16
                  replace b11 := b11.gr hg16 (by intro e; injection e; omega)
                  replace b12 := b12.gr hg16 (by intro e; injection e; omega)
                  replace hcur := gr_new hcur hg16 hxs13
                  clear hg16
                  refine tree_done ?_
                  go_wp2_with fail
                  go_meet
                  exact ⟨x11, x12, x13, rfl, rfl, rfl, b11, b12, b13, hcur⟩
              · refine tree_alt ?_ ?_
                · refine tree_e rfl rfl (fun K hK => ?_)
                  go_wp2_with fail
                  try go_simp
                  refine hK _ _ (gr_alloc hcur _) ?_
                  clear hK K
                  obtain ⟨w12, hw12⟩ : ∃ x, x = (w6).alloc (.cells #[.int .i64 0, .int .i64 0, .int .i64 0] 38) := ⟨_, rfl⟩
                  have hg12 : (w6).grownBy w12 none := by rw [hw12]; exact gr_alloc (World.grownBy.refl _ _) _
                  have b12 : Box3 w12 (w6).heap.size ⟨0, 0, 0⟩ := by rw [hw12]; exact ⟨Cell.new _ [.int .i64 0, .int .i64 0, .int .i64 0] 38 0 _ rfl _ rfl, Cell.new _ [.int .i64 0, .int .i64 0, .int .i64 0] 38 1 _ rfl _ rfl, Cell.new _ [.int .i64 0, .int .i64 0, .int .i64 0] 38 2 _ rfl _ rfl⟩
                  rw [← hw12]
                  clear hw12
                  have hxs12 := hcur.size
                  obtain ⟨x12, hx12⟩ : ∃ x, x = (w6).heap.size := ⟨_, rfl⟩
                  rw [← hx12] at b12 hxs12 ⊢
                  replace hcur := gr_trans hcur hg12
                  clear hx12 hg12
                  refine tree_alt ?_ ?_
                  · refine tree_e rfl rfl (fun K hK => ?_)
                    go_wp2_with fail
                    try go_simp
                    refine hK _ _ (gr_alloc hcur _) ?_
                    clear hK K
                    obtain ⟨w11, hw11⟩ : ∃ x, x = (w12).alloc (.cells #[.int .i64 0, .int .i64 0, .int .i64 0] 38) := ⟨_, rfl⟩
                    have hg11 : (w12).grownBy w11 none := by rw [hw11]; exact gr_alloc (World.grownBy.refl _ _) _
                    have b11 : Box3 w11 (w12).heap.size ⟨0, 0, 0⟩ := by rw [hw11]; exact ⟨Cell.new _ [.int .i64 0, .int .i64 0, .int .i64 0] 38 0 _ rfl _ rfl, Cell.new _ [.int .i64 0, .int .i64 0, .int .i64 0] 38 1 _ rfl _ rfl, Cell.new _ [.int .i64 0, .int .i64 0, .int .i64 0] 38 2 _ rfl _ rfl⟩
                    rw [← hw11]
                    clear hw11
                    have hxs11 := hcur.size
                    obtain ⟨x11, hx11⟩ : ∃ x, x = (w12).heap.size := ⟨_, rfl⟩
                    rw [← hx11] at b11 hxs11 ⊢
                    have nb1112 : x11 ≠ x12 := by have := cell_lt b12.1.1; simp only at this; omega
                    replace b12 := b12.gr hg11 (by simp)
                    replace hcur := gr_trans hcur hg11
                    clear hx11 hg11
                    refine tree_e rfl rfl (fun K hK => ?_)
                    go_wp2_with fail
                    try go_simp
                    refine hK _ _ (gr_alloc hcur _) ?_
                    clear hK K
                    obtain ⟨w13, hw13⟩ : ∃ x, x = (w11).alloc (.cells #[.int .i64 0, .int .i64 0, .int .i64 0] 38) := ⟨_, rfl⟩
                    have hg13 : (w11).grownBy w13 none := by rw [hw13]; exact gr_alloc (World.grownBy.refl _ _) _
                    have b13 : Box3 w13 (w11).heap.size ⟨0, 0, 0⟩ := by rw [hw13]; exact ⟨Cell.new _ [.int .i64 0, .int .i64 0, .int .i64 0] 38 0 _ rfl _ rfl, Cell.new _ [.int .i64 0, .int .i64 0, .int .i64 0] 38 1 _ rfl _ rfl, Cell.new _ [.int .i64 0, .int .i64 0, .int .i64 0] 38 2 _ rfl _ rfl⟩
                    rw [← hw13]
                    clear hw13
                    have hxs13 := hcur.size
                    obtain ⟨x13, hx13⟩ : ∃ x, x = (w11).heap.size := ⟨_, rfl⟩
                    rw [← hx13] at b13 hxs13 ⊢
                    have nb1311 : x13 ≠ x11 := by have := cell_lt b11.1.1; simp only at this; omega
                    have nb1312 : x13 ≠ x12 := by have := cell_lt b12.1.1; simp only at this; omega
                    replace b11 := b11.gr hg13 (by simp)
                    replace b12 := b12.gr hg13 (by simp)
                    replace hcur := gr_trans hcur hg13
                    clear hx13 hg13
                    refine tree_e0 (by kernel_rfl) rfl rfl (fun K hK => ?_)
                    have b11' := b11
                    obtain ⟨⟨k0, f0⟩, ⟨k1, f1⟩, ⟨k2, f2⟩⟩ := b11'
                    go_wp2_with fail
                    try go_simp
                    refine hK _ _ trivial ?_
                    clear hK K
                    obtain ⟨w14, hw14⟩ : ∃ x, x = (((w13).setCell ⟨x11, 0, none⟩ (.int .i64 (va).x)).setCell ⟨x11, 1, none⟩ (.int .i64 (va).y)).setCell ⟨x11, 2, none⟩ (.int .i64 (va).z) := ⟨_, rfl⟩
                    have hg14 : (w13).grownBy w14 (some x11) := by rw [hw14]; exact gr_set3 _ _ _ _
                    have b11 := b11.set va
                    rw [← hw14] at b11
                    rw [← hw14]
                    clear hw14
                    replace b12 := b12.gr hg14 (by intro e; injection e; omega)
                    replace b13 := b13.gr hg14 (by intro e; injection e; omega)
                    replace hcur := gr_new hcur hg14 hxs11
                    clear hg14
                    refine tree_e0 (by kernel_rfl) rfl rfl (fun K hK => ?_)
                    have b12' := b12
                    obtain ⟨⟨k0, f0⟩, ⟨k1, f1⟩, ⟨k2, f2⟩⟩ := b12'
                    go_wp2_with fail
                    try go_simp
                    refine hK _ _ trivial ?_
                    clear hK K
                    obtain ⟨w15, hw15⟩ : ∃ x, x = (((w14).setCell ⟨x12, 0, none⟩ (.int .i64 (vb).x)).setCell ⟨x12, 1, none⟩ (.int .i64 (vb).y)).setCell ⟨x12, 2, none⟩ (.int .i64 (vb).z) := ⟨_, rfl⟩
                    have hg15 : (w14).grownBy w15 (some x12) := by rw [hw15]; exact gr_set3 _ _ _ _
                    have b12 := b12.set vb
                    rw [← hw15] at b12
                    rw [← hw15]
                    clear hw15
                    replace b11 := b11.gr hg15 (by intro e; injection e; omega)
                    replace b13 := b13.gr hg15 (by intro e; injection e; omega)
                    replace hcur := gr_new hcur hg15 hxs12
                    clear hg15
                    refine tree_e0 (by kernel_rfl) rfl rfl (fun K hK => ?_)
                    have b13' := b13
                    obtain ⟨⟨k0, f0⟩, ⟨k1, f1⟩, ⟨k2, f2⟩⟩ := b13'
                    go_wp2_with fail
                    try go_simp
                    refine hK _ _ trivial ?_
                    clear hK K
                    obtain ⟨w16, hw16⟩ : ∃ x, x = (((w15).setCell ⟨x13, 0, none⟩ (.int .i64 (vc).x)).setCell ⟨x13, 1, none⟩ (.int .i64 (vc).y)).setCell ⟨x13, 2, none⟩ (.int .i64 (vc).z) := ⟨_, rfl⟩
                    have hg16 : (w15).grownBy w16 (some x13) := by rw [hw16]; exact gr_set3 _ _ _ _
                    have b13 := b13.set vc
                    rw [← hw16] at b13
                    rw [← hw16]
                    clear hw16
                    replace b11 := b11.gr hg16 (by intro e; injection e; omega)
                    replace b12 := b12.gr hg16 (by intro e; injection e; omega)
                    replace hcur := gr_new hcur hg16 hxs13
                    clear hg16
                    refine tree_done ?_
                    go_wp2_with fail
                    go_meet
                    exact ⟨x11, x12, x13, rfl, rfl, rfl, b11, b12, b13, hcur⟩
                  · refine tree_e rfl rfl (fun K hK => ?_)
                    go_wp2_with fail
                    try go_simp
                    refine hK _ _ (gr_alloc hcur _) ?_
                    clear hK K
                    obtain ⟨w13, hw13⟩ : ∃ x, x = (w12).alloc (.cells #[.int .i64 0, .int .i64 0, .int .i64 0] 38) := ⟨_, rfl⟩
                    have hg13 : (w12).grownBy w13 none := by rw [hw13]; exact gr_alloc (World.grownBy.refl _ _) _
                    have b13 : Box3 w13 (w12).heap.size ⟨0, 0, 0⟩ := by rw [hw13]; exact ⟨Cell.new _ [.int .i64 0, .int .i64 0, .int .i64 0] 38 0 _ rfl _ rfl, Cell.new _ [.int .i64 0, .int .i64 0, .int .i64 0] 38 1 _ rfl _ rfl, Cell.new _ [.int .i64 0, .int .i64 0, .int .i64 0] 38 2 _ rfl _ rfl⟩
                    rw [← hw13]
                    clear hw13
                    have hxs13 := hcur.size
                    obtain ⟨x13, hx13⟩ : ∃ x, x = (w12).heap.size := ⟨_, rfl⟩
                    rw [← hx13] at b13 hxs13 ⊢
                    have nb1312 : x13 ≠ x12 := by have := cell_lt b12.1.1; simp only at this; omega
                    replace b12 := b12.gr hg13 (by simp)
                    replace hcur := gr_trans hcur hg13
                    clear hx13 hg13
                    refine tree_e rfl rfl (fun K hK => ?_)
                    go_wp2_with fail
                    try go_simp
                    refine hK _ _ (gr_alloc hcur _) ?_
                    clear hK K
                    obtain ⟨w11, hw11⟩ : ∃ x, x = (w13).alloc (.cells #[.int .i64 0, .int .i64 0, .int .i64 0] 38) := ⟨_, rfl⟩
                    have hg11 : (w13).grownBy w11 none := by rw [hw11]; exact gr_alloc (World.grownBy.refl _ _) _
                    have b11 : Box3 w11 (w13).heap.size ⟨0, 0, 0⟩ := by rw [hw11]; exact ⟨Cell.new _ [.int .i64 0, .int .i64 0, .int .i64 0] 38 0 _ rfl _ rfl, Cell.new _ [.int .i64 0, .int .i64 0, .int .i64 0] 38 1 _ rfl _ rfl, Cell.new _ [.int .i64 0, .int .i64 0, .int .i64 0] 38 2 _ rfl _ rfl⟩
                    rw [← hw11]
                    clear hw11
                    have hxs11 := hcur.size
                    obtain ⟨x11, hx11⟩ : ∃ x, x = (w13).heap.size := ⟨_, rfl⟩
                    rw [← hx11] at b11 hxs11 ⊢
                    have nb1112 : x11 ≠ x12 := by have := cell_lt b12.1.1; simp only at this; omega
                    have nb1113 : x11 ≠ x13 := by have := cell_lt b13.1.1; simp only at this; omega
                    replace b12 := b12.gr hg11 (by simp)
                    replace b13 := b13.gr hg11 (by simp)
                    replace hcur := gr_trans hcur hg11
                    clear hx11 hg11
                    refine tree_e0 (by kernel_rfl) rfl rfl (fun K hK => ?_)
                    have b11' := b11
                    obtain ⟨⟨k0, f0⟩, ⟨k1, f1⟩, ⟨k2, f2⟩⟩ := b11'
                    go_wp2_with fail
                    try go_simp
                    refine hK _ _ trivial ?_
                    clear hK K
                    obtain ⟨w14, hw14⟩ : ∃ x, x = (((w11).setCell ⟨x11, 0, none⟩ (.int .i64 (va).x)).setCell ⟨x11, 1, none⟩ (.int .i64 (va).y)).setCell ⟨x11, 2, none⟩ (.int .i64 (va).z) := ⟨_, rfl⟩
                    have hg14 : (w11).grownBy w14 (some x11) := by rw [hw14]; exact gr_set3 _ _ _ _
                    have b11 := b11.set va
                    rw [← hw14] at b11
                    rw [← hw14]
                    clear hw14
                    replace b12 := b12.gr hg14 (by intro e; injection e; omega)
                    replace b13 := b13.gr hg14 (by intro e; injection e; omega)
                    replace hcur := gr_new hcur hg14 hxs11
                    clear hg14
                    refine tree_e0 (by kernel_rfl) rfl rfl (fun K hK => ?_)
                    have b12' := b12
                    obtain ⟨⟨k0, f0⟩, ⟨k1, f1⟩, ⟨k2, f2⟩⟩ := b12'
                    go_wp2_with fail
                    try go_simp
                    refine hK _ _ trivial ?_
                    clear hK K
                    obtain ⟨w15, hw15⟩ : ∃ x, x = (((w14).setCell ⟨x12, 0, none⟩ (.int .i64 (vb).x)).setCell ⟨x12, 1, none⟩ (.int .i64 (vb).y)).setCell ⟨x12, 2, none⟩ (.int .i64 (vb).z) := ⟨_, rfl⟩
                    have hg15 : (w14).grownBy w15 (some x12) := by rw [hw15]; exact gr_set3 _ _ _ _
                    have b12 := b12.set vb
                    rw [← hw15] at b12
                    rw [← hw15]
                    clear hw15
                    replace b11 := b11.gr hg15 (by intro e; injection e; omega)
                    replace b13 := b13.gr hg15 (by intro e; injection e; omega)
                    replace hcur := gr_new hcur hg15 hxs12
                    clear hg15
                    refine tree_e0 (by kernel_rfl) rfl rfl (fun K hK => ?_)
                    have b13' := b13
                    obtain ⟨⟨k0, f0⟩, ⟨k1, f1⟩, ⟨k2, f2⟩⟩ := b13'
                    go_wp2_with fail
                    try go_simp
                    refine hK _ _ trivial ?_
                    clear hK K
                    obtain ⟨w16, hw16⟩ : ∃ x, x = (((w15).setCell ⟨x13, 0, none⟩ (.int .i64 (vc).x)).setCell ⟨x13, 1, none⟩ (.int .i64 (vc).y)).setCell ⟨x13, 2, none⟩ (.int .i64 (vc).z) := ⟨_, rfl⟩
                    have hg16 : (w15).grownBy w16 (some x13) := by rw [hw16]; exact gr_set3 _ _ _ _
                    have b13 := b13.set vc
                    rw [← hw16] at b13
                    rw [← hw16]
                    clear hw16
                    replace b11 := b11.gr hg16 (by intro e; injection e; omega)
                    replace b12 := b12.gr hg16 (by intro e; injection e; omega)
                    replace hcur := gr_new hcur hg16 hxs13
                    clear hg16
                    refine tree_done ?_
                    go_wp2_with fail
                    go_meet
                    exact ⟨x11, x12, x13, rfl, rfl, rfl, b11, b12, b13, hcur⟩
                · refine tree_e rfl rfl (fun K hK => ?_)
                  go_wp2_with fail
                  try go_simp
                  refine hK _ _ (gr_alloc hcur _) ?_
                  clear hK K
                  obtain ⟨w13, hw13⟩ : ∃ x, x = (w6).alloc (.cells #[.int .i64 0, .int .i64 0, .int .i64 0] 38) := ⟨_, rfl⟩
                  have hg13 : (w6).grownBy w13 none := by rw [hw13]; exact gr_alloc (World.grownBy.refl _ _) _
                  have b13 : Box3 w13 (w6).heap.size ⟨0, 0, 0⟩ := by rw [hw13]; exact ⟨Cell.new _ [.int .i64 0, .int .i64 0, .int .i64 0] 38 0 _ rfl _ rfl, Cell.new _ [.int .i64 0, .int .i64 0, .int .i64 0] 38 1 _ rfl _ rfl, Cell.new _ [.int .i64 0, .int .i64 0, .int .i64 0] 38 2 _ rfl _ rfl⟩
                  rw [← hw13]
                  clear hw13
                  have hxs13 := hcur.size
                  obtain ⟨x13, hx13⟩ : ∃ x, x = (w6).heap.size := ⟨_, rfl⟩
                  rw [← hx13] at b13 hxs13 ⊢
                  replace hcur := gr_trans hcur hg13
                  clear hx13 hg13
                  refine tree_alt ?_ ?_
                  · refine tree_e rfl rfl (fun K hK => ?_)
                    go_wp2_with fail
                    try go_simp
                    refine hK _ _ (gr_alloc hcur _) ?_
                    clear hK K
                    obtain ⟨w11, hw11⟩ : ∃ x, x = (w13).alloc (.cells #[.int .i64 0, .int .i64 0, .int .i64 0] 38) := ⟨_, rfl⟩
                    have hg11 : (w13).grownBy w11 none := by rw [hw11]; exact gr_alloc (World.grownBy.refl _ _) _
                    have b11 : Box3 w11 (w13).heap.size ⟨0, 0, 0⟩ := by rw [hw11]; exact ⟨Cell.new _ [.int .i64 0, .int .i64 0, .int .i64 0] 38 0 _ rfl _ rfl, Cell.new _ [.int .i64 0, .int .i64 0, .int .i64 0] 38 1 _ rfl _ rfl, Cell.new _ [.int .i64 0, .int .i64 0, .int .i64 0] 38 2 _ rfl _ rfl⟩
                    rw [← hw11]
                    clear hw11
                    have hxs11 := hcur.size
                    obtain ⟨x11, hx11⟩ : ∃ x, x = (w13).heap.size := ⟨_, rfl⟩
                    rw [← hx11] at b11 hxs11 ⊢
                    have nb1113 : x11 ≠ x13 := by have := cell_lt b13.1.1; simp only at this; omega
                    replace b13 := b13.gr hg11 (by simp)
                    replace hcur := gr_trans hcur hg11
                    clear hx11 hg11
                    refine tree_e rfl rfl (fun K hK => ?_)
                    go_wp2_with fail
                    try go_simp
                    refine hK _ _ (gr_alloc hcur _) ?_
                    clear hK K
                    obtain ⟨w12, hw12⟩ : ∃ x, x = (w11).alloc (.cells #[.int .i64 0, .int .i64 0, .int .i64 0] 38) := ⟨_, rfl⟩
                    have hg12 : (w11).grownBy w12 none := by rw [hw12]; exact gr_alloc (World.grownBy.refl _ _) _
                    have b12 : Box3 w12 (w11).heap.size ⟨0, 0, 0⟩ := by rw [hw12]; exact ⟨Cell.new _ [.int .i64 0, .int .i64 0, .int .i64 0] 38 0 _ rfl _ rfl, Cell.new _ [.int .i64 0, .int .i64 0, .int .i64 0] 38 1 _ rfl _ rfl, Cell.new _ [.int .i64 0, .int .i64 0, .int .i64 0] 38 2 _ rfl _ rfl⟩
                    rw [← hw12]
                    clear hw12
                    have hxs12 := hcur.size
                    obtain ⟨x12, hx12⟩ : ∃ x, x = (w11).heap.size := ⟨_, rfl⟩
                    rw [← hx12] at b12 hxs12 ⊢
                    have nb1211 : x12 ≠ x11 := by have := cell_lt b11.1.1; simp only at this; omega
                    have nb1213 : x12 ≠ x13 := by have := cell_lt b13.1.1; simp only at this; omega
                    replace b11 := b11.gr hg12 (by simp)
                    replace b13 := b13.gr hg12 (by simp)
                    replace hcur := gr_trans hcur hg12
                    clear hx12 hg12
                    refine tree_e0 (by kernel_rfl) rfl rfl (fun K hK => ?_)
                    have b11' := b11
                    obtain ⟨⟨k0, f0⟩, ⟨k1, f1⟩, ⟨k2, f2⟩⟩ := b11'
                    go_wp2_with fail
                    try go_simp
                    refine hK _ _ trivial ?_
                    clear hK K
                    obtain ⟨w14, hw14⟩ : ∃ x, x = (((w12).setCell ⟨x11, 0, none⟩ (.int .i64 (va).x)).setCell ⟨x11, 1, none⟩ (.int .i64 (va).y)).setCell ⟨x11, 2, none⟩ (.int .i64 (va).z) := ⟨_, rfl⟩
                    have hg14 : (w12).grownBy w14 (some x11) := by rw [hw14]; exact gr_set3 _ _ _ _
                    have b11 := b11.set va
                    rw [← hw14] at b11
                    rw [← hw14]
                    clear hw14
                    replace b12 := b12.gr hg14 (by intro e; injection e; omega)
                    replace b13 := b13.gr hg14 (by intro e; injection e; omega)
                    replace hcur := gr_new hcur hg14 hxs11
                    clear hg14
                    refine tree_e0 (by kernel_rfl) rfl rfl (fun K hK => ?_)
                    have b12' := b12
                    obtain ⟨⟨k0, f0⟩, ⟨k1, f1⟩, ⟨k2, f2⟩⟩ := b12'
                    go_wp2_with fail
                    try go_simp
                    refine hK _ _ trivial ?_
                    clear hK K
                    obtain ⟨w15, hw15⟩ : ∃ x, x = (((w14).setCell ⟨x12, 0, none⟩ (.int .i64 (vb).x)).setCell ⟨x12, 1, none⟩ (.int .i64 (vb).y)).setCell ⟨x12, 2, none⟩ (.int .i64 (vb).z) := ⟨_, rfl⟩
                    have hg15 : (w14).grownBy w15 (some x12) := by rw [hw15]; exact gr_set3 _ _ _ _
                    have b12 := b12.set vb
                    rw [← hw15] at b12
                    rw [← hw15]
                    clear hw15
                    replace b11 := b11.gr hg15 (by intro e; injection e; omega)
                    replace b13 := b13.gr hg15 (by intro e; injection e; omega)
                    replace hcur := gr_new hcur hg15 hxs12
                    clear hg15
                    refine tree_e0 (by kernel_rfl) rfl rfl (fun K hK => ?_)
                    have b13' := b13
                    obtain ⟨⟨k0, f0⟩, ⟨k1, f1⟩, ⟨k2, f2⟩⟩ := b13'
                    go_wp2_with fail
                    try go_simp
                    refine hK _ _ trivial ?_
                    clear hK K
                    obtain ⟨w16, hw16⟩ : ∃ x, x = (((w15).setCell ⟨x13, 0, none⟩ (.int .i64 (vc).x)).setCell ⟨x13, 1, none⟩ (.int .i64 (vc).y)).setCell ⟨x13, 2, none⟩ (.int .i64 (vc).z) := ⟨_, rfl⟩
                    have hg16 : (w15).grownBy w16 (some x13) := by rw [hw16]; exact gr_set3 _ _ _ _
                    have b13 := b13.set vc
                    rw [← hw16] at b13
                    rw [← hw16]
                    clear hw16
                    replace b11 := b11.gr hg16 (by intro e; injection e; omega)
                    replace b12 := b12.gr hg16 (by intro e; injection e; omega)
                    replace hcur := gr_new hcur hg16 hxs13
                    clear hg16
                    refine tree_done ?_
                    go_wp2_with fail
                    go_meet
                    exact ⟨x11, x12, x13, rfl, rfl, rfl, b11, b12, b13, hcur⟩
                  · refine tree_e rfl rfl (fun K hK => ?_)
                    go_wp2_with fail
                    try go_simp
                    refine hK _ _ (gr_alloc hcur _) ?_
                    clear hK K
                    obtain ⟨w12, hw12⟩ : ∃ x, x = (w13).alloc (.cells #[.int .i64 0, .int .i64 0, .int .i64 0] 38) := ⟨_, rfl⟩
                    have hg12 : (w13).grownBy w12 none := by rw [hw12]; exact gr_alloc (World.grownBy.refl _ _) _
                    have b12 : Box3 w12 (w13).heap.size ⟨0, 0, 0⟩ := by rw [hw12]; exact ⟨Cell.new _ [.int .i64 0, .int .i64 0, .int .i64 0] 38 0 _ rfl _ rfl, Cell.new _ [.int .i64 0, .int .i64 0, .int .i64 0] 38 1 _ rfl _ rfl, Cell.new _ [.int .i64 0, .int .i64 0, .int .i64 0] 38 2 _ rfl _ rfl⟩
                    rw [← hw12]
                    clear hw12
                    have hxs12 := hcur.size
                    obtain ⟨x12, hx12⟩ : ∃ x, x = (w13).heap.size := ⟨_, rfl⟩
                    rw [← hx12] at b12 hxs12 ⊢
                    have nb1213 : x12 ≠ x13 := by have := cell_lt b13.1.1; simp only at this; omega
                    replace b13 := b13.gr hg12 (by simp)
                    replace hcur := gr_trans hcur hg12
                    clear hx12 hg12
                    refine tree_e rfl rfl (fun K hK => ?_)
                    go_wp2_with fail
                    try go_simp
                    refine hK _ _ (gr_alloc hcur _) ?_
                    clear hK K
                    obtain ⟨w11, hw11⟩ : ∃ x, x = (w12).alloc (.cells #[.int .i64 0, .int .i64 0, .int .i64 0] 38) := ⟨_, rfl⟩
                    have hg11 : (w12).grownBy w11 none := by rw [hw11]; exact gr_alloc (World.grownBy.refl _ _) _
                    have b11 : Box3 w11 (w12).heap.size ⟨0, 0, 0⟩ := by rw [hw11]; exact ⟨Cell.new _ [.int .i64 0, .int .i64 0, .int .i64 0] 38 0 _ rfl _ rfl, Cell.new _ [.int .i64 0, .int .i64 0, .int .i64 0] 38 1 _ rfl _ rfl, Cell.new _ [.int .i64 0, .int .i64 0, .int .i64 0] 38 2 _ rfl _ rfl⟩
                    rw [← hw11]
                    clear hw11
                    have hxs11 := hcur.size
                    obtain ⟨x11, hx11⟩ : ∃ x, x = (w12).heap.size := ⟨_, rfl⟩
                    rw [← hx11] at b11 hxs11 ⊢
                    have nb1112 : x11 ≠ x12 := by have := cell_lt b12.1.1; simp only at this; omega
                    have nb1113 : x11 ≠ x13 := by have := cell_lt b13.1.1; simp only at this; omega
                    replace b12 := b12.gr hg11 (by simp)
                    replace b13 := b13.gr hg11 (by simp)
                    replace hcur := gr_trans hcur hg11
                    clear hx11 hg11
                    refine tree_e0 (by kernel_rfl) rfl rfl (fun K hK => ?_)
                    have b11' := b11
                    obtain ⟨⟨k0, f0⟩, ⟨k1, f1⟩, ⟨k2, f2⟩⟩ := b11'
                    go_wp2_with fail
                    try go_simp
                    refine hK _ _ trivial ?_
                    clear hK K
                    obtain ⟨w14, hw14⟩ : ∃ x, x = (((w11).setCell ⟨x11, 0, none⟩ (.int .i64 (va).x)).setCell ⟨x11, 1, none⟩ (.int .i64 (va).y)).setCell ⟨x11, 2, none⟩ (.int .i64 (va).z) := ⟨_, rfl⟩
                    have hg14 : (w11).grownBy w14 (some x11) := by rw [hw14]; exact gr_set3 _ _ _ _
                    have b11 := b11.set va
                    rw [← hw14] at b11
                    rw [← hw14]
                    clear hw14
                    replace b12 := b12.gr hg14 (by intro e; injection e; omega)
                    replace b13 := b13.gr hg14 (by intro e; injection e; omega)
                    replace hcur := gr_new hcur hg14 hxs11
                    clear hg14
                    refine tree_e0 (by kernel_rfl) rfl rfl (fun K hK => ?_)
                    have b12' := b12
                    obtain ⟨⟨k0, f0⟩, ⟨k1, f1⟩, ⟨k2, f2⟩⟩ := b12'
                    go_wp2_with fail
                    try go_simp
                    refine hK _ _ trivial ?_
                    clear hK K
                    obtain ⟨w15, hw15⟩ : ∃ x, x = (((w14).setCell ⟨x12, 0, none⟩ (.int .i64 (vb).x)).setCell ⟨x12, 1, none⟩ (.int .i64 (vb).y)).setCell ⟨x12, 2, none⟩ (.int .i64 (vb).z) := ⟨_, rfl⟩
                    have hg15 : (w14).grownBy w15 (some x12) := by rw [hw15]; exact gr_set3 _ _ _ _
                    have b12 := b12.set vb
                    rw [← hw15] at b12
                    rw [← hw15]
                    clear hw15
                    replace b11 := b11.gr hg15 (by intro e; injection e; omega)
                    replace b13 := b13.gr hg15 (by intro e; injection e; omega)
                    replace hcur := gr_new hcur hg15 hxs12
                    clear hg15
                    refine tree_e0 (by kernel_rfl) rfl rfl (fun K hK => ?_)
                    have b13' := b13
                    obtain ⟨⟨k0, f0⟩, ⟨k1, f1⟩, ⟨k2, f2⟩⟩ := b13'
                    go_wp2_with fail
                    try go_simp
                    refine hK _ _ trivial ?_
                    clear hK K
                    obtain ⟨w16, hw16⟩ : ∃ x, x = (((w15).setCell ⟨x13, 0, none⟩ (.int .i64 (vc).x)).setCell ⟨x13, 1, none⟩ (.int .i64 (vc).y)).setCell ⟨x13, 2, none⟩ (.int .i64 (vc).z) := ⟨_, rfl⟩
                    have hg16 : (w15).grownBy w16 (some x13) := by rw [hw16]; exact gr_set3 _ _ _ _
                    have b13 := b13.set vc
                    rw [← hw16] at b13
                    rw [← hw16]
                    clear hw16
                    replace b11 := b11.gr hg16 (by intro e; injection e; omega)
                    replace b12 := b12.gr hg16 (by intro e; injection e; omega)
                    replace hcur := gr_new hcur hg16 hxs13
                    clear hg16
                    refine tree_done ?_
                    go_wp2_with fail
                    go_meet
                    exact ⟨x11, x12, x13, rfl, rfl, rfl, b11, b12, b13, hcur⟩
            · refine tree_alt ?_ ?_
              · refine tree_e rfl rfl (fun K hK => ?_)
                go_wp2_with fail
                try go_simp
                refine hK _ _ (gr_alloc hcur _) ?_
                clear hK K
                obtain ⟨w11, hw11⟩ : ∃ x, x = (W1).alloc (.cells #[.int .i64 0, .int .i64 0, .int .i64 0] 38) := ⟨_, rfl⟩
                have hg11 : (W1).grownBy w11 none := by rw [hw11]; exact gr_alloc (World.grownBy.refl _ _) _
                have b11 : Box3 w11 (W1).heap.size ⟨0, 0, 0⟩ := by rw [hw11]; exact ⟨Cell.new _ [.int .i64 0, .int .i64 0, .int .i64 0] 38 0 _ rfl _ rfl, Cell.new _ [.int .i64 0, .int .i64 0, .int .i64 0] 38 1 _ rfl _ rfl, Cell.new _ [.int .i64 0, .int .i64 0, .int .i64 0] 38 2 _ rfl _ rfl⟩
                rw [← hw11]
                clear hw11
                have hxs11 := hcur.size
                obtain ⟨x11, hx11⟩ : ∃ x, x = (W1).heap.size := ⟨_, rfl⟩
                rw [← hx11] at b11 hxs11 ⊢
                replace hcur := gr_trans hcur hg11
                clear hx11 hg11
                refine tree_alt ?_ ?_
                · refine tree_e0 (by kernel_rfl) rfl rfl (fun K hK => ?_)
                  go_wp2_with fail
                  refine (hCo.out w11 (hl.pure (gr_trans hgz hcur))).mono ?_
                  rintro e w6 ⟨rfl, hg6⟩
                  go_wp2_with fail
                  try go_simp
                  refine hK _ _ trivial ?_
                  clear hK K
                  replace b11 := b11.gr hg6 (by simp)
                  replace hcur := gr_trans hcur hg6
                  refine tree_p rfl rfl rfl rfl _ rfl (by simp) (fun K hK => ?_)
                  apply Exists.intro
                  refine ⟨fun wq K' hK' => ?_, ?_⟩
                  · go_wp2_with fail
                    exact hK'
                  go_simp
                  refine hK _ ?_
                  clear hK K
                  refine tree_p rfl rfl rfl rfl _ rfl (by simp) (fun K hK => ?_)
                  apply Exists.intro
                  refine ⟨fun wq K' hK' => ?_, ?_⟩
                  · go_wp2_with fail
                    exact hK'
                  go_simp
                  refine hK _ ?_
                  clear hK K
                  refine tree_p rfl rfl rfl rfl _ rfl (by simp) (fun K hK => ?_)
                  apply Exists.intro
                  refine ⟨fun wq K' hK' => ?_, ?_⟩
                  · go_wp2_with fail
                    exact hK'
                  go_simp
                  refine hK _ ?_
                  clear hK K
                  refine tree_p rfl rfl rfl rfl _ rfl (by simp) (fun K hK => ?_)
                  apply Exists.intro
                  refine ⟨fun wq K' hK' => ?_, ?_⟩
                  · go_wp2_with fail
                    exact hK'
                  go_simp
                  refine hK _ ?_
                  clear hK K
                  refine tree_alt ?_ ?_
                  · refine tree_e rfl rfl (fun K hK => ?_)
                    go_wp2_with fail
                    try go_simp
                    refine hK _ _ (gr_alloc hcur _) ?_
                    clear hK K
                    obtain ⟨w12, hw12⟩ : ∃ x, x = (w6).alloc (.cells #[.int .i64 0, .int .i64 0, .int .i64 0] 38) := ⟨_, rfl⟩
                    have hg12 : (w6).grownBy w12 none := by rw [hw12]; exact gr_alloc (World.grownBy.refl _ _) _
                    have b12 : Box3 w12 (w6).heap.size ⟨0, 0, 0⟩ := by rw [hw12]; exact ⟨Cell.new _ [.int .i64 0, .int .i64 0, .int .i64 0] 38 0 _ rfl _ rfl, Cell.new _ [.int .i64 0, .int .i64 0, .int .i64 0] 38 1 _ rfl _ rfl, Cell.new _ [.int .i64 0, .int .i64 0, .int .i64 0] 38 2 _ rfl _ rfl⟩
                    rw [← hw12]
                    clear hw12
                    have hxs12 := hcur.size
                    obtain ⟨x12, hx12⟩ : ∃ x, x = (w6).heap.size := ⟨_, rfl⟩
                    rw [← hx12] at b12 hxs12 ⊢
                    have nb1211 : x12 ≠ x11 := by have := cell_lt b11.1.1; simp only at this; omega
                    replace b11 := b11.gr hg12 (by simp)
                    replace hcur := gr_trans hcur hg12
                    clear hx12 hg12
                    refine tree_e rfl rfl (fun K hK => ?_)
                    go_wp2_with fail
                    try go_simp
                    refine hK _ _ (gr_alloc hcur _) ?_
                    clear hK K
                    obtain ⟨w13, hw13⟩ : ∃ x, x = (w12).alloc (.cells #[.int .i64 0, .int .i64 0, .int .i64 0] 38) := ⟨_, rfl⟩
                    have hg13 : (w12).grownBy w13 none := by rw [hw13]; exact gr_alloc (World.grownBy.refl _ _) _
                    have b13 : Box3 w13 (w12).heap.size ⟨0, 0, 0⟩ := by rw [hw13]; exact ⟨Cell.new _ [.int .i64 0, .int .i64 0, .int .i64 0] 38 0 _ rfl _ rfl, Cell.new _ [.int .i64 0, .int .i64 0, .int .i64 0] 38 1 _ rfl _ rfl, Cell.new _ [.int .i64 0, .int .i64 0, .int .i64 0] 38 2 _ rfl _ rfl⟩
                    rw [← hw13]
                    clear hw13
                    have hxs13 := hcur.size
                    obtain ⟨x13, hx13⟩ : ∃ x, x = (w12).heap.size := ⟨_, rfl⟩
                    rw [← hx13] at b13 hxs13 ⊢
                    have nb1311 : x13 ≠ x11 := by have := cell_lt b11.1.1; simp only at this; omega
                    have nb1312 : x13 ≠ x12 := by have := cell_lt b12.1.1; simp only at this; omega
                    replace b11 := b11.gr hg13 (by simp)
                    replace b12 := b12.gr hg13 (by simp)
                    replace hcur := gr_trans hcur hg13
                    clear hx13 hg13
                    refine tree_e0 (by kernel_rfl) rfl rfl (fun K hK => ?_)
                    have b11' := b11
                    obtain ⟨⟨k0, f0⟩, ⟨k1, f1⟩, ⟨k2, f2⟩⟩ := b11'
                    go_wp2_with fail
                    try go_simp
                    refine hK _ _ trivial ?_
                    clear hK K
                    obtain ⟨w14, hw14⟩ : ∃ x, x = (((w13).setCell ⟨x11, 0, none⟩ (.int .i64 (va).x)).setCell ⟨x11, 1, none⟩ (.int .i64 (va).y)).setCell ⟨x11, 2, none⟩ (.int .i64 (va).z) := ⟨_, rfl⟩
                    have hg14 : (w13).grownBy w14 (some x11) := by rw [hw14]; exact gr_set3 _ _ _ _
                    have b11 := b11.set va
                    rw [← hw14] at b11
                    rw [← hw14]
                    clear hw14
                    replace b12 := b12.gr hg14 (by intro e; injection e; omega)
                    replace b13 := b13.gr hg14 (by intro e; injection e; omega)
                    replace hcur := gr_new hcur hg14 hxs11
                    clear hg14
                    refine tree_e0 (by kernel_rfl) rfl rfl (fun K hK => ?_)
                    have b12' := b12
                    obtain ⟨⟨k0, f0⟩, ⟨k1, f1⟩, ⟨k2, f2⟩⟩ := b12'
                    go_wp2_with fail
                    try go_simp
                    refine hK _ _ trivial ?_
                    clear hK K
                    obtain ⟨w15, hw15⟩ : ∃ x, x = (((w14).setCell ⟨x12, 0, none⟩ (.int .i64 (vb).x)).setCell ⟨x12, 1, none⟩ (.int .i64 (vb).y)).setCell ⟨x12, 2, none⟩ (.int .i64 (vb).z) := ⟨_, rfl⟩
                    have hg15 : (w14).grownBy w15 (some x12) := by rw [hw15]; exact gr_set3 _ _ _ _
                    have b12 := b12.set vb
                    rw [← hw15] at b12
                    rw [← hw15]
                    clear hw15
                    replace b11 := b11.gr hg15 (by intro e; injection e; omega)
                    replace b13 := b13.gr hg15 (by intro e; injection e; omega)
                    replace hcur := gr_new hcur hg15 hxs12
                    clear hg15
                    refine tree_e0 (by kernel_rfl) rfl rfl (fun K hK => ?_)
                    have b13' := b13
                    obtain ⟨⟨k0, f0⟩, ⟨k1, f1⟩, ⟨k2, f2⟩⟩ := b13'
                    go_wp2_with fail
                    try go_simp
                    refine hK _ _ trivial ?_
                    clear hK K
                    obtain ⟨w16, hw16⟩ : ∃ x, x = (((w15).setCell ⟨x13, 0, none⟩ (.int .i64 (vc).x)).setCell ⟨x13, 1, none⟩ (.int .i64 (vc).y)).setCell ⟨x13, 2, none⟩ (.int .i64 (vc).z) := ⟨_, rfl⟩
                    have hg16 : (w15).grownBy w16 (some x13) := by rw [hw16]; exact gr_set3 _ _ _ _
                    have b13 := b13.set vc
                    rw [← hw16] at b13
                    rw [← hw16]
                    clear hw16
                    replace b11 := b11.gr hg16 (by intro e; injection e; omega)
                    replace b12 := b12.gr hg16 (by intro e; injection e; omega)
                    replace hcur := gr_new hcur hg16 hxs13
                    clear hg16
                    refine tree_done ?_
                    go_wp2_with fail
                    go_meet
                    exact ⟨x11, x12, x13, rfl, rfl, rfl, b11, b12, b13, hcur⟩
                  · refine tree_e rfl rfl (fun K hK => ?_)
                    go_wp2_with fail
                    try go_simp
                    refine hK _ _ (gr_alloc hcur _) ?_
                    clear hK K
                    obtain ⟨w13, hw13⟩ : ∃ x, x = (w6).alloc (.cells #[.int .i64 0, .int .i64 0, .int .i64 0] 38) := ⟨_, rfl⟩
                    have hg13 : (w6).grownBy w13 none := by rw [hw13]; exact gr_alloc (World.grownBy.refl _ _) _
                    have b13 : Box3 w13 (w6).heap.size ⟨0, 0, 0⟩ := by rw [hw13]; exact ⟨Cell.new _ [.int .i64 0, .int .i64 0, .int .i64 0] 38 0 _ rfl _ rfl, Cell.new _ [.int .i64 0, .int .i64 0, .int .i64 0] 38 1 _ rfl _ rfl, Cell.new _ [.int .i64 0, .int .i64 0, .int .i64 0] 38 2 _ rfl _ rfl⟩
                    rw [← hw13]
                    clear hw13
                    have hxs13 := hcur.size
                    obtain ⟨x13, hx13⟩ : ∃ x, x = (w6).heap.size := ⟨_, rfl⟩
                    rw [← hx13] at b13 hxs13 ⊢
                    have nb1311 : x13 ≠ x11 := by have := cell_lt b11.1.1; simp only at this; omega
                    replace b11 := b11.gr hg13 (by simp)
                    replace hcur := gr_trans hcur hg13
                    clear hx13 hg13
                    refine tree_e rfl rfl (fun K hK => ?_)
                    go_wp2_with fail
                    try go_simp
                    refine hK _ _ (gr_alloc hcur _) ?_
                    clear hK K
                    obtain ⟨w12, hw12⟩ : ∃ x, x = (w13).alloc (.cells #[.int .i64 0, .int .i64 0, .int .i64 0] 38) := ⟨_, rfl⟩
                    have hg12 : (w13).grownBy w12 none := by rw [hw12]; exact gr_alloc (World.grownBy.refl _ _) _
                    have b12 : Box3 w12 (w13).heap.size ⟨0, 0, 0⟩ := by rw [hw12]; exact ⟨Cell.new _ [.int .i64 0, .int .i64 0, .int .i64 0] 38 0 _ rfl _ rfl, Cell.new _ [.int .i64 0, .int .i64 0, .int .i64 0] 38 1 _ rfl _ rfl, Cell.new _ [.int .i64 0, .int .i64 0, .int .i64 0] 38 2 _ rfl _ rfl⟩
                    rw [← hw12]
                    clear hw12
                    have hxs12 := hcur.size
                    obtain ⟨x12, hx12⟩ : ∃ x, x = (w13).heap.size := ⟨_, rfl⟩
                    rw [← hx12] at b12 hxs12 ⊢
                    have nb1211 : x12 ≠ x11 := by have := cell_lt b11.1.1; simp only at this; omega
                    have nb1213 : x12 ≠ x13 := by have := cell_lt b13.1.1; simp only at this; omega
                    replace b11 := b11.gr hg12 (by simp)
                    replace b13 := b13.gr hg12 (by simp)
                    replace hcur := gr_trans hcur hg12
                    clear hx12 hg12
                    refine tree_e0 (by kernel_rfl) rfl rfl (fun K hK => ?_)
                    have b11' := b11
                    obtain ⟨⟨k0, f0⟩, ⟨k1, f1⟩, ⟨k2, f2⟩⟩ := b11'
                    go_wp2_with fail
                    try go_simp
                    refine hK _ _ trivial ?_
                    clear hK K
                    obtain ⟨w14, hw14⟩ : ∃ x, x = (((w12).setCell ⟨x11, 0, none⟩ (.int .i64 (va).x)).setCell ⟨x11, 1, none⟩ (.int .i64 (va).y)).setCell ⟨x11, 2, none⟩ (.int .i64 (va).z) := ⟨_, rfl⟩
                    have hg14 : (w12).grownBy w14 (some x11) := by rw [hw14]; exact gr_set3 _ _ _ _
                    have b11 := b11.set va
                    rw [← hw14] at b11
                    rw [← hw14]
                    clear hw14
                    replace b12 := b12.gr hg14 (by intro e; injection e; omega)
                    replace b13 := b13.gr hg14 (by intro e; injection e; omega)
                    replace hcur := gr_new hcur hg14 hxs11
                    clear hg14
                    refine tree_e0 (by kernel_rfl) rfl rfl (fun K hK => ?_)
                    have b12' := b12
                    obtain ⟨⟨k0, f0⟩, ⟨k1, f1⟩, ⟨k2, f2⟩⟩ := b12'
                    go_wp2_with fail
                    try go_simp
                    refine hK _ _ trivial ?_
                    clear hK K
                    obtain ⟨w15, hw15⟩ : ∃ x, x = (((w14).setCell ⟨x12, 0, none⟩ (.int .i64 (vb).x)).setCell ⟨x12, 1, none⟩ (.int .i64 (vb).y)).setCell ⟨x12, 2, none⟩ (.int .i64 (vb).z) := ⟨_, rfl⟩
                    have hg15 : (w14).grownBy w15 (some x12) := by rw [hw15]; exact gr_set3 _ _ _ _
                    have b12 := b12.set vb
                    rw [← hw15] at b12
                    rw [← hw15]
                    clear hw15
                    replace b11 := b11.gr hg15 (by intro e; injection e; omega)
                    replace b13 := b13.gr hg15 (by intro e; injection e; omega)
                    replace hcur := gr_new hcur hg15 hxs12
                    clear hg15
                    refine tree_e0 (by kernel_rfl) rfl rfl (fun K hK => ?_)
                    have b13' := b13
                    obtain ⟨⟨k0, f0⟩, ⟨k1, f1⟩, ⟨k2, f2⟩⟩ := b13'
                    go_wp2_with fail
                    try go_simp
                    refine hK _ _ trivial ?_
                    clear hK K
                    obtain ⟨w16, hw16⟩ : ∃ x, x = (((w15).setCell ⟨x13, 0, none⟩ (.int .i64 (vc).x)).setCell ⟨x13, 1, none⟩ (.int .i64 (vc).y)).setCell ⟨x13, 2, none⟩ (.int .i64 (vc).z) := ⟨_, rfl⟩
                    have hg16 : (w15).grownBy w16 (some x13) := by rw [hw16]; exact gr_set3 _ _ _ _
                    have b13 := b13.set vc
                    rw [← hw16] at b13
                    rw [← hw16]
                    clear hw16
                    replace b11 := b11.gr hg16 (by intro e; injection e; omega)
                    replace b12 := b12.gr hg16 (by intro e; injection e; omega)
                    replace hcur := gr_new hcur hg16 hxs13
                    clear hg16
                    refine tree_done ?_
                    go_wp2_with fail
                    go_meet
                    exact ⟨x11, x12, x13, rfl, rfl, rfl, b11, b12, b13, hcur⟩
                · refine tree_alt ?_ ?_
                  · refine tree_e rfl rfl (fun K hK => ?_)
                    go_wp2_with fail
                    try go_simp
                    refine hK _ _ (gr_alloc hcur _) ?_
                    clear hK K
                    obtain ⟨w12, hw12⟩ : ∃ x, x = (w11).alloc (.cells #[.int .i64 0, .int .i64 0, .int .i64 0] 38) := ⟨_, rfl⟩
                    have hg12 : (w11).grownBy w12 none := by rw [hw12]; exact gr_alloc (World.grownBy.refl _ _) _
                    have b12 : Box3 w12 (w11).heap.size ⟨0, 0, 0⟩ := by rw [hw12]; exact ⟨Cell.new _ [.int .i64 0, .int .i64 0, .int .i64 0] 38 0 _ rfl _ rfl, Cell.new _ [.int .i64 0, .int .i64 0, .int .i64 0] 38 1 _ rfl _ rfl, Cell.new _ [.int .i64 0, .int .i64 0, .int .i64 0] 38 2 _ rfl _ rfl⟩
                    rw [← hw12]
                    clear hw12
                    have hxs12 := hcur.size
                    obtain ⟨x12, hx12⟩ : ∃ x, x = (w11).heap.size := ⟨_, rfl⟩
                    rw [← hx12] at b12 hxs12 ⊢
                    have nb1211 : x12 ≠ x11 := by have := cell_lt b11.1.1; simp only at this; omega
                    replace b11 := b11.gr hg12 (by simp)
                    replace hcur := gr_trans hcur hg12
                    clear hx12 hg12
                    refine tree_alt ?_ ?_
                    · refine tree_e0 (by kernel_rfl) rfl rfl (fun K hK => ?_)
                      go_wp2_with fail
                      refine (hCo.out w12 (hl.pure (gr_trans hgz hcur))).mono ?_
                      rintro e w6 ⟨rfl, hg6⟩
                      go_wp2_with fail
                      try go_simp
                      refine hK _ _ trivial ?_
                      clear hK K
                      replace b11 := b11.gr hg6 (by simp)
                      replace b12 := b12.gr hg6 (by simp)
                      replace hcur := gr_trans hcur hg6
                      refine tree_p rfl rfl rfl rfl _ rfl (by simp) (fun K hK => ?_)
                      apply Exists.intro
                      refine ⟨fun wq K' hK' => ?_, ?_⟩
                      · go_wp2_with fail
                        exact hK'
                      go_simp
                      refine hK _ ?_
                      clear hK K
                      refine tree_p rfl rfl rfl rfl _ rfl (by simp) (fun K hK => ?_)
                      apply Exists.intro
                      refine ⟨fun wq K' hK' => ?_, ?_⟩
                      · go_wp2_with fail
                        exact hK'
                      go_simp
                      refine hK _ ?_
                      clear hK K
                      refine tree_p rfl rfl rfl rfl _ rfl (by simp) (fun K hK => ?_)
                      apply Exists.intro
                      refine ⟨fun wq K' hK' => ?_, ?_⟩
                      · go_wp2_with fail
                        exact hK'
                      go_simp
                      refine hK _ ?_
                      clear hK K
                      refine tree_p rfl rfl rfl rfl _ rfl (by simp) (fun K hK => ?_)
                      apply Exists.intro
                      refine ⟨fun wq K' hK' => ?_, ?_⟩
                      · go_wp2_with fail
                        exact hK'
                      go_simp
                      refine hK _ ?_
                      clear hK K
                      refine tree_e rfl rfl (fun K hK => ?_)
                      go_wp2_with fail
                      try go_simp
                      refine hK _ _ (gr_alloc hcur _) ?_
                      clear hK K
                      obtain ⟨w13, hw13⟩ : ∃ x, x = (w6).alloc (.cells #[.int .i64 0, .int .i64 0, .int .i64 0] 38) := ⟨_, rfl⟩
                      have hg13 : (w6).grownBy w13 none := by rw [hw13]; exact gr_alloc (World.grownBy.refl _ _) _
                      have b13 : Box3 w13 (w6).heap.size ⟨0, 0, 0⟩ := by rw [hw13]; exact ⟨Cell.new _ [.int .i64 0, .int .i64 0, .int .i64 0] 38 0 _ rfl _ rfl, Cell.new _ [.int .i64 0, .int .i64 0, .int .i64 0] 38 1 _ rfl _ rfl, Cell.new _ [.int .i64 0, .int .i64 0, .int .i64 0] 38 2 _ rfl _ rfl⟩
                      rw [← hw13]
                      clear hw13
                      have hxs13 := hcur.size
                      obtain ⟨x13, hx13⟩ : ∃ x, x = (w6).heap.size := ⟨_, rfl⟩
                      rw [← hx13] at b13 hxs13 ⊢
                      have nb1311 : x13 ≠ x11 := by have := cell_lt b11.1.1; simp only at this; omega
                      have nb1312 : x13 ≠ x12 := by have := cell_lt b12.1.1; simp only at this; omega
                      replace b11 := b11.gr hg13 (by simp)
                      replace b12 := b12.gr hg13 (by simp)
                      replace hcur := gr_trans hcur hg13
                      clear hx13 hg13
                      refine tree_e0 (by kernel_rfl) rfl rfl (fun K hK => ?_)
                      have b11' := b11
                      obtain ⟨⟨k0, f0⟩, ⟨k1, f1⟩, ⟨k2, f2⟩⟩ := b11'
                      go_wp2_with fail
                      try go_simp
                      refine hK _ _ trivial ?_
                      clear hK K
                      obtain ⟨w14, hw14⟩ : ∃ x, x = (((w13).setCell ⟨x11, 0, none⟩ (.int .i64 (va).x)).setCell ⟨x11, 1, none⟩ (.int .i64 (va).y)).setCell ⟨x11, 2, none⟩ (.int .i64 (va).z) := ⟨_, rfl⟩
                      have hg14 : (w13).grownBy w14 (some x11) := by rw [hw14]; exact gr_set3 _ _ _ _
                      have b11 := b11.set va
                      rw [← hw14] at b11
                      rw [← hw14]
                      clear hw14
                      replace b12 := b12.gr hg14 (by intro e; injection e; omega)
                      replace b13 := b13.gr hg14 (by intro e; injection e; omega)
                      replace hcur := gr_new hcur hg14 hxs11
                      clear hg14
                      refine tree_e0 (by kernel_rfl) rfl rfl (fun K hK => ?_)
                      have b12' := b12
                      obtain ⟨⟨k0, f0⟩, ⟨k1, f1⟩, ⟨k2, f2⟩⟩ := b12'
                      go_wp2_with fail
                      try go_simp
                      refine hK _ _ trivial ?_
                      clear hK K
                      obtain ⟨w15, hw15⟩ : ∃ x, x = (((w14).setCell ⟨x12, 0, none⟩ (.int .i64 (vb).x)).setCell ⟨x12, 1, none⟩ (.int .i64 (vb).y)).setCell ⟨x12, 2, none⟩ (.int .i64 (vb).z) := ⟨_, rfl⟩
                      have hg15 : (w14).grownBy w15 (some x12) := by rw [hw15]; exact gr_set3 _ _ _ _
                      have b12 := b12.set vb
                      rw [← hw15] at b12
                      rw [← hw15]
                      clear hw15
                      replace b11 := b11.gr hg15 (by intro e; injection e; omega)
                      replace b13 := b13.gr hg15 (by intro e; injection e; omega)
                      replace hcur := gr_new hcur hg15 hxs12
                      clear hg15
                      refine tree_e0 (by kernel_rfl) rfl rfl (fun K hK => ?_)
                      have b13' := b13
                      obtain ⟨⟨k0, f0⟩, ⟨k1, f1⟩, ⟨k2, f2⟩⟩ := b13'
                      go_wp2_with fail
                      try go_simp
                      refine hK _ _ trivial ?_
                      clear hK K
                      obtain ⟨w16, hw16⟩ : ∃ x, x = (((w15).setCell ⟨x13, 0, none⟩ (.int .i64 (vc).x)).setCell ⟨x13, 1, none⟩ (.int .i64 (vc).y)).setCell ⟨x13, 2, none⟩ (.int .i64 (vc).z) := ⟨_, rfl⟩
                      have hg16 : (w15).grownBy w16 (some x13) := by rw [hw16]; exact gr_set3 _ _ _ _
                      have b13 := b13.set vc
                      rw [← hw16] at b13
                      rw [← hw16]
                      clear hw16
                      replace b11 := b11.gr hg16 (by intro e; injection e; omega)
                      replace b12 := b12.gr hg16 (by intro e; injection e; omega)
                      replace hcur := gr_new hcur hg16 hxs13
                      clear hg16
                      refine tree_done ?_
                      go_wp2_with fail
                      go_meet
                      exact ⟨x11, x12, x13, rfl, rfl, rfl, b11, b12, b13, hcur⟩
                    · refine tree_e rfl rfl (fun K hK => ?_)
                      go_wp2_with fail
                      try go_simp
                      refine hK _ _ (gr_alloc hcur _) ?_
                      clear hK K
                      obtain ⟨w13, hw13⟩ : ∃ x, x = (w12).alloc (.cells #[.int .i64 0, .int .i64 0, .int .i64 0] 38) := ⟨_, rfl⟩
                      have hg13 : (w12).grownBy w13 none := by rw [hw13]; exact gr_alloc (World.grownBy.refl _ _) _
                      have b13 : Box3 w13 (w12).heap.size ⟨0, 0, 0⟩ := by rw [hw13]; exact ⟨Cell.new _ [.int .i64 0, .int .i64 0, .int .i64 0] 38 0 _ rfl _ rfl, Cell.new _ [.int .i64 0, .int .i64 0, .int .i64 0] 38 1 _ rfl _ rfl, Cell.new _ [.int .i64 0, .int .i64 0, .int .i64 0] 38 2 _ rfl _ rfl⟩
                      rw [← hw13]
                      clear hw13
                      have hxs13 := hcur.size
                      obtain ⟨x13, hx13⟩ : ∃ x, x = (w12).heap.size := ⟨_, rfl⟩
                      rw [← hx13] at b13 hxs13 ⊢
                      have nb1311 : x13 ≠ x11 := by have := cell_lt b11.1.1; simp only at this; omega
                      have nb1312 : x13 ≠ x12 := by have := cell_lt b12.1.1; simp only at this; omega
                      replace b11 := b11.gr hg13 (by simp)
                      replace b12 := b12.gr hg13 (by simp)
                      replace hcur := gr_trans hcur hg13
                      clear hx13 hg13
                      refine tree_e0 (by kernel_rfl) rfl rfl (fun K hK => ?_)
                      go_wp2_with fail
                      refine (hCo.out w13 (hl.pure (gr_trans hgz hcur))).mono ?_
                      rintro e w6 ⟨rfl, hg6⟩
                      go_wp2_with fail
                      try go_simp
                      refine hK _ _ trivial ?_
                      clear hK K
                      replace b11 := b11.gr hg6 (by simp)
                      replace b12 := b12.gr hg6 (by simp)
                      replace b13 := b13.gr hg6 (by simp)
                      replace hcur := gr_trans hcur hg6
                      refine tree_p rfl rfl rfl rfl _ rfl (by simp) (fun K hK => ?_)
                      apply Exists.intro
                      refine ⟨fun wq K' hK' => ?_, ?_⟩
                      · go_wp2_with fail
                        exact hK'
                      go_simp
                      refine hK _ ?_
                      clear hK K
                      refine tree_p rfl rfl rfl rfl _ rfl (by simp) (fun K hK => ?_)
                      apply Exists.intro
                      refine ⟨fun wq K' hK' => ?_, ?_⟩
                      · go_wp2_with fail
                        exact hK'
                      go_simp
                      refine hK _ ?_
                      clear hK K
                      refine tree_p rfl rfl rfl rfl _ rfl (by simp) (fun K hK => ?_)
                      apply Exists.intro
                      refine ⟨fun wq K' hK' => ?_, ?_⟩
                      · go_wp2_with fail
                        exact hK'
                      go_simp
                      refine hK _ ?_
                      clear hK K
                      refine tree_p rfl rfl rfl rfl _ rfl (by simp) (fun K hK => ?_)
                      apply Exists.intro
                      refine ⟨fun wq K' hK' => ?_, ?_⟩
                      · go_wp2_with fail
                        exact hK'
                      go_simp
                      refine hK _ ?_
                      clear hK K
                      refine tree_e0 (by kernel_rfl) rfl rfl (fun K hK => ?_)
                      have b11' := b11
                      obtain ⟨⟨k0, f0⟩, ⟨k1, f1⟩, ⟨k2, f2⟩⟩ := b11'
                      go_wp2_with fail
                      try go_simp
                      refine hK _ _ trivial ?_
                      clear hK K
                      obtain ⟨w14, hw14⟩ : ∃ x, x = (((w6).setCell ⟨x11, 0, none⟩ (.int .i64 (va).x)).setCell ⟨x11, 1, none⟩ (.int .i64 (va).y)).setCell ⟨x11, 2, none⟩ (.int .i64 (va).z) := ⟨_, rfl⟩
                      have hg14 : (w6).grownBy w14 (some x11) := by rw [hw14]; exact gr_set3 _ _ _ _
                      have b11 := b11.set va
                      rw [← hw14] at b11
                      rw [← hw14]
                      clear hw14
                      replace b12 := b12.gr hg14 (by intro e; injection e; omega)
                      replace b13 := b13.gr hg14 (by intro e; injection e; omega)
                      replace hcur := gr_new hcur hg14 hxs11
                      clear hg14
                      refine tree_e0 (by kernel_rfl) rfl rfl (fun K hK => ?_)
                      have b12' := b12
                      obtain ⟨⟨k0, f0⟩, ⟨k1, f1⟩, ⟨k2, f2⟩⟩ := b12'
                      go_wp2_with fail
                      try go_simp
                      refine hK _ _ trivial ?_
                      clear hK K
                      obtain ⟨w15, hw15⟩ : ∃ x, x = (((w14).setCell ⟨x12, 0, none⟩ (.int .i64 (vb).x)).setCell ⟨x12, 1, none⟩ (.int .i64 (vb).y)).setCell ⟨x12, 2, none⟩ (.int .i64 (vb).z) := ⟨_, rfl⟩
                      have hg15 : (w14).grownBy w15 (some x12) := by rw [hw15]; exact gr_set3 _ _ _ _
                      have b12 := b12.set vb
                      rw [← hw15] at b12
                      rw [← hw15]
                      clear hw15
                      replace b11 := b11.gr hg15 (by intro e; injection e; omega)
                      replace b13 := b13.gr hg15 (by intro e; injection e; omega)
                      replace hcur := gr_new hcur hg15 hxs12
                      clear hg15
                      refine tree_e0 (by kernel_rfl) rfl rfl (fun K hK => ?_)
                      have b13' := b13
                      obtain ⟨⟨k0, f0⟩, ⟨k1, f1⟩, ⟨k2, f2⟩⟩ := b13'
                      go_wp2_with fail
                      try go_simp
                      refine hK _ _ trivial ?_
                      clear hK K
                      obtain ⟨w16, hw16⟩ : ∃ x, x = (((w15).setCell ⟨x13, 0, none⟩ (.int .i64 (vc).x)).setCell ⟨x13, 1, none⟩ (.int .i64 (vc).y)).setCell ⟨x13, 2, none⟩ (.int .i64 (vc).z) := ⟨_, rfl⟩
                      have hg16 : (w15).grownBy w16 (some x13) := by rw [hw16]; exact gr_set3 _ _ _ _
                      have b13 := b13.set vc
                      rw [← hw16] at b13
                      rw [← hw16]
                      clear hw16
                      replace b11 := b11.gr hg16 (by intro e; injection e; omega)
                      replace b12 := b12.gr hg16 (by intro e; injection e; omega)
                      replace hcur := gr_new hcur hg16 hxs13
                      clear hg16
                      refine tree_done ?_
                      go_wp2_with fail
                      go_meet
                      exact ⟨x11, x12, x13, rfl, rfl, rfl, b11, b12, b13, hcur⟩
                  · refine tree_e rfl rfl (fun K hK => ?_)
                    go_wp2_with fail
                    try go_simp
                    refine hK _ _ (gr_alloc hcur _) ?_
                    clear hK K
                    obtain ⟨w13, hw13⟩ : ∃ x, x = (w11).alloc (.cells #[.int .i64 0, .int .i64 0, .int .i64 0] 38) := ⟨_, rfl⟩
                    have hg13 : (w11).grownBy w13 none := by rw [hw13]; exact gr_alloc (World.grownBy.refl _ _) _
                    have b13 : Box3 w13 (w11).heap.size ⟨0, 0, 0⟩ := by rw [hw13]; exact ⟨Cell.new _ [.int .i64 0, .int .i64 0, .int .i64 0] 38 0 _ rfl _ rfl, Cell.new _ [.int .i64 0, .int .i64 0, .int .i64 0] 38 1 _ rfl _ rfl, Cell.new _ [.int .i64 0, .int .i64 0, .int .i64 0] 38 2 _ rfl _ rfl⟩
                    rw [← hw13]
                    clear hw13
                    have hxs13 := hcur.size
                    obtain ⟨x13, hx13⟩ : ∃ x, x = (w11).heap.size := ⟨_, rfl⟩
                    rw [← hx13] at b13 hxs13 ⊢
                    have nb1311 : x13 ≠ x11 := by have := cell_lt b11.1.1; simp only at this; omega
                    replace b11 := b11.gr hg13 (by simp)
                    replace hcur := gr_trans hcur hg13
                    clear hx13 hg13
                    refine tree_alt ?_ ?_
                    · refine tree_e0 (by kernel_rfl) rfl rfl (fun K hK => ?_)
                      go_wp2_with fail
                      refine (hCo.out w13 (hl.pure (gr_trans hgz hcur))).mono ?_
                      rintro e w6 ⟨rfl, hg6⟩
                      go_wp2_with fail
                      try go_simp
                      refine hK _ _ trivial ?_
                      clear hK K
                      replace b11 := b11.gr hg6 (by simp)
                      replace b13 := b13.gr hg6 (by simp)
                      replace hcur := gr_trans hcur hg6
                      refine tree_p rfl rfl rfl rfl _ rfl (by simp) (fun K hK => ?_)
                      apply Exists.intro
                      refine ⟨fun wq K' hK' => ?_, ?_⟩
                      · go_wp2_with fail
                        exact hK'
                      go_simp
                      refine hK _ ?_
                      clear hK K
                      refine tree_p rfl rfl rfl rfl _ rfl (by simp) (fun K hK => ?_)
                      apply Exists.intro
                      refine ⟨fun wq K' hK' => ?_, ?_⟩
                      · go_wp2_with fail
                        exact hK'
                      go_simp
                      refine hK _ ?_
                      clear hK K
                      refine tree_p rfl rfl rfl rfl _ rfl (by simp) (fun K hK => ?_)
                      apply Exists.intro
                      refine ⟨fun wq K' hK' => ?_, ?_⟩
                      · go_wp2_with fail
                        exact hK'
                      go_simp
                      refine hK _ ?_
                      clear hK K
                      refine tree_p rfl rfl rfl rfl _ rfl (by simp) (fun K hK => ?_)
                      apply Exists.intro
                      refine ⟨fun wq K' hK' => ?_, ?_⟩
                      · go_wp2_with fail
                        exact hK'
                      go_simp
                      refine hK _ ?_
                      clear hK K
                      refine tree_e rfl rfl (fun K hK => ?_)
                      go_wp2_with fail
                      try go_simp
                      refine hK _ _ (gr_alloc hcur _) ?_
                      clear hK K
                      obtain ⟨w12, hw12⟩ : ∃ x, x = (w6).alloc (.cells #[.int .i64 0, .int .i64 0, .int .i64 0] 38) := ⟨_, rfl⟩
                      have hg12 : (w6).grownBy w12 none := by rw [hw12]; exact gr_alloc (World.grownBy.refl _ _) _
                      have b12 : Box3 w12 (w6).heap.size ⟨0, 0, 0⟩ := by rw [hw12]; exact ⟨Cell.new _ [.int .i64 0, .int .i64 0, .int .i64 0] 38 0 _ rfl _ rfl, Cell.new _ [.int .i64 0, .int .i64 0, .int .i64 0] 38 1 _ rfl _ rfl, Cell.new _ [.int .i64 0, .int .i64 0, .int .i64 0] 38 2 _ rfl _ rfl⟩
                      rw [← hw12]
                      clear hw12
                      have hxs12 := hcur.size
                      obtain ⟨x12, hx12⟩ : ∃ x, x = (w6).heap.size := ⟨_, rfl⟩
                      rw [← hx12] at b12 hxs12 ⊢
                      have nb1211 : x12 ≠ x11 := by have := cell_lt b11.1.1; simp only at this; omega
                      have nb1213 : x12 ≠ x13 := by have := cell_lt b13.1.1; simp only at this; omega
                      replace b11 := b11.gr hg12 (by simp)
                      replace b13 := b13.gr hg12 (by simp)
                      replace hcur := gr_trans hcur hg12
                      clear hx12 hg12
                      refine tree_e0 (by kernel_rfl) rfl rfl (fun K hK => ?_)
                      have b11' := b11
                      obtain ⟨⟨k0, f0⟩, ⟨k1, f1⟩, ⟨k2, f2⟩⟩ := b11'
                      go_wp2_with fail
                      try go_simp
                      refine hK _ _ trivial ?_
                      clear hK K
                      obtain ⟨w14, hw14⟩ : ∃ x, x = (((w12).setCell ⟨x11, 0, none⟩ (.int .i64 (va).x)).setCell ⟨x11, 1, none⟩ (.int .i64 (va).y)).setCell ⟨x11, 2, none⟩ (.int .i64 (va).z) := ⟨_, rfl⟩
                      have hg14 : (w12).grownBy w14 (some x11) := by rw [hw14]; exact gr_set3 _ _ _ _
                      have b11 := b11.set va
                      rw [← hw14] at b11
                      rw [← hw14]
                      clear hw14
                      replace b12 := b12.gr hg14 (by intro e; injection e; omega)
                      replace b13 := b13.gr hg14 (by intro e; injection e; omega)
                      replace hcur := gr_new hcur hg14 hxs11
                      clear hg14
                      refine tree_e0 (by kernel_rfl) rfl rfl (fun K hK => ?_)
                      have b12' := b12
                      obtain ⟨⟨k0, f0⟩, ⟨k1, f1⟩, ⟨k2, f2⟩⟩ := b12'
                      go_wp2_with fail
                      try go_simp
                      refine hK _ _ trivial ?_
                      clear hK K
                      obtain ⟨w15, hw15⟩ : ∃ x, x = (((w14).setCell ⟨x12, 0, none⟩ (.int .i64 (vb).x)).setCell ⟨x12, 1, none⟩ (.int .i64 (vb).y)).setCell ⟨x12, 2, none⟩ (.int .i64 (vb).z) := ⟨_, rfl⟩
                      have hg15 : (w14).grownBy w15 (some x12) := by rw [hw15]; exact gr_set3 _ _ _ _
                      have b12 := b12.set vb
                      rw [← hw15] at b12
                      rw [← hw15]
                      clear hw15
                      replace b11 := b11.gr hg15 (by intro e; injection e; omega)
                      replace b13 := b13.gr hg15 (by intro e; injection e; omega)
                      replace hcur := gr_new hcur hg15 hxs12
                      clear hg15
                      refine tree_e0 (by kernel_rfl) rfl rfl (fun K hK => ?_)
                      have b13' := b13
                      obtain ⟨⟨k0, f0⟩, ⟨k1, f1⟩, ⟨k2, f2⟩⟩ := b13'
                      go_wp2_with fail
                      try go_simp
                      refine hK _ _ trivial ?_
                      clear hK K
                      obtain ⟨w16, hw16⟩ : ∃ x, x = (((w15).setCell ⟨x13, 0, none⟩ (.int .i64 (vc).x)).setCell ⟨x13, 1, none⟩ (.int .i64 (vc).y)).setCell ⟨x13, 2, none⟩ (.int .i64 (vc).z) := ⟨_, rfl⟩
                      have hg16 : (w15).grownBy w16 (some x13) := by rw [hw16]; exact gr_set3 _ _ _ _
                      have b13 := b13.set vc
                      rw [← hw16] at b13
                      rw [← hw16]
                      clear hw16
                      replace b11 := b11.gr hg16 (by intro e; injection e; omega)
                      replace b12 := b12.gr hg16 (by intro e; injection e; omega)
                      replace hcur := gr_new hcur hg16 hxs13
                      clear hg16
                      refine tree_done ?_
                      go_wp2_with fail
                      go_meet
                      exact ⟨x11, x12, x13, rfl, rfl, rfl, b11, b12, b13, hcur⟩
                    · refine tree_e rfl rfl (fun K hK => ?_)
                      go_wp2_with fail
                      try go_simp
                      refine hK _ _ (gr_alloc hcur _) ?_
                      clear hK K
                      obtain ⟨w12, hw12⟩ : ∃ x, x = (w13).alloc (.cells #[.int .i64 0, .int .i64 0, .int .i64 0] 38) := ⟨_, rfl⟩
                      have hg12 : (w13).grownBy w12 none := by rw [hw12]; exact gr_alloc (World.grownBy.refl _ _) _
                      have b12 : Box3 w12 (w13).heap.size ⟨0, 0, 0⟩ := by rw [hw12]; exact ⟨Cell.new _ [.int .i64 0, .int .i64 0, .int .i64 0] 38 0 _ rfl _ rfl, Cell.new _ [.int .i64 0, .int .i64 0, .int .i64 0] 38 1 _ rfl _ rfl, Cell.new _ [.int .i64 0, .int .i64 0, .int .i64 0] 38 2 _ rfl _ rfl⟩
                      rw [← hw12]
                      clear hw12
                      have hxs12 := hcur.size
                      obtain ⟨x12, hx12⟩ : ∃ x, x = (w13).heap.size := ⟨_, rfl⟩
                      rw [← hx12] at b12 hxs12 ⊢
                      have nb1211 : x12 ≠ x11 := by have := cell_lt b11.1.1; simp only at this; omega
                      have nb1213 : x12 ≠ x13 := by have := cell_lt b13.1.1; simp only at this; omega
                      replace b11 := b11.gr hg12 (by simp)
                      replace b13 := b13.gr hg12 (by simp)
                      replace hcur := gr_trans hcur hg12
                      clear hx12 hg12
                      refine tree_e0 (by kernel_rfl) rfl rfl (fun K hK => ?_)
                      go_wp2_with fail
                      refine (hCo.out w12 (hl.pure (gr_trans hgz hcur))).mono ?_
                      rintro e w6 ⟨rfl, hg6⟩
                      go_wp2_with fail
                      try go_simp
                      refine hK _ _ trivial ?_
                      clear hK K
                      replace b11 := b11.gr hg6 (by simp)
                      replace b12 := b12.gr hg6 (by simp)
                      replace b13 := b13.gr hg6 (by simp)
                      replace hcur := gr_trans hcur hg6
                      refine tree_p rfl rfl rfl rfl _ rfl (by simp) (fun K hK => ?_)
                      apply Exists.intro
                      refine ⟨fun wq K' hK' => ?_, ?_⟩
                      · go_wp2_with fail
                        exact hK'
                      go_simp
                      refine hK _ ?_
                      clear hK K
                      refine tree_p rfl rfl rfl rfl _ rfl (by simp) (fun K hK => ?_)
                      apply Exists.intro
                      refine ⟨fun wq K' hK' => ?_, ?_⟩
                      · go_wp2_with fail
                        exact hK'
                      go_simp
                      refine hK _ ?_
                      clear hK K
                      refine tree_p rfl rfl rfl rfl _ rfl (by simp) (fun K hK => ?_)
                      apply Exists.intro
                      refine ⟨fun wq K' hK' => ?_, ?_⟩
                      · go_wp2_with fail
                        exact hK'
                      go_simp
                      refine hK _ ?_
                      clear hK K
                      refine tree_p rfl rfl rfl rfl _ rfl (by simp) (fun K hK => ?_)
                      apply Exists.intro
                      refine ⟨fun wq K' hK' => ?_, ?_⟩
                      · go_wp2_with fail
                        exact hK'
                      go_simp
                      refine hK _ ?_
                      clear hK K
                      refine tree_e0 (by kernel_rfl) rfl rfl (fun K hK => ?_)
                      have b11' := b11
                      obtain ⟨⟨k0, f0⟩, ⟨k1, f1⟩, ⟨k2, f2⟩⟩ := b11'
                      go_wp2_with fail
                      try go_simp
                      refine hK _ _ trivial ?_
                      clear hK K
                      obtain ⟨w14, hw14⟩ : ∃ x, x = (((w6).setCell ⟨x11, 0, none⟩ (.int .i64 (va).x)).setCell ⟨x11, 1, none⟩ (.int .i64 (va).y)).setCell ⟨x11, 2, none⟩ (.int .i64 (va).z) := ⟨_, rfl⟩
                      have hg14 : (w6).grownBy w14 (some x11) := by rw [hw14]; exact gr_set3 _ _ _ _
                      have b11 := b11.set va
                      rw [← hw14] at b11
                      rw [← hw14]
                      clear hw14
                      replace b12 := b12.gr hg14 (by intro e; injection e; omega)
                      replace b13 := b13.gr hg14 (by intro e; injection e; omega)
                      replace hcur := gr_new hcur hg14 hxs11
                      clear hg14
                      refine tree_e0 (by kernel_rfl) rfl rfl (fun K hK => ?_)
                      have b12' := b12
                      obtain ⟨⟨k0, f0⟩, ⟨k1, f1⟩, ⟨k2, f2⟩⟩ := b12'
                      go_wp2_with fail
                      try go_simp
                      refine hK _ _ trivial ?_
                      clear hK K
                      obtain ⟨w15, hw15⟩ : ∃ x, x = (((w14).setCell ⟨x12, 0, none⟩ (.int .i64 (vb).x)).setCell ⟨x12, 1, none⟩ (.int .i64 (vb).y)).setCell ⟨x12, 2, none⟩ (.int .i64 (vb).z) := ⟨_, rfl⟩
                      have hg15 : (w14).grownBy w15 (some x12) := by rw [hw15]; exact gr_set3 _ _ _ _
                      have b12 := b12.set vb
                      rw [← hw15] at b12
                      rw [← hw15]
                      clear hw15
                      replace b11 := b11.gr hg15 (by intro e; injection e; omega)
                      replace b13 := b13.gr hg15 (by intro e; injection e; omega)
                      replace hcur := gr_new hcur hg15 hxs12
                      clear hg15
                      refine tree_e0 (by kernel_rfl) rfl rfl (fun K hK => ?_)
                      have b13' := b13
                      obtain ⟨⟨k0, f0⟩, ⟨k1, f1⟩, ⟨k2, f2⟩⟩ := b13'
                      go_wp2_with fail
                      try go_simp
                      refine hK _ _ trivial ?_
                      clear hK K
                      obtain ⟨w16, hw16⟩ : ∃ x, x = (((w15).setCell ⟨x13, 0, none⟩ (.int .i64 (vc).x)).setCell ⟨x13, 1, none⟩ (.int .i64 (vc).y)).setCell ⟨x13, 2, none⟩ (.int .i64 (vc).z) := ⟨_, rfl⟩
                      have hg16 : (w15).grownBy w16 (some x13) := by rw [hw16]; exact gr_set3 _ _ _ _
                      have b13 := b13.set vc
                      rw [← hw16] at b13
                      rw [← hw16]
                      clear hw16
                      replace b11 := b11.gr hg16 (by intro e; injection e; omega)
                      replace b12 := b12.gr hg16 (by intro e; injection e; omega)
                      replace hcur := gr_new hcur hg16 hxs13
                      clear hg16
                      refine tree_done ?_
                      go_wp2_with fail
                      go_meet
                      exact ⟨x11, x12, x13, rfl, rfl, rfl, b11, b12, b13, hcur⟩
              · refine tree_alt ?_ ?_
                · refine tree_e rfl rfl (fun K hK => ?_)
                  go_wp2_with fail
                  try go_simp
                  refine hK _ _ (gr_alloc hcur _) ?_
                  clear hK K
                  obtain ⟨w12, hw12⟩ : ∃ x, x = (W1).alloc (.cells #[.int .i64 0, .int .i64 0, .int .i64 0] 38) := ⟨_, rfl⟩
                  have hg12 : (W1).grownBy w12 none := by rw [hw12]; exact gr_alloc (World.grownBy.refl _ _) _
                  have b12 : Box3 w12 (W1).heap.size ⟨0, 0, 0⟩ := by rw [hw12]; exact ⟨Cell.new _ [.int .i64 0, .int .i64 0, .int .i64 0] 38 0 _ rfl _ rfl, Cell.new _ [.int .i64 0, .int .i64 0, .int .i64 0] 38 1 _ rfl _ rfl, Cell.new _ [.int .i64 0, .int .i64 0, .int .i64 0] 38 2 _ rfl _ rfl⟩
                  rw [← hw12]
                  clear hw12
                  have hxs12 := hcur.size
                  obtain ⟨x12, hx12⟩ : ∃ x, x = (W1).heap.size := ⟨_, rfl⟩
                  rw [← hx12] at b12 hxs12 ⊢
                  replace hcur := gr_trans hcur hg12
                  clear hx12 hg12
                  refine tree_alt ?_ ?_
                  · refine tree_e0 (by kernel_rfl) rfl rfl (fun K hK => ?_)
                    go_wp2_with fail
                    refine (hCo.out w12 (hl.pure (gr_trans hgz hcur))).mono ?_
                    rintro e w6 ⟨rfl, hg6⟩
                    go_wp2_with fail
                    try go_simp
                    refine hK _ _ trivial ?_
                    clear hK K
                    replace b12 := b12.gr hg6 (by simp)
                    replace hcur := gr_trans hcur hg6
                    refine tree_p rfl rfl rfl rfl _ rfl (by simp) (fun K hK => ?_)
                    apply Exists.intro
                    refine ⟨fun wq K' hK' => ?_, ?_⟩
                    · go_wp2_with fail
                      exact hK'
                    go_simp
                    refine hK _ ?_
                    clear hK K
                    refine tree_p rfl rfl rfl rfl _ rfl (by simp) (fun K hK => ?_)
                    apply Exists.intro
                    refine ⟨fun wq K' hK' => ?_, ?_⟩
                    · go_wp2_with fail
                      exact hK'
                    go_simp
                    refine hK _ ?_
                    clear hK K
                    refine tree_p rfl rfl rfl rfl _ rfl (by simp) (fun K hK => ?_)
                    apply Exists.intro
                    refine ⟨fun wq K' hK' => ?_, ?_⟩
                    · go_wp2_with fail
                      exact hK'
                    go_simp
                    refine hK _ ?_
                    clear hK K
                    refine tree_p rfl rfl rfl rfl _ rfl (by simp) (fun K hK => ?_)
                    apply Exists.intro
                    refine ⟨fun wq K' hK' => ?_, ?_⟩
                    · go_wp2_with fail
                      exact hK'
                    go_simp
                    refine hK _ ?_
                    clear hK K
                    refine tree_alt ?_ ?_
                    · refine tree_e rfl rfl (fun K hK => ?_)
                      go_wp2_with fail
                      try go_simp
                      refine hK _ _ (gr_alloc hcur _) ?_
                      clear hK K
                      obtain ⟨w11, hw11⟩ : ∃ x, x = (w6).alloc (.cells #[.int .i64 0, .int .i64 0, .int .i64 0] 38) := ⟨_, rfl⟩
                      have hg11 : (w6).grownBy w11 none := by rw [hw11]; exact gr_alloc (World.grownBy.refl _ _) _
                      have b11 : Box3 w11 (w6).heap.size ⟨0, 0, 0⟩ := by rw [hw11]; exact ⟨Cell.new _ [.int .i64 0, .int .i64 0, .int .i64 0] 38 0 _ rfl _ rfl, Cell.new _ [.int .i64 0, .int .i64 0, .int .i64 0] 38 1 _ rfl _ rfl, Cell.new _ [.int .i64 0, .int .i64 0, .int .i64 0] 38 2 _ rfl _ rfl⟩
                      rw [← hw11]
                      clear hw11
                      have hxs11 := hcur.size
                      obtain ⟨x11, hx11⟩ : ∃ x, x = (w6).heap.size := ⟨_, rfl⟩
                      rw [← hx11] at b11 hxs11 ⊢
                      have nb1112 : x11 ≠ x12 := by have := cell_lt b12.1.1; simp only at this; omega
                      replace b12 := b12.gr hg11 (by simp)
                      replace hcur := gr_trans hcur hg11
                      clear hx11 hg11
                      refine tree_e rfl rfl (fun K hK => ?_)
                      go_wp2_with fail
                      try go_simp
                      refine hK _ _ (gr_alloc hcur _) ?_
                      clear hK K
                      obtain ⟨w13, hw13⟩ : ∃ x, x = (w11).alloc (.cells #[.int .i64 0, .int .i64 0, .int .i64 0] 38) := ⟨_, rfl⟩
                      have hg13 : (w11).grownBy w13 none := by rw [hw13]; exact gr_alloc (World.grownBy.refl _ _) _
                      have b13 : Box3 w13 (w11).heap.size ⟨0, 0, 0⟩ := by rw [hw13]; exact ⟨Cell.new _ [.int .i64 0, .int .i64 0, .int .i64 0] 38 0 _ rfl _ rfl, Cell.new _ [.int .i64 0, .int .i64 0, .int .i64 0] 38 1 _ rfl _ rfl, Cell.new _ [.int .i64 0, .int .i64 0, .int .i64 0] 38 2 _ rfl _ rfl⟩
                      rw [← hw13]
                      clear hw13
                      have hxs13 := hcur.size
                      obtain ⟨x13, hx13⟩ : ∃ x, x = (w11).heap.size := ⟨_, rfl⟩
                      rw [← hx13] at b13 hxs13 ⊢
                      have nb1311 : x13 ≠ x11 := by have := cell_lt b11.1.1; simp only at this; omega
                      have nb1312 : x13 ≠ x12 := by have := cell_lt b12.1.1; simp only at this; omega
                      replace b11 := b11.gr hg13 (by simp)
                      replace b12 := b12.gr hg13 (by simp)
                      replace hcur := gr_trans hcur hg13
                      clear hx13 hg13
                      refine tree_e0 (by kernel_rfl) rfl rfl (fun K hK => ?_)
                      have b11' := b11
                      obtain ⟨⟨k0, f0⟩, ⟨k1, f1⟩, ⟨k2, f2⟩⟩ := b11'
                      go_wp2_with fail
                      try go_simp
                      refine hK _ _ trivial ?_
                      clear hK K
                      obtain ⟨w14, hw14⟩ : ∃ x, x = (((w13).setCell ⟨x11, 0, none⟩ (.int .i64 (va).x)).setCell ⟨x11, 1, none⟩ (.int .i64 (va).y)).setCell ⟨x11, 2, none⟩ (.int .i64 (va).z) := ⟨_, rfl⟩
                      have hg14 : (w13).grownBy w14 (some x11) := by rw [hw14]; exact gr_set3 _ _ _ _
                      have b11 := b11.set va
                      rw [← hw14] at b11
                      rw [← hw14]
                      clear hw14
                      replace b12 := b12.gr hg14 (by intro e; injection e; omega)
                      replace b13 := b13.gr hg14 (by intro e; injection e; omega)
                      replace hcur := gr_new hcur hg14 hxs11
                      clear hg14
                      refine tree_e0 (by kernel_rfl) rfl rfl (fun K hK => ?_)
                      have b12' := b12
                      obtain ⟨⟨k0, f0⟩, ⟨k1, f1⟩, ⟨k2, f2⟩⟩ := b12'
                      go_wp2_with fail
                      try go_simp
                      refine hK _ _ trivial ?_
                      clear hK K
                      obtain ⟨w15, hw15⟩ : ∃ x, x = (((w14).setCell ⟨x12, 0, none⟩ (.int .i64 (vb).x)).setCell ⟨x12, 1, none⟩ (.int .i64 (vb).y)).setCell ⟨x12, 2, none⟩ (.int .i64 (vb).z) := ⟨_, rfl⟩
                      have hg15 : (w14).grownBy w15 (some x12) := by rw [hw15]; exact gr_set3 _ _ _ _
                      have b12 := b12.set vb
                      rw [← hw15] at b12
                      rw [← hw15]
                      clear hw15
                      replace b11 := b11.gr hg15 (by intro e; injection e; omega)
                      replace b13 := b13.gr hg15 (by intro e; injection e; omega)
                      replace hcur := gr_new hcur hg15 hxs12
                      clear hg15
                      refine tree_e0 (by kernel_rfl) rfl rfl (fun K hK => ?_)
                      have b13' := b13
                      obtain ⟨⟨k0, f0⟩, ⟨k1, f1⟩, ⟨k2, f2⟩⟩ := b13'
                      go_wp2_with fail
                      try go_simp
                      refine hK _ _ trivial ?_
                      clear hK K
                      obtain ⟨w16, hw16⟩ : ∃ x, x = (((w15).setCell ⟨x13, 0, none⟩ (.int .i64 (vc).x)).setCell ⟨x13, 1, none⟩ (.int .i64 (vc).y)).setCell ⟨x13, 2, none⟩ (.int .i64 (vc).z) := ⟨_, rfl⟩
                      have hg16 : (w15).grownBy w16 (some x13) := by rw [hw16]; exact gr_set3 _ _ _ _
                      have b13 := b13.set vc
                      rw [← hw16] at b13
                      rw [← hw16]
                      clear hw16
                      replace b11 := b11.gr hg16 (by intro e; injection e; omega)
                      replace b12 := b12.gr hg16 (by intro e; injection e; omega)
                      replace hcur := gr_new hcur hg16 hxs13
                      clear hg16
                      refine tree_done ?_
                      go_wp2_with fail
                      go_meet
                      exact ⟨x11, x12, x13, rfl, rfl, rfl, b11, b12, b13, hcur⟩
                    · refine tree_e rfl rfl (fun K hK => ?_)
                      go_wp2_with fail
                      try go_simp
                      refine hK _ _ (gr_alloc hcur _) ?_
                      clear hK K
                      obtain ⟨w13, hw13⟩ : ∃ x, x = (w6).alloc (.cells #[.int .i64 0, .int .i64 0, .int .i64 0] 38) := ⟨_, rfl⟩
                      have hg13 : (w6).grownBy w13 none := by rw [hw13]; exact gr_alloc (World.grownBy.refl _ _) _
                      have b13 : Box3 w13 (w6).heap.size ⟨0, 0, 0⟩ := by rw [hw13]; exact ⟨Cell.new _ [.int .i64 0, .int .i64 0, .int .i64 0] 38 0 _ rfl _ rfl, Cell.new _ [.int .i64 0, .int .i64 0, .int .i64 0] 38 1 _ rfl _ rfl, Cell.new _ [.int .i64 0, .int .i64 0, .int .i64 0] 38 2 _ rfl _ rfl⟩
                      rw [← hw13]
                      clear hw13
                      have hxs13 := hcur.size
                      obtain ⟨x13, hx13⟩ : ∃ x, x = (w6).heap.size := ⟨_, rfl⟩
                      rw [← hx13] at b13 hxs13 ⊢
                      have nb1312 : x13 ≠ x12 := by have := cell_lt b12.1.1; simp only at this; omega
                      replace b12 := b12.gr hg13 (by simp)
                      replace hcur := gr_trans hcur hg13
                      clear hx13 hg13
                      refine tree_e rfl rfl (fun K hK => ?_)
                      go_wp2_with fail
                      try go_simp
                      refine hK _ _ (gr_alloc hcur _) ?_
                      clear hK K
                      obtain ⟨w11, hw11⟩ : ∃ x, x = (w13).alloc (.cells #[.int .i64 0, .int .i64 0, .int .i64 0] 38) := ⟨_, rfl⟩
                      have hg11 : (w13).grownBy w11 none := by rw [hw11]; exact gr_alloc (World.grownBy.refl _ _) _
                      have b11 : Box3 w11 (w13).heap.size ⟨0, 0, 0⟩ := by rw [hw11]; exact ⟨Cell.new _ [.int .i64 0, .int .i64 0, .int .i64 0] 38 0 _ rfl _ rfl, Cell.new _ [.int .i64 0, .int .i64 0, .int .i64 0] 38 1 _ rfl _ rfl, Cell.new _ [.int .i64 0, .int .i64 0, .int .i64 0] 38 2 _ rfl _ rfl⟩
                      rw [← hw11]
                      clear hw11
                      have hxs11 := hcur.size
                      obtain ⟨x11, hx11⟩ : ∃ x, x = (w13).heap.size := ⟨_, rfl⟩
                      rw [← hx11] at b11 hxs11 ⊢
                      have nb1112 : x11 ≠ x12 := by have := cell_lt b12.1.1; simp only at this; omega
                      have nb1113 : x11 ≠ x13 := by have := cell_lt b13.1.1; simp only at this; omega
                      replace b12 := b12.gr hg11 (by simp)
                      replace b13 := b13.gr hg11 (by simp)
                      replace hcur := gr_trans hcur hg11
                      clear hx11 hg11
                      refine tree_e0 (by kernel_rfl) rfl rfl (fun K hK => ?_)
                      have b11' := b11
                      obtain ⟨⟨k0, f0⟩, ⟨k1, f1⟩, ⟨k2, f2⟩⟩ := b11'
                      go_wp2_with fail
                      try go_simp
                      refine hK _ _ trivial ?_
                      clear hK K
                      obtain ⟨w14, hw14⟩ : ∃ x, x = (((w11).setCell ⟨x11, 0, none⟩ (.int .i64 (va).x)).setCell ⟨x11, 1, none⟩ (.int .i64 (va).y)).setCell ⟨x11, 2, none⟩ (.int .i64 (va).z) := ⟨_, rfl⟩
                      have hg14 : (w11).grownBy w14 (some x11) := by rw [hw14]; exact gr_set3 _ _ _ _
                      have b11 := b11.set va
                      rw [← hw14] at b11
                      rw [← hw14]
                      clear hw14
                      replace b12 := b12.gr hg14 (by intro e; injection e; omega)
                      replace b13 := b13.gr hg14 (by intro e; injection e; omega)
                      replace hcur := gr_new hcur hg14 hxs11
                      clear hg14
                      refine tree_e0 (by kernel_rfl) rfl rfl (fun K hK => ?_)
                      have b12' := b12
                      obtain ⟨⟨k0, f0⟩, ⟨k1, f1⟩, ⟨k2, f2⟩⟩ := b12'
                      go_wp2_with fail
                      try go_simp
                      refine hK _ _ trivial ?_
                      clear hK K
                      obtain ⟨w15, hw15⟩ : ∃ x, x = (((w14).setCell ⟨x12, 0, none⟩ (.int .i64 (vb).x)).setCell ⟨x12, 1, none⟩ (.int .i64 (vb).y)).setCell ⟨x12, 2, none⟩ (.int .i64 (vb).z) := ⟨_, rfl⟩
                      have hg15 : (w14).grownBy w15 (some x12) := by rw [hw15]; exact gr_set3 _ _ _ _
                      have b12 := b12.set vb
                      rw [← hw15] at b12
                      rw [← hw15]
                      clear hw15
                      replace b11 := b11.gr hg15 (by intro e; injection e; omega)
                      replace b13 := b13.gr hg15 (by intro e; injection e; omega)
                      replace hcur := gr_new hcur hg15 hxs12
                      clear hg15
                      refine tree_e0 (by kernel_rfl) rfl rfl (fun K hK => ?_)
                      have b13' := b13
                      obtain ⟨⟨k0, f0⟩, ⟨k1, f1⟩, ⟨k2, f2⟩⟩ := b13'
                      go_wp2_with fail
                      try go_simp
                      refine hK _ _ trivial ?_
                      clear hK K
                      obtain ⟨w16, hw16⟩ : ∃ x, x = (((w15).setCell ⟨x13, 0, none⟩ (.int .i64 (vc).x)).setCell ⟨x13, 1, none⟩ (.int .i64 (vc).y)).setCell ⟨x13, 2, none⟩ (.int .i64 (vc).z) := ⟨_, rfl⟩
                      have hg16 : (w15).grownBy w16 (some x13) := by rw [hw16]; exact gr_set3 _ _ _ _
                      have b13 := b13.set vc
                      rw [← hw16] at b13
                      rw [← hw16]
                      clear hw16
                      replace b11 := b11.gr hg16 (by intro e; injection e; omega)
                      replace b12 := b12.gr hg16 (by intro e; injection e; omega)
                      replace hcur := gr_new hcur hg16 hxs13
                      clear hg16
                      refine tree_done ?_
                      go_wp2_with fail
                      go_meet
                      exact ⟨x11, x12, x13, rfl, rfl, rfl, b11, b12, b13, hcur⟩
                  · refine tree_alt ?_ ?_
                    · refine tree_e rfl rfl (fun K hK => ?_)
                      go_wp2_with fail
                      try go_simp
                      refine hK _ _ (gr_alloc hcur _) ?_
                      clear hK K
                      obtain ⟨w11, hw11⟩ : ∃ x, x = (w12).alloc (.cells #[.int .i64 0, .int .i64 0, .int .i64 0] 38) := ⟨_, rfl⟩
                      have hg11 : (w12).grownBy w11 none := by rw [hw11]; exact gr_alloc (World.grownBy.refl _ _) _
                      have b11 : Box3 w11 (w12).heap.size ⟨0, 0, 0⟩ := by rw [hw11]; exact ⟨Cell.new _ [.int .i64 0, .int .i64 0, .int .i64 0] 38 0 _ rfl _ rfl, Cell.new _ [.int .i64 0, .int .i64 0, .int .i64 0] 38 1 _ rfl _ rfl, Cell.new _ [.int .i64 0, .int .i64 0, .int .i64 0] 38 2 _ rfl _ rfl⟩
                      rw [← hw11]
                      clear hw11
                      have hxs11 := hcur.size
                      obtain ⟨x11, hx11⟩ : ∃ x, x = (w12).heap.size := ⟨_, rfl⟩
                      rw [← hx11] at b11 hxs11 ⊢
                      have nb1112 : x11 ≠ x12 := by have := cell_lt b12.1.1; simp only at this; omega
                      replace b12 := b12.gr hg11 (by simp)
                      replace hcur := gr_trans hcur hg11
                      clear hx11 hg11
                      refine tree_alt ?_ ?_
                      · refine tree_e0 (by kernel_rfl) rfl rfl (fun K hK => ?_)
                        go_wp2_with fail
                        refine (hCo.out w11 (hl.pure (gr_trans hgz hcur))).mono ?_
                        rintro e w6 ⟨rfl, hg6⟩
                        go_wp2_with fail
                        try go_simp
                        refine hK _ _ trivial ?_
                        clear hK K
                        replace b11 := b11.gr hg6 (by simp)
                        replace b12 := b12.gr hg6 (by simp)
                        replace hcur := gr_trans hcur hg6
                        refine tree_p rfl rfl rfl rfl _ rfl (by simp) (fun K hK => ?_)
                        apply Exists.intro
                        refine ⟨fun wq K' hK' => ?_, ?_⟩
                        · go_wp2_with fail
                          exact hK'
                        go_simp
                        refine hK _ ?_
                        clear hK K
                        refine tree_p rfl rfl rfl rfl _ rfl (by simp) (fun K hK => ?_)
                        apply Exists.intro
                        refine ⟨fun wq K' hK' => ?_, ?_⟩
                        · go_wp2_with fail
                          exact hK'
                        go_simp
                        refine hK _ ?_
                        clear hK K
                        refine tree_p rfl rfl rfl rfl _ rfl (by simp) (fun K hK => ?_)
                        apply Exists.intro
                        refine ⟨fun wq K' hK' => ?_, ?_⟩
                        · go_wp2_with fail
                          exact hK'
                        go_simp
                        refine hK _ ?_
                        clear hK K
                        refine tree_p rfl rfl rfl rfl _ rfl (by simp) (fun K hK => ?_)
                        apply Exists.intro
                        refine ⟨fun wq K' hK' => ?_, ?_⟩
                        · go_wp2_with fail
                          exact hK'
                        go_simp
                        refine hK _ ?_
                        clear hK K
                        refine tree_e rfl rfl (fun K hK => ?_)
                        go_wp2_with fail
                        try go_simp
                        refine hK _ _ (gr_alloc hcur _) ?_
                        clear hK K
                        obtain ⟨w13, hw13⟩ : ∃ x, x = (w6).alloc (.cells #[.int .i64 0, .int .i64 0, .int .i64 0] 38) := ⟨_, rfl⟩
                        have hg13 : (w6).grownBy w13 none := by rw [hw13]; exact gr_alloc (World.grownBy.refl _ _) _
                        have b13 : Box3 w13 (w6).heap.size ⟨0, 0, 0⟩ := by rw [hw13]; exact ⟨Cell.new _ [.int .i64 0, .int .i64 0, .int .i64 0] 38 0 _ rfl _ rfl, Cell.new _ [.int .i64 0, .int .i64 0, .int .i64 0] 38 1 _ rfl _ rfl, Cell.new _ [.int .i64 0, .int .i64 0, .int .i64 0] 38 2 _ rfl _ rfl⟩
                        rw [← hw13]
                        clear hw13
                        have hxs13 := hcur.size
                        obtain ⟨x13, hx13⟩ : ∃ x, x = (w6).heap.size := ⟨_, rfl⟩
                        rw [← hx13] at b13 hxs13 ⊢
                        have nb1311 : x13 ≠ x11 := by have := cell_lt b11.1.1; simp only at this; omega
                        have nb1312 : x13 ≠ x12 := by have := cell_lt b12.1.1; simp only at this; omega
                        replace b11 := b11.gr hg13 (by simp)
                        replace b12 := b12.gr hg13 (by simp)
                        replace hcur := gr_trans hcur hg13
                        clear hx13 hg13
                        refine tree_e0 (by kernel_rfl) rfl rfl (fun K hK => ?_)
                        have b11' := b11
                        obtain ⟨⟨k0, f0⟩, ⟨k1, f1⟩, ⟨k2, f2⟩⟩ := b11'
                        go_wp2_with fail
                        try go_simp
                        refine hK _ _ trivial ?_
                        clear hK K
                        obtain ⟨w14, hw14⟩ : ∃ x, x = (((w13).setCell ⟨x11, 0, none⟩ (.int .i64 (va).x)).setCell ⟨x11, 1, none⟩ (.int .i64 (va).y)).setCell ⟨x11, 2, none⟩ (.int .i64 (va).z) := ⟨_, rfl⟩
                        have hg14 : (w13).grownBy w14 (some x11) := by rw [hw14]; exact gr_set3 _ _ _ _
                        have b11 := b11.set va
                        rw [← hw14] at b11
                        rw [← hw14]
                        clear hw14
                        replace b12 := b12.gr hg14 (by intro e; injection e; omega)
                        replace b13 := b13.gr hg14 (by intro e; injection e; omega)
                        replace hcur := gr_new hcur hg14 hxs11
                        clear hg14
                        refine tree_e0 (by kernel_rfl) rfl rfl (fun K hK => ?_)
                        have b12' := b12
                        obtain ⟨⟨k0, f0⟩, ⟨k1, f1⟩, ⟨k2, f2⟩⟩ := b12'
                        go_wp2_with fail
                        try go_simp
                        refine hK _ _ trivial ?_
                        clear hK K
                        obtain ⟨w15, hw15⟩ : ∃ x, x = (((w14).setCell ⟨x12, 0, none⟩ (.int .i64 (vb).x)).setCell ⟨x12, 1, none⟩ (.int .i64 (vb).y)).setCell ⟨x12, 2, none⟩ (.int .i64 (vb).z) := ⟨_, rfl⟩
                        have hg15 : (w14).grownBy w15 (some x12) := by rw [hw15]; exact gr_set3 _ _ _ _
                        have b12 := b12.set vb
                        rw [← hw15] at b12
                        rw [← hw15]
                        clear hw15
                        replace b11 := b11.gr hg15 (by intro e; injection e; omega)
                        replace b13 := b13.gr hg15 (by intro e; injection e; omega)
                        replace hcur := gr_new hcur hg15 hxs12
                        clear hg15
                        refine tree_e0 (by kernel_rfl) rfl rfl (fun K hK => ?_)
                        have b13' := b13
                        obtain ⟨⟨k0, f0⟩, ⟨k1, f1⟩, ⟨k2, f2⟩⟩ := b13'
                        go_wp2_with fail
                        try go_simp
                        refine hK _ _ trivial ?_
                        clear hK K
                        obtain ⟨w16, hw16⟩ : ∃ x, x = (((w15).setCell ⟨x13, 0, none⟩ (.int .i64 (vc).x)).setCell ⟨x13, 1, none⟩ (.int .i64 (vc).y)).setCell ⟨x13, 2, none⟩ (.int .i64 (vc).z) := ⟨_, rfl⟩
                        have hg16 : (w15).grownBy w16 (some x13) := by rw [hw16]; exact gr_set3 _ _ _ _
                        have b13 := b13.set vc
                        rw [← hw16] at b13
                        rw [← hw16]
                        clear hw16
                        replace b11 := b11.gr hg16 (by intro e; injection e; omega)
                        replace b12 := b12.gr hg16 (by intro e; injection e; omega)
                        replace hcur := gr_new hcur hg16 hxs13
                        clear hg16
                        refine tree_done ?_
                        go_wp2_with fail
                        go_meet
                        exact ⟨x11, x12, x13, rfl, rfl, rfl, b11, b12, b13, hcur⟩
                      · refine tree_e rfl rfl (fun K hK => ?_)
                        go_wp2_with fail
                        try go_simp
                        refine hK _ _ (gr_alloc hcur _) ?_
                        clear hK K
                        obtain ⟨w13, hw13⟩ : ∃ x, x = (w11).alloc (.cells #[.int .i64 0, .int .i64 0, .int .i64 0] 38) := ⟨_, rfl⟩
                        have hg13 : (w11).grownBy w13 none := by rw [hw13]; exact gr_alloc (World.grownBy.refl _ _) _
                        have b13 : Box3 w13 (w11).heap.size ⟨0, 0, 0⟩ := by rw [hw13]; exact ⟨Cell.new _ [.int .i64 0, .int .i64 0, .int .i64 0] 38 0 _ rfl _ rfl, Cell.new _ [.int .i64 0, .int .i64 0, .int .i64 0] 38 1 _ rfl _ rfl, Cell.new _ [.int .i64 0, .int .i64 0, .int .i64 0] 38 2 _ rfl _ rfl⟩
                        rw [← hw13]
                        clear hw13
                        have hxs13 := hcur.size
                        obtain ⟨x13, hx13⟩ : ∃ x, x = (w11).heap.size := ⟨_, rfl⟩
                        rw [← hx13] at b13 hxs13 ⊢
                        have nb1311 : x13 ≠ x11 := by have := cell_lt b11.1.1; simp only at this; omega
                        have nb1312 : x13 ≠ x12 := by have := cell_lt b12.1.1; simp only at this; omega
                        replace b11 := b11.gr hg13 (by simp)
                        replace b12 := b12.gr hg13 (by simp)
                        replace hcur := gr_trans hcur hg13
                        clear hx13 hg13
                        refine tree_e0 (by kernel_rfl) rfl rfl (fun K hK => ?_)
                        go_wp2_with fail
                        refine (hCo.out w13 (hl.pure (gr_trans hgz hcur))).mono ?_
                        rintro e w6 ⟨rfl, hg6⟩
                        go_wp2_with fail
                        try go_simp
                        refine hK _ _ trivial ?_
                        clear hK K
                        replace b11 := b11.gr hg6 (by simp)
                        replace b12 := b12.gr hg6 (by simp)
                        replace b13 := b13.gr hg6 (by simp)
                        replace hcur := gr_trans hcur hg6
                        refine tree_p rfl rfl rfl rfl _ rfl (by simp) (fun K hK => ?_)
                        apply Exists.intro
                        refine ⟨fun wq K' hK' => ?_, ?_⟩
                        · go_wp2_with fail
                          exact hK'
                        go_simp
                        refine hK _ ?_
                        clear hK K
                        refine tree_p rfl rfl rfl rfl _ rfl (by simp) (fun K hK => ?_)
                        apply Exists.intro
                        refine ⟨fun wq K' hK' => ?_, ?_⟩
                        · go_wp2_with fail
                          exact hK'
                        go_simp
                        refine hK _ ?_
                        clear hK K
                        refine tree_p rfl rfl rfl rfl _ rfl (by simp) (fun K hK => ?_)
                        apply Exists.intro
                        refine ⟨fun wq K' hK' => ?_, ?_⟩
                        · go_wp2_with fail
                          exact hK'
                        go_simp
                        refine hK _ ?_
                        clear hK K
                        refine tree_p rfl rfl rfl rfl _ rfl (by simp) (fun K hK => ?_)
                        apply Exists.intro
                        refine ⟨fun wq K' hK' => ?_, ?_⟩
                        · go_wp2_with fail
                          exact hK'
                        go_simp
                        refine hK _ ?_
                        clear hK K
                        refine tree_e0 (by kernel_rfl) rfl rfl (fun K hK => ?_)
                        have b11' := b11
                        obtain ⟨⟨k0, f0⟩, ⟨k1, f1⟩, ⟨k2, f2⟩⟩ := b11'
                        go_wp2_with fail
                        try go_simp
                        refine hK _ _ trivial ?_
                        clear hK K
                        obtain ⟨w14, hw14⟩ : ∃ x, x = (((w6).setCell ⟨x11, 0, none⟩ (.int .i64 (va).x)).setCell ⟨x11, 1, none⟩ (.int .i64 (va).y)).setCell ⟨x11, 2, none⟩ (.int .i64 (va).z) := ⟨_, rfl⟩
                        have hg14 : (w6).grownBy w14 (some x11) := by rw [hw14]; exact gr_set3 _ _ _ _
                        have b11 := b11.set va
                        rw [← hw14] at b11
                        rw [← hw14]
                        clear hw14
                        replace b12 := b12.gr hg14 (by intro e; injection e; omega)
                        replace b13 := b13.gr hg14 (by intro e; injection e; omega)
                        replace hcur := gr_new hcur hg14 hxs11
                        clear hg14
                        refine tree_e0 (by kernel_rfl) rfl rfl (fun K hK => ?_)
                        have b12' := b12
                        obtain ⟨⟨k0, f0⟩, ⟨k1, f1⟩, ⟨k2, f2⟩⟩ := b12'
                        go_wp2_with fail
                        try go_simp
                        refine hK _ _ trivial ?_
                        clear hK K
                        obtain ⟨w15, hw15⟩ : ∃ x, x = (((w14).setCell ⟨x12, 0, none⟩ (.int .i64 (vb).x)).setCell ⟨x12, 1, none⟩ (.int .i64 (vb).y)).setCell ⟨x12, 2, none⟩ (.int .i64 (vb).z) := ⟨_, rfl⟩
                        have hg15 : (w14).grownBy w15 (some x12) := by rw [hw15]; exact gr_set3 _ _ _ _
                        have b12 := b12.set vb
                        rw [← hw15] at b12
                        rw [← hw15]
                        clear hw15
                        replace b11 := b11.gr hg15 (by intro e; injection e; omega)
                        replace b13 := b13.gr hg15 (by intro e; injection e; omega)
                        replace hcur := gr_new hcur hg15 hxs12
                        clear hg15
                        refine tree_e0 (by kernel_rfl) rfl rfl (fun K hK => ?_)
                        have b13' := b13
                        obtain ⟨⟨k0, f0⟩, ⟨k1, f1⟩, ⟨k2, f2⟩⟩ := b13'
                        go_wp2_with fail
                        try go_simp
                        refine hK _ _ trivial ?_
                        clear hK K
                        obtain ⟨w16, hw16⟩ : ∃ x, x = (((w15).setCell ⟨x13, 0, none⟩ (.int .i64 (vc).x)).setCell ⟨x13, 1, none⟩ (.int .i64 (vc).y)).setCell ⟨x13, 2, none⟩ (.int .i64 (vc).z) := ⟨_, rfl⟩
                        have hg16 : (w15).grownBy w16 (some x13) := by rw [hw16]; exact gr_set3 _ _ _ _
                        have b13 := b13.set vc
                        rw [← hw16] at b13
                        rw [← hw16]
                        clear hw16
                        replace b11 := b11.gr hg16 (by intro e; injection e; omega)
                        replace b12 := b12.gr hg16 (by intro e; injection e; omega)
                        replace hcur := gr_new hcur hg16 hxs13
                        clear hg16
                        refine tree_done ?_
                        go_wp2_with fail
                        go_meet
                        exact ⟨x11, x12, x13, rfl, rfl, rfl, b11, b12, b13, hcur⟩
                    · refine tree_e rfl rfl (fun K hK => ?_)
                      go_wp2_with fail
                      try go_simp
                      refine hK _ _ (gr_alloc hcur _) ?_
                      clear hK K
                      obtain ⟨w13, hw13⟩ : ∃ x, x = (w12).alloc (.cells #[.int .i64 0, .int .i64 0, .int .i64 0] 38) := ⟨_, rfl⟩
                      have hg13 : (w12).grownBy w13 none := by rw [hw13]; exact gr_alloc (World.grownBy.refl _ _) _
                      have b13 : Box3 w13 (w12).heap.size ⟨0, 0, 0⟩ := by rw [hw13]; exact ⟨Cell.new _ [.int .i64 0, .int .i64 0, .int .i64 0] 38 0 _ rfl _ rfl, Cell.new _ [.int .i64 0, .int .i64 0, .int .i64 0] 38 1 _ rfl _ rfl, Cell.new _ [.int .i64 0, .int .i64 0, .int .i64 0] 38 2 _ rfl _ rfl⟩
                      rw [← hw13]
                      clear hw13
                      have hxs13 := hcur.size
                      obtain ⟨x13, hx13⟩ : ∃ x, x = (w12).heap.size := ⟨_, rfl⟩
                      rw [← hx13] at b13 hxs13 ⊢
                      have nb1312 : x13 ≠ x12 := by have := cell_lt b12.1.1; simp only at this; omega
                      replace b12 := b12.gr hg13 (by simp)
                      replace hcur := gr_trans hcur hg13
                      clear hx13 hg13
                      refine tree_alt ?_ ?_
                      · refine tree_e0 (by kernel_rfl) rfl rfl (fun K hK => ?_)
                        go_wp2_with fail
                        refine (hCo.out w13 (hl.pure (gr_trans hgz hcur))).mono ?_
                        rintro e w6 ⟨rfl, hg6⟩
                        go_wp2_with fail
                        try go_simp
                        refine hK _ _ trivial ?_
                        clear hK K
                        replace b12 := b12.gr hg6 (by simp)
                        replace b13 := b13.gr hg6 (by simp)
                        replace hcur := gr_trans hcur hg6
                        refine tree_p rfl rfl rfl rfl _ rfl (by simp) (fun K hK => ?_)
                        apply Exists.intro
                        refine ⟨fun wq K' hK' => ?_, ?_⟩
                        · go_wp2_with fail
                          exact hK'
                        go_simp
                        refine hK _ ?_
                        clear hK K
                        refine tree_p rfl rfl rfl rfl _ rfl (by simp) (fun K hK => ?_)
                        apply Exists.intro
                        refine ⟨fun wq K' hK' => ?_, ?_⟩
                        · go_wp2_with fail
                          exact hK'
                        go_simp
                        refine hK _ ?_
                        clear hK K
                        refine tree_p rfl rfl rfl rfl _ rfl (by simp) (fun K hK => ?_)
                        apply Exists.intro
                        refine ⟨fun wq K' hK' => ?_, ?_⟩
                        · go_wp2_with fail
                          exact hK'
                        go_simp
                        refine hK _ ?_
                        clear hK K
                        refine tree_p rfl rfl rfl rfl _ rfl (by simp) (fun K hK => ?_)
                        apply Exists.intro
                        refine ⟨fun wq K' hK' => ?_, ?_⟩
                        · go_wp2_with fail
                          exact hK'
                        go_simp
                        refine hK _ ?_
                        clear hK K
                        refine tree_e rfl rfl (fun K hK => ?_)
                        go_wp2_with fail
                        try go_simp
                        refine hK _ _ (gr_alloc hcur _) ?_
                        clear hK K
                        obtain ⟨w11, hw11⟩ : ∃ x, x = (w6).alloc (.cells #[.int .i64 0, .int .i64 0, .int .i64 0] 38) := ⟨_, rfl⟩
                        have hg11 : (w6).grownBy w11 none := by rw [hw11]; exact gr_alloc (World.grownBy.refl _ _) _
                        have b11 : Box3 w11 (w6).heap.size ⟨0, 0, 0⟩ := by rw [hw11]; exact ⟨Cell.new _ [.int .i64 0, .int .i64 0, .int .i64 0] 38 0 _ rfl _ rfl, Cell.new _ [.int .i64 0, .int .i64 0, .int .i64 0] 38 1 _ rfl _ rfl, Cell.new _ [.int .i64 0, .int .i64 0, .int .i64 0] 38 2 _ rfl _ rfl⟩
                        rw [← hw11]
                        clear hw11
                        have hxs11 := hcur.size
                        obtain ⟨x11, hx11⟩ : ∃ x, x = (w6).heap.size := ⟨_, rfl⟩
                        rw [← hx11] at b11 hxs11 ⊢
                        have nb1112 : x11 ≠ x12 := by have := cell_lt b12.1.1; simp only at this; omega
                        have nb1113 : x11 ≠ x13 := by have := cell_lt b13.1.1; simp only at this; omega
                        replace b12 := b12.gr hg11 (by simp)
                        replace b13 := b13.gr hg11 (by simp)
                        replace hcur := gr_trans hcur hg11
                        clear hx11 hg11
                        refine tree_e0 (by kernel_rfl) rfl rfl (fun K hK => ?_)
                        have b11' := b11
                        obtain ⟨⟨k0, f0⟩, ⟨k1, f1⟩, ⟨k2, f2⟩⟩ := b11'
                        go_wp2_with fail
                        try go_simp
                        refine hK _ _ trivial ?_
                        clear hK K
                        obtain ⟨w14, hw14⟩ : ∃ x, x = (((w11).setCell ⟨x11, 0, none⟩ (.int .i64 (va).x)).setCell ⟨x11, 1, none⟩ (.int .i64 (va).y)).setCell ⟨x11, 2, none⟩ (.int .i64 (va).z) := ⟨_, rfl⟩
                        have hg14 : (w11).grownBy w14 (some x11) := by rw [hw14]; exact gr_set3 _ _ _ _
                        have b11 := b11.set va
                        rw [← hw14] at b11
                        rw [← hw14]
                        clear hw14
                        replace b12 := b12.gr hg14 (by intro e; injection e; omega)
                        replace b13 := b13.gr hg14 (by intro e; injection e; omega)
                        replace hcur := gr_new hcur hg14 hxs11
                        clear hg14
                        refine tree_e0 (by kernel_rfl) rfl rfl (fun K hK => ?_)
                        have b12' := b12
                        obtain ⟨⟨k0, f0⟩, ⟨k1, f1⟩, ⟨k2, f2⟩⟩ := b12'
                        go_wp2_with fail
                        try go_simp
                        refine hK _ _ trivial ?_
                        clear hK K
                        obtain ⟨w15, hw15⟩ : ∃ x, x = (((w14).setCell ⟨x12, 0, none⟩ (.int .i64 (vb).x)).setCell ⟨x12, 1, none⟩ (.int .i64 (vb).y)).setCell ⟨x12, 2, none⟩ (.int .i64 (vb).z) := ⟨_, rfl⟩
                        have hg15 : (w14).grownBy w15 (some x12) := by rw [hw15]; exact gr_set3 _ _ _ _
                        have b12 := b12.set vb
                        rw [← hw15] at b12
                        rw [← hw15]
                        clear hw15
                        replace b11 := b11.gr hg15 (by intro e; injection e; omega)
                        replace b13 := b13.gr hg15 (by intro e; injection e; omega)
                        replace hcur := gr_new hcur hg15 hxs12
                        clear hg15
                        refine tree_e0 (by kernel_rfl) rfl rfl (fun K hK => ?_)
                        have b13' := b13
                        obtain ⟨⟨k0, f0⟩, ⟨k1, f1⟩, ⟨k2, f2⟩⟩ := b13'
                        go_wp2_with fail
                        try go_simp
                        refine hK _ _ trivial ?_
                        clear hK K
                        obtain ⟨w16, hw16⟩ : ∃ x, x = (((w15).setCell ⟨x13, 0, none⟩ (.int .i64 (vc).x)).setCell ⟨x13, 1, none⟩ (.int .i64 (vc).y)).setCell ⟨x13, 2, none⟩ (.int .i64 (vc).z) := ⟨_, rfl⟩
                        have hg16 : (w15).grownBy w16 (some x13) := by rw [hw16]; exact gr_set3 _ _ _ _
                        have b13 := b13.set vc
                        rw [← hw16] at b13
                        rw [← hw16]
                        clear hw16
                        replace b11 := b11.gr hg16 (by intro e; injection e; omega)
                        replace b12 := b12.gr hg16 (by intro e; injection e; omega)
                        replace hcur := gr_new hcur hg16 hxs13
                        clear hg16
                        refine tree_done ?_
                        go_wp2_with fail
                        go_meet
                        exact ⟨x11, x12, x13, rfl, rfl, rfl, b11, b12, b13, hcur⟩
                      · refine tree_e rfl rfl (fun K hK => ?_)
                        go_wp2_with fail
                        try go_simp
                        refine hK _ _ (gr_alloc hcur _) ?_
                        clear hK K
                        obtain ⟨w11, hw11⟩ : ∃ x, x = (w13).alloc (.cells #[.int .i64 0, .int .i64 0, .int .i64 0] 38) := ⟨_, rfl⟩
                        have hg11 : (w13).grownBy w11 none := by rw [hw11]; exact gr_alloc (World.grownBy.refl _ _) _
                        have b11 : Box3 w11 (w13).heap.size ⟨0, 0, 0⟩ := by rw [hw11]; exact ⟨Cell.new _ [.int .i64 0, .int .i64 0, .int .i64 0] 38 0 _ rfl _ rfl, Cell.new _ [.int .i64 0, .int .i64 0, .int .i64 0] 38 1 _ rfl _ rfl, Cell.new _ [.int .i64 0, .int .i64 0, .int .i64 0] 38 2 _ rfl _ rfl⟩
                        rw [← hw11]
                        clear hw11
                        have hxs11 := hcur.size
                        obtain ⟨x11, hx11⟩ : ∃ x, x = (w13).heap.size := ⟨_, rfl⟩
                        rw [← hx11] at b11 hxs11 ⊢
                        have nb1112 : x11 ≠ x12 := by have := cell_lt b12.1.1; simp only at this; omega
                        have nb1113 : x11 ≠ x13 := by have := cell_lt b13.1.1; simp only at this; omega
                        replace b12 := b12.gr hg11 (by simp)
                        replace b13 := b13.gr hg11 (by simp)
                        replace hcur := gr_trans hcur hg11
                        clear hx11 hg11
                        refine tree_e0 (by kernel_rfl) rfl rfl (fun K hK => ?_)
                        go_wp2_with fail
                        refine (hCo.out w11 (hl.pure (gr_trans hgz hcur))).mono ?_
                        rintro e w6 ⟨rfl, hg6⟩
                        go_wp2_with fail
                        try go_simp
                        refine hK _ _ trivial ?_
                        clear hK K
                        replace b11 := b11.gr hg6 (by simp)
                        replace b12 := b12.gr hg6 (by simp)
                        replace b13 := b13.gr hg6 (by simp)
                        replace hcur := gr_trans hcur hg6
                        refine tree_p rfl rfl rfl rfl _ rfl (by simp) (fun K hK => ?_)
                        apply Exists.intro
                        refine ⟨fun wq K' hK' => ?_, ?_⟩
                        · go_wp2_with fail
                          exact hK'
                        go_simp
                        refine hK _ ?_
                        clear hK K
                        refine tree_p rfl rfl rfl rfl _ rfl (by simp) (fun K hK => ?_)
                        apply Exists.intro
                        refine ⟨fun wq K' hK' => ?_, ?_⟩
                        · go_wp2_with fail
                          exact hK'
                        go_simp
                        refine hK _ ?_
                        clear hK K
                        refine tree_p rfl rfl rfl rfl _ rfl (by simp) (fun K hK => ?_)
                        apply Exists.intro
                        refine ⟨fun wq K' hK' => ?_, ?_⟩
                        · go_wp2_with fail
                          exact hK'
                        go_simp
                        refine hK _ ?_
                        clear hK K
                        refine tree_p rfl rfl rfl rfl _ rfl (by simp) (fun K hK => ?_)
                        apply Exists.intro
                        refine ⟨fun wq K' hK' => ?_, ?_⟩
                        · go_wp2_with fail
                          exact hK'
                        go_simp
                        refine hK _ ?_
                        clear hK K
                        refine tree_e0 (by kernel_rfl) rfl rfl (fun K hK => ?_)
                        have b11' := b11
                        obtain ⟨⟨k0, f0⟩, ⟨k1, f1⟩, ⟨k2, f2⟩⟩ := b11'
                        go_wp2_with fail
                        try go_simp
                        refine hK _ _ trivial ?_
                        clear hK K
                        obtain ⟨w14, hw14⟩ : ∃ x, x = (((w6).setCell ⟨x11, 0, none⟩ (.int .i64 (va).x)).setCell ⟨x11, 1, none⟩ (.int .i64 (va).y)).setCell ⟨x11, 2, none⟩ (.int .i64 (va).z) := ⟨_, rfl⟩
                        have hg14 : (w6).grownBy w14 (some x11) := by rw [hw14]; exact gr_set3 _ _ _ _
                        have b11 := b11.set va
                        rw [← hw14] at b11
                        rw [← hw14]
                        clear hw14
                        replace b12 := b12.gr hg14 (by intro e; injection e; omega)
                        replace b13 := b13.gr hg14 (by intro e; injection e; omega)
                        replace hcur := gr_new hcur hg14 hxs11
                        clear hg14
                        refine tree_e0 (by kernel_rfl) rfl rfl (fun K hK => ?_)
                        have b12' := b12
                        obtain ⟨⟨k0, f0⟩, ⟨k1, f1⟩, ⟨k2, f2⟩⟩ := b12'
                        go_wp2_with fail
                        try go_simp
                        refine hK _ _ trivial ?_
                        clear hK K
                        obtain ⟨w15, hw15⟩ : ∃ x, x = (((w14).setCell ⟨x12, 0, none⟩ (.int .i64 (vb).x)).setCell ⟨x12, 1, none⟩ (.int .i64 (vb).y)).setCell ⟨x12, 2, none⟩ (.int .i64 (vb).z) := ⟨_, rfl⟩
                        have hg15 : (w14).grownBy w15 (some x12) := by rw [hw15]; exact gr_set3 _ _ _ _
                        have b12 := b12.set vb
                        rw [← hw15] at b12
                        rw [← hw15]
                        clear hw15
                        replace b11 := b11.gr hg15 (by intro e; injection e; omega)
                        replace b13 := b13.gr hg15 (by intro e; injection e; omega)
                        replace hcur := gr_new hcur hg15 hxs12
                        clear hg15
                        refine tree_e0 (by kernel_rfl) rfl rfl (fun K hK => ?_)
                        have b13' := b13
                        obtain ⟨⟨k0, f0⟩, ⟨k1, f1⟩, ⟨k2, f2⟩⟩ := b13'
                        go_wp2_with fail
                        try go_simp
                        refine hK _ _ trivial ?_
                        clear hK K
                        obtain ⟨w16, hw16⟩ : ∃ x, x = (((w15).setCell ⟨x13, 0, none⟩ (.int .i64 (vc).x)).setCell ⟨x13, 1, none⟩ (.int .i64 (vc).y)).setCell ⟨x13, 2, none⟩ (.int .i64 (vc).z) := ⟨_, rfl⟩
                        have hg16 : (w15).grownBy w16 (some x13) := by rw [hw16]; exact gr_set3 _ _ _ _
                        have b13 := b13.set vc
                        rw [← hw16] at b13
                        rw [← hw16]
                        clear hw16
                        replace b11 := b11.gr hg16 (by intro e; injection e; omega)
                        replace b12 := b12.gr hg16 (by intro e; injection e; omega)
                        replace hcur := gr_new hcur hg16 hxs13
                        clear hg16
                        refine tree_done ?_
                        go_wp2_with fail
                        go_meet
                        exact ⟨x11, x12, x13, rfl, rfl, rfl, b11, b12, b13, hcur⟩
                · refine tree_e rfl rfl (fun K hK => ?_)
                  go_wp2_with fail
                  try go_simp
                  refine hK _ _ (gr_alloc hcur _) ?_
                  clear hK K
                  obtain ⟨w13, hw13⟩ : ∃ x, x = (W1).alloc (.cells #[.int .i64 0, .int .i64 0, .int .i64 0] 38) := ⟨_, rfl⟩
                  have hg13 : (W1).grownBy w13 none := by rw [hw13]; exact gr_alloc (World.grownBy.refl _ _) _
                  have b13 : Box3 w13 (W1).heap.size ⟨0, 0, 0⟩ := by rw [hw13]; exact ⟨Cell.new _ [.int .i64 0, .int .i64 0, .int .i64 0] 38 0 _ rfl _ rfl, Cell.new _ [.int .i64 0, .int .i64 0, .int .i64 0] 38 1 _ rfl _ rfl, Cell.new _ [.int .i64 0, .int .i64 0, .int .i64 0] 38 2 _ rfl _ rfl⟩
                  rw [← hw13]
                  clear hw13
                  have hxs13 := hcur.size
                  obtain ⟨x13, hx13⟩ : ∃ x, x = (W1).heap.size := ⟨_, rfl⟩
                  rw [← hx13] at b13 hxs13 ⊢
                  replace hcur := gr_trans hcur hg13
                  clear hx13 hg13
                  refine tree_alt ?_ ?_
                  · refine tree_e0 (by kernel_rfl) rfl rfl (fun K hK => ?_)
                    go_wp2_with fail
                    refine (hCo.out w13 (hl.pure (gr_trans hgz hcur))).mono ?_
                    rintro e w6 ⟨rfl, hg6⟩
                    go_wp2_with fail
                    try go_simp
                    refine hK _ _ trivial ?_
                    clear hK K
                    replace b13 := b13.gr hg6 (by simp)
                    replace hcur := gr_trans hcur hg6
                    refine tree_p rfl rfl rfl rfl _ rfl (by simp) (fun K hK => ?_)
                    apply Exists.intro
                    refine ⟨fun wq K' hK' => ?_, ?_⟩
                    · go_wp2_with fail
                      exact hK'
                    go_simp
                    refine hK _ ?_
                    clear hK K
                    refine tree_p rfl rfl rfl rfl _ rfl (by simp) (fun K hK => ?_)
                    apply Exists.intro
                    refine ⟨fun wq K' hK' => ?_, ?_⟩
                    · go_wp2_with fail
                      exact hK'
                    go_simp
                    refine hK _ ?_
                    clear hK K
                    refine tree_p rfl rfl rfl rfl _ rfl (by simp) (fun K hK => ?_)
                    apply Exists.intro
                    refine ⟨fun wq K' hK' => ?_, ?_⟩
                    · go_wp2_with fail
                      exact hK'
                    go_simp
                    refine hK _ ?_
                    clear hK K
                    refine tree_p rfl rfl rfl rfl _ rfl (by simp) (fun K hK => ?_)
                    apply Exists.intro
                    refine ⟨fun wq K' hK' => ?_, ?_⟩
                    · go_wp2_with fail
                      exact hK'
                    go_simp
                    refine hK _ ?_
                    clear hK K
                    refine tree_alt ?_ ?_
                    · refine tree_e rfl rfl (fun K hK => ?_)
                      go_wp2_with fail
                      try go_simp
                      refine hK _ _ (gr_alloc hcur _) ?_
                      clear hK K
                      obtain ⟨w11, hw11⟩ : ∃ x, x = (w6).alloc (.cells #[.int .i64 0, .int .i64 0, .int .i64 0] 38) := ⟨_, rfl⟩
                      have hg11 : (w6).grownBy w11 none := by rw [hw11]; exact gr_alloc (World.grownBy.refl _ _) _
                      have b11 : Box3 w11 (w6).heap.size ⟨0, 0, 0⟩ := by rw [hw11]; exact ⟨Cell.new _ [.int .i64 0, .int .i64 0, .int .i64 0] 38 0 _ rfl _ rfl, Cell.new _ [.int .i64 0, .int .i64 0, .int .i64 0] 38 1 _ rfl _ rfl, Cell.new _ [.int .i64 0, .int .i64 0, .int .i64 0] 38 2 _ rfl _ rfl⟩
                      rw [← hw11]
                      clear hw11
                      have hxs11 := hcur.size
                      obtain ⟨x11, hx11⟩ : ∃ x, x = (w6).heap.size := ⟨_, rfl⟩
                      rw [← hx11] at b11 hxs11 ⊢
                      have nb1113 : x11 ≠ x13 := by have := cell_lt b13.1.1; simp only at this; omega
                      replace b13 := b13.gr hg11 (by simp)
                      replace hcur := gr_trans hcur hg11
                      clear hx11 hg11
                      refine tree_e rfl rfl (fun K hK => ?_)
                      go_wp2_with fail
                      try go_simp
                      refine hK _ _ (gr_alloc hcur _) ?_
                      clear hK K
                      obtain ⟨w12, hw12⟩ : ∃ x, x = (w11).alloc (.cells #[.int .i64 0, .int .i64 0, .int .i64 0] 38) := ⟨_, rfl⟩
                      have hg12 : (w11).grownBy w12 none := by rw [hw12]; exact gr_alloc (World.grownBy.refl _ _) _
                      have b12 : Box3 w12 (w11).heap.size ⟨0, 0, 0⟩ := by rw [hw12]; exact ⟨Cell.new _ [.int .i64 0, .int .i64 0, .int .i64 0] 38 0 _ rfl _ rfl, Cell.new _ [.int .i64 0, .int .i64 0, .int .i64 0] 38 1 _ rfl _ rfl, Cell.new _ [.int .i64 0, .int .i64 0, .int .i64 0] 38 2 _ rfl _ rfl⟩
                      rw [← hw12]
                      clear hw12
                      have hxs12 := hcur.size
                      obtain ⟨x12, hx12⟩ : ∃ x, x = (w11).heap.size := ⟨_, rfl⟩
                      rw [← hx12] at b12 hxs12 ⊢
                      have nb1211 : x12 ≠ x11 := by have := cell_lt b11.1.1; simp only at this; omega
                      have nb1213 : x12 ≠ x13 := by have := cell_lt b13.1.1; simp only at this; omega
                      replace b11 := b11.gr hg12 (by simp)
                      replace b13 := b13.gr hg12 (by simp)
                      replace hcur := gr_trans hcur hg12
                      clear hx12 hg12
                      refine tree_e0 (by kernel_rfl) rfl rfl (fun K hK => ?_)
                      have b11' := b11
                      obtain ⟨⟨k0, f0⟩, ⟨k1, f1⟩, ⟨k2, f2⟩⟩ := b11'
                      go_wp2_with fail
                      try go_simp
                      refine hK _ _ trivial ?_
                      clear hK K
                      obtain ⟨w14, hw14⟩ : ∃ x, x = (((w12).setCell ⟨x11, 0, none⟩ (.int .i64 (va).x)).setCell ⟨x11, 1, none⟩ (.int .i64 (va).y)).setCell ⟨x11, 2, none⟩ (.int .i64 (va).z) := ⟨_, rfl⟩
                      have hg14 : (w12).grownBy w14 (some x11) := by rw [hw14]; exact gr_set3 _ _ _ _
                      have b11 := b11.set va
                      rw [← hw14] at b11
                      rw [← hw14]
                      clear hw14
                      replace b12 := b12.gr hg14 (by intro e; injection e; omega)
                      replace b13 := b13.gr hg14 (by intro e; injection e; omega)
                      replace hcur := gr_new hcur hg14 hxs11
                      clear hg14
                      refine tree_e0 (by kernel_rfl) rfl rfl (fun K hK => ?_)
                      have b12' := b12
                      obtain ⟨⟨k0, f0⟩, ⟨k1, f1⟩, ⟨k2, f2⟩⟩ := b12'
                      go_wp2_with fail
                      try go_simp
                      refine hK _ _ trivial ?_
                      clear hK K
                      obtain ⟨w15, hw15⟩ : ∃ x, x = (((w14).setCell ⟨x12, 0, none⟩ (.int .i64 (vb).x)).setCell ⟨x12, 1, none⟩ (.int .i64 (vb).y)).setCell ⟨x12, 2, none⟩ (.int .i64 (vb).z) := ⟨_, rfl⟩
                      have hg15 : (w14).grownBy w15 (some x12) := by rw [hw15]; exact gr_set3 _ _ _ _
                      have b12 := b12.set vb
                      rw [← hw15] at b12
                      rw [← hw15]
                      clear hw15
                      replace b11 := b11.gr hg15 (by intro e; injection e; omega)
                      replace b13 := b13.gr hg15 (by intro e; injection e; omega)
                      replace hcur := gr_new hcur hg15 hxs12
                      clear hg15
                      refine tree_e0 (by kernel_rfl) rfl rfl (fun K hK => ?_)
                      have b13' := b13
                      obtain ⟨⟨k0, f0⟩, ⟨k1, f1⟩, ⟨k2, f2⟩⟩ := b13'
                      go_wp2_with fail
                      try go_simp
                      refine hK _ _ trivial ?_
                      clear hK K
                      obtain ⟨w16, hw16⟩ : ∃ x, x = (((w15).setCell ⟨x13, 0, none⟩ (.int .i64 (vc).x)).setCell ⟨x13, 1, none⟩ (.int .i64 (vc).y)).setCell ⟨x13, 2, none⟩ (.int .i64 (vc).z) := ⟨_, rfl⟩
                      have hg16 : (w15).grownBy w16 (some x13) := by rw [hw16]; exact gr_set3 _ _ _ _
                      have b13 := b13.set vc
                      rw [← hw16] at b13
                      rw [← hw16]
                      clear hw16
                      replace b11 := b11.gr hg16 (by intro e; injection e; omega)
                      replace b12 := b12.gr hg16 (by intro e; injection e; omega)
                      replace hcur := gr_new hcur hg16 hxs13
                      clear hg16
                      refine tree_done ?_
                      go_wp2_with fail
                      go_meet
                      exact ⟨x11, x12, x13, rfl, rfl, rfl, b11, b12, b13, hcur⟩
                    · refine tree_e rfl rfl (fun K hK => ?_)
                      go_wp2_with fail
                      try go_simp
                      refine hK _ _ (gr_alloc hcur _) ?_
                      clear hK K
                      obtain ⟨w12, hw12⟩ : ∃ x, x = (w6).alloc (.cells #[.int .i64 0, .int .i64 0, .int .i64 0] 38) := ⟨_, rfl⟩
                      have hg12 : (w6).grownBy w12 none := by rw [hw12]; exact gr_alloc (World.grownBy.refl _ _) _
                      have b12 : Box3 w12 (w6).heap.size ⟨0, 0, 0⟩ := by rw [hw12]; exact ⟨Cell.new _ [.int .i64 0, .int .i64 0, .int .i64 0] 38 0 _ rfl _ rfl, Cell.new _ [.int .i64 0, .int .i64 0, .int .i64 0] 38 1 _ rfl _ rfl, Cell.new _ [.int .i64 0, .int .i64 0, .int .i64 0] 38 2 _ rfl _ rfl⟩
                      rw [← hw12]
                      clear hw12
                      have hxs12 := hcur.size
                      obtain ⟨x12, hx12⟩ : ∃ x, x = (w6).heap.size := ⟨_, rfl⟩
                      rw [← hx12] at b12 hxs12 ⊢
                      have nb1213 : x12 ≠ x13 := by have := cell_lt b13.1.1; simp only at this; omega
                      replace b13 := b13.gr hg12 (by simp)
                      replace hcur := gr_trans hcur hg12
                      clear hx12 hg12
                      refine tree_e rfl rfl (fun K hK => ?_)
                      go_wp2_with fail
                      try go_simp
                      refine hK _ _ (gr_alloc hcur _) ?_
                      clear hK K
                      obtain ⟨w11, hw11⟩ : ∃ x, x = (w12).alloc (.cells #[.int .i64 0, .int .i64 0, .int .i64 0] 38) := ⟨_, rfl⟩
                      have hg11 : (w12).grownBy w11 none := by rw [hw11]; exact gr_alloc (World.grownBy.refl _ _) _
                      have b11 : Box3 w11 (w12).heap.size ⟨0, 0, 0⟩ := by rw [hw11]; exact ⟨Cell.new _ [.int .i64 0, .int .i64 0, .int .i64 0] 38 0 _ rfl _ rfl, Cell.new _ [.int .i64 0, .int .i64 0, .int .i64 0] 38 1 _ rfl _ rfl, Cell.new _ [.int .i64 0, .int .i64 0, .int .i64 0] 38 2 _ rfl _ rfl⟩
                      rw [← hw11]
                      clear hw11
                      have hxs11 := hcur.size
                      obtain ⟨x11, hx11⟩ : ∃ x, x = (w12).heap.size := ⟨_, rfl⟩
                      rw [← hx11] at b11 hxs11 ⊢
                      have nb1112 : x11 ≠ x12 := by have := cell_lt b12.1.1; simp only at this; omega
                      have nb1113 : x11 ≠ x13 := by have := cell_lt b13.1.1; simp only at this; omega
                      replace b12 := b12.gr hg11 (by simp)
                      replace b13 := b13.gr hg11 (by simp)
                      replace hcur := gr_trans hcur hg11
                      clear hx11 hg11
                      refine tree_e0 (by kernel_rfl) rfl rfl (fun K hK => ?_)
                      have b11' := b11
                      obtain ⟨⟨k0, f0⟩, ⟨k1, f1⟩, ⟨k2, f2⟩⟩ := b11'
                      go_wp2_with fail
                      try go_simp
                      refine hK _ _ trivial ?_
                      clear hK K
                      obtain ⟨w14, hw14⟩ : ∃ x, x = (((w11).setCell ⟨x11, 0, none⟩ (.int .i64 (va).x)).setCell ⟨x11, 1, none⟩ (.int .i64 (va).y)).setCell ⟨x11, 2, none⟩ (.int .i64 (va).z) := ⟨_, rfl⟩
                      have hg14 : (w11).grownBy w14 (some x11) := by rw [hw14]; exact gr_set3 _ _ _ _
                      have b11 := b11.set va
                      rw [← hw14] at b11
                      rw [← hw14]
                      clear hw14
                      replace b12 := b12.gr hg14 (by intro e; injection e; omega)
                      replace b13 := b13.gr hg14 (by intro e; injection e; omega)
                      replace hcur := gr_new hcur hg14 hxs11
                      clear hg14
                      refine tree_e0 (by kernel_rfl) rfl rfl (fun K hK => ?_)
                      have b12' := b12
                      obtain ⟨⟨k0, f0⟩, ⟨k1, f1⟩, ⟨k2, f2⟩⟩ := b12'
                      go_wp2_with fail
                      try go_simp
                      refine hK _ _ trivial ?_
                      clear hK K
                      obtain ⟨w15, hw15⟩ : ∃ x, x = (((w14).setCell ⟨x12, 0, none⟩ (.int .i64 (vb).x)).setCell ⟨x12, 1, none⟩ (.int .i64 (vb).y)).setCell ⟨x12, 2, none⟩ (.int .i64 (vb).z) := ⟨_, rfl⟩
                      have hg15 : (w14).grownBy w15 (some x12) := by rw [hw15]; exact gr_set3 _ _ _ _
                      have b12 := b12.set vb
                      rw [← hw15] at b12
                      rw [← hw15]
                      clear hw15
                      replace b11 := b11.gr hg15 (by intro e; injection e; omega)
                      replace b13 := b13.gr hg15 (by intro e; injection e; omega)
                      replace hcur := gr_new hcur hg15 hxs12
                      clear hg15
                      refine tree_e0 (by kernel_rfl) rfl rfl (fun K hK => ?_)
                      have b13' := b13
                      obtain ⟨⟨k0, f0⟩, ⟨k1, f1⟩, ⟨k2, f2⟩⟩ := b13'
                      go_wp2_with fail
                      try go_simp
                      refine hK _ _ trivial ?_
                      clear hK K
                      obtain ⟨w16, hw16⟩ : ∃ x, x = (((w15).setCell ⟨x13, 0, none⟩ (.int .i64 (vc).x)).setCell ⟨x13, 1, none⟩ (.int .i64 (vc).y)).setCell ⟨x13, 2, none⟩ (.int .i64 (vc).z) := ⟨_, rfl⟩
                      have hg16 : (w15).grownBy w16 (some x13) := by rw [hw16]; exact gr_set3 _ _ _ _
                      have b13 := b13.set vc
                      rw [← hw16] at b13
                      rw [← hw16]
                      clear hw16
                      replace b11 := b11.gr hg16 (by intro e; injection e; omega)
                      replace b12 := b12.gr hg16 (by intro e; injection e; omega)
                      replace hcur := gr_new hcur hg16 hxs13
                      clear hg16
                      refine tree_done ?_
                      go_wp2_with fail
                      go_meet
                      exact ⟨x11, x12, x13, rfl, rfl, rfl, b11, b12, b13, hcur⟩
                  · refine tree_alt ?_ ?_
                    · refine tree_e rfl rfl (fun K hK => ?_)
                      go_wp2_with fail
                      try go_simp
                      refine hK _ _ (gr_alloc hcur _) ?_
                      clear hK K
                      obtain ⟨w11, hw11⟩ : ∃ x, x = (w13).alloc (.cells #[.int .i64 0, .int .i64 0, .int .i64 0] 38) := ⟨_, rfl⟩
                      have hg11 : (w13).grownBy w11 none := by rw [hw11]; exact gr_alloc (World.grownBy.refl _ _) _
                      have b11 : Box3 w11 (w13).heap.size ⟨0, 0, 0⟩ := by rw [hw11]; exact ⟨Cell.new _ [.int .i64 0, .int .i64 0, .int .i64 0] 38 0 _ rfl _ rfl, Cell.new _ [.int .i64 0, .int .i64 0, .int .i64 0] 38 1 _ rfl _ rfl, Cell.new _ [.int .i64 0, .int .i64 0, .int .i64 0] 38 2 _ rfl _ rfl⟩
                      rw [← hw11]
                      clear hw11
                      have hxs11 := hcur.size
                      obtain ⟨x11, hx11⟩ : ∃ x, x = (w13).heap.size := ⟨_, rfl⟩
                      rw [← hx11] at b11 hxs11 ⊢
                      have nb1113 : x11 ≠ x13 := by have := cell_lt b13.1.1; simp only at this; omega
                      replace b13 := b13.gr hg11 (by simp)
                      replace hcur := gr_trans hcur hg11
                      clear hx11 hg11
                      refine tree_alt ?_ ?_
                      · refine tree_e0 (by kernel_rfl) rfl rfl (fun K hK => ?_)
                        go_wp2_with fail
                        refine (hCo.out w11 (hl.pure (gr_trans hgz hcur))).mono ?_
                        rintro e w6 ⟨rfl, hg6⟩
                        go_wp2_with fail
                        try go_simp
                        refine hK _ _ trivial ?_
                        clear hK K
                        replace b11 := b11.gr hg6 (by simp)
                        replace b13 := b13.gr hg6 (by simp)
                        replace hcur := gr_trans hcur hg6
                        refine tree_p rfl rfl rfl rfl _ rfl (by simp) (fun K hK => ?_)
                        apply Exists.intro
                        refine ⟨fun wq K' hK' => ?_, ?_⟩
                        · go_wp2_with fail
                          exact hK'
                        go_simp
                        refine hK _ ?_
                        clear hK K
                        refine tree_p rfl rfl rfl rfl _ rfl (by simp) (fun K hK => ?_)
                        apply Exists.intro
                        refine ⟨fun wq K' hK' => ?_, ?_⟩
                        · go_wp2_with fail
                          exact hK'
                        go_simp
                        refine hK _ ?_
                        clear hK K
                        refine tree_p rfl rfl rfl rfl _ rfl (by simp) (fun K hK => ?_)
                        apply Exists.intro
                        refine ⟨fun wq K' hK' => ?_, ?_⟩
                        · go_wp2_with fail
                          exact hK'
                        go_simp
                        refine hK _ ?_
                        clear hK K
                        refine tree_p rfl rfl rfl rfl _ rfl (by simp) (fun K hK => ?_)
                        apply Exists.intro
                        refine ⟨fun wq K' hK' => ?_, ?_⟩
                        · go_wp2_with fail
                          exact hK'
                        go_simp
                        refine hK _ ?_
                        clear hK K
                        refine tree_e rfl rfl (fun K hK => ?_)
                        go_wp2_with fail
                        try go_simp
                        refine hK _ _ (gr_alloc hcur _) ?_
                        clear hK K
                        obtain ⟨w12, hw12⟩ : ∃ x, x = (w6).alloc (.cells #[.int .i64 0, .int .i64 0, .int .i64 0] 38) := ⟨_, rfl⟩
                        have hg12 : (w6).grownBy w12 none := by rw [hw12]; exact gr_alloc (World.grownBy.refl _ _) _
                        have b12 : Box3 w12 (w6).heap.size ⟨0, 0, 0⟩ := by rw [hw12]; exact ⟨Cell.new _ [.int .i64 0, .int .i64 0, .int .i64 0] 38 0 _ rfl _ rfl, Cell.new _ [.int .i64 0, .int .i64 0, .int .i64 0] 38 1 _ rfl _ rfl, Cell.new _ [.int .i64 0, .int .i64 0, .int .i64 0] 38 2 _ rfl _ rfl⟩
                        rw [← hw12]
                        clear hw12
                        have hxs12 := hcur.size
                        obtain ⟨x12, hx12⟩ : ∃ x, x = (w6).heap.size := ⟨_, rfl⟩
                        rw [← hx12] at b12 hxs12 ⊢
                        have nb1211 : x12 ≠ x11 := by have := cell_lt b11.1.1; simp only at this; omega
                        have nb1213 : x12 ≠ x13 := by have := cell_lt b13.1.1; simp only at this; omega
                        replace b11 := b11.gr hg12 (by simp)
                        replace b13 := b13.gr hg12 (by simp)
                        replace hcur := gr_trans hcur hg12
                        clear hx12 hg12
                        refine tree_e0 (by kernel_rfl) rfl rfl (fun K hK => ?_)
                        have b11' := b11
                        obtain ⟨⟨k0, f0⟩, ⟨k1, f1⟩, ⟨k2, f2⟩⟩ := b11'
                        go_wp2_with fail
                        try go_simp
                        refine hK _ _ trivial ?_
                        clear hK K
                        obtain ⟨w14, hw14⟩ : ∃ x, x = (((w12).setCell ⟨x11, 0, none⟩ (.int .i64 (va).x)).setCell ⟨x11, 1, none⟩ (.int .i64 (va).y)).setCell ⟨x11, 2, none⟩ (.int .i64 (va).z) := ⟨_, rfl⟩
                        have hg14 : (w12).grownBy w14 (some x11) := by rw [hw14]; exact gr_set3 _ _ _ _
                        have b11 := b11.set va
                        rw [← hw14] at b11
                        rw [← hw14]
                        clear hw14
                        replace b12 := b12.gr hg14 (by intro e; injection e; omega)
                        replace b13 := b13.gr hg14 (by intro e; injection e; omega)
                        replace hcur := gr_new hcur hg14 hxs11
                        clear hg14
                        refine tree_e0 (by kernel_rfl) rfl rfl (fun K hK => ?_)
                        have b12' := b12
                        obtain ⟨⟨k0, f0⟩, ⟨k1, f1⟩, ⟨k2, f2⟩⟩ := b12'
                        go_wp2_with fail
                        try go_simp
                        refine hK _ _ trivial ?_
                        clear hK K
                        obtain ⟨w15, hw15⟩ : ∃ x, x = (((w14).setCell ⟨x12, 0, none⟩ (.int .i64 (vb).x)).setCell ⟨x12, 1, none⟩ (.int .i64 (vb).y)).setCell ⟨x12, 2, none⟩ (.int .i64 (vb).z) := ⟨_, rfl⟩
                        have hg15 : (w14).grownBy w15 (some x12) := by rw [hw15]; exact gr_set3 _ _ _ _
                        have b12 := b12.set vb
                        rw [← hw15] at b12
                        rw [← hw15]
                        clear hw15
                        replace b11 := b11.gr hg15 (by intro e; injection e; omega)
                        replace b13 := b13.gr hg15 (by intro e; injection e; omega)
                        replace hcur := gr_new hcur hg15 hxs12
                        clear hg15
                        refine tree_e0 (by kernel_rfl) rfl rfl (fun K hK => ?_)
                        have b13' := b13
                        obtain ⟨⟨k0, f0⟩, ⟨k1, f1⟩, ⟨k2, f2⟩⟩ := b13'
                        go_wp2_with fail
                        try go_simp
                        refine hK _ _ trivial ?_
                        clear hK K
                        obtain ⟨w16, hw16⟩ : ∃ x, x = (((w15).setCell ⟨x13, 0, none⟩ (.int .i64 (vc).x)).setCell ⟨x13, 1, none⟩ (.int .i64 (vc).y)).setCell ⟨x13, 2, none⟩ (.int .i64 (vc).z) := ⟨_, rfl⟩
                        have hg16 : (w15).grownBy w16 (some x13) := by rw [hw16]; exact gr_set3 _ _ _ _
                        have b13 := b13.set vc
                        rw [← hw16] at b13
                        rw [← hw16]
                        clear hw16
                        replace b11 := b11.gr hg16 (by intro e; injection e; omega)
                        replace b12 := b12.gr hg16 (by intro e; injection e; omega)
                        replace hcur := gr_new hcur hg16 hxs13
                        clear hg16
                        refine tree_done ?_
                        go_wp2_with fail
                        go_meet
                        exact ⟨x11, x12, x13, rfl, rfl, rfl, b11, b12, b13, hcur⟩
                      · refine tree_e rfl rfl (fun K hK => ?_)
                        go_wp2_with fail
                        try go_simp
                        refine hK _ _ (gr_alloc hcur _) ?_
                        clear hK K
                        obtain ⟨w12, hw12⟩ : ∃ x, x = (w11).alloc (.cells #[.int .i64 0, .int .i64 0, .int .i64 0] 38) := ⟨_, rfl⟩
                        have hg12 : (w11).grownBy w12 none := by rw [hw12]; exact gr_alloc (World.grownBy.refl _ _) _
                        have b12 : Box3 w12 (w11).heap.size ⟨0, 0, 0⟩ := by rw [hw12]; exact ⟨Cell.new _ [.int .i64 0, .int .i64 0, .int .i64 0] 38 0 _ rfl _ rfl, Cell.new _ [.int .i64 0, .int .i64 0, .int .i64 0] 38 1 _ rfl _ rfl, Cell.new _ [.int .i64 0, .int .i64 0, .int .i64 0] 38 2 _ rfl _ rfl⟩
                        rw [← hw12]
                        clear hw12
                        have hxs12 := hcur.size
                        obtain ⟨x12, hx12⟩ : ∃ x, x = (w11).heap.size := ⟨_, rfl⟩
                        rw [← hx12] at b12 hxs12 ⊢
                        have nb1211 : x12 ≠ x11 := by have := cell_lt b11.1.1; simp only at this; omega
                        have nb1213 : x12 ≠ x13 := by have := cell_lt b13.1.1; simp only at this; omega
                        replace b11 := b11.gr hg12 (by simp)
                        replace b13 := b13.gr hg12 (by simp)
                        replace hcur := gr_trans hcur hg12
                        clear hx12 hg12
                        refine tree_e0 (by kernel_rfl) rfl rfl (fun K hK => ?_)
                        go_wp2_with fail
                        refine (hCo.out w12 (hl.pure (gr_trans hgz hcur))).mono ?_
                        rintro e w6 ⟨rfl, hg6⟩
                        go_wp2_with fail
                        try go_simp
                        refine hK _ _ trivial ?_
                        clear hK K
                        replace b11 := b11.gr hg6 (by simp)
                        replace b12 := b12.gr hg6 (by simp)
                        replace b13 := b13.gr hg6 (by simp)
                        replace hcur := gr_trans hcur hg6
                        refine tree_p rfl rfl rfl rfl _ rfl (by simp) (fun K hK => ?_)
                        apply Exists.intro
                        refine ⟨fun wq K' hK' => ?_, ?_⟩
                        · go_wp2_with fail
                          exact hK'
                        go_simp
                        refine hK _ ?_
                        clear hK K
                        refine tree_p rfl rfl rfl rfl _ rfl (by simp) (fun K hK => ?_)
                        apply Exists.intro
                        refine ⟨fun wq K' hK' => ?_, ?_⟩
                        · go_wp2_with fail
                          exact hK'
                        go_simp
                        refine hK _ ?_
                        clear hK K
                        refine tree_p rfl rfl rfl rfl _ rfl (by simp) (fun K hK => ?_)
                        apply Exists.intro
                        refine ⟨fun wq K' hK' => ?_, ?_⟩
                        · go_wp2_with fail
                          exact hK'
                        go_simp
                        refine hK _ ?_
                        clear hK K
                        refine tree_p rfl rfl rfl rfl _ rfl (by simp) (fun K hK => ?_)
                        apply Exists.intro
                        refine ⟨fun wq K' hK' => ?_, ?_⟩
                        · go_wp2_with fail
                          exact hK'
                        go_simp
                        refine hK _ ?_
                        clear hK K
                        refine tree_e0 (by kernel_rfl) rfl rfl (fun K hK => ?_)
                        have b11' := b11
                        obtain ⟨⟨k0, f0⟩, ⟨k1, f1⟩, ⟨k2, f2⟩⟩ := b11'
                        go_wp2_with fail
                        try go_simp
                        refine hK _ _ trivial ?_
                        clear hK K
                        obtain ⟨w14, hw14⟩ : ∃ x, x = (((w6).setCell ⟨x11, 0, none⟩ (.int .i64 (va).x)).setCell ⟨x11, 1, none⟩ (.int .i64 (va).y)).setCell ⟨x11, 2, none⟩ (.int .i64 (va).z) := ⟨_, rfl⟩
                        have hg14 : (w6).grownBy w14 (some x11) := by rw [hw14]; exact gr_set3 _ _ _ _
                        have b11 := b11.set va
                        rw [← hw14] at b11
                        rw [← hw14]
                        clear hw14
                        replace b12 := b12.gr hg14 (by intro e; injection e; omega)
                        replace b13 := b13.gr hg14 (by intro e; injection e; omega)
                        replace hcur := gr_new hcur hg14 hxs11
                        clear hg14
                        refine tree_e0 (by kernel_rfl) rfl rfl (fun K hK => ?_)
                        have b12' := b12
                        obtain ⟨⟨k0, f0⟩, ⟨k1, f1⟩, ⟨k2, f2⟩⟩ := b12'
                        go_wp2_with fail
                        try go_simp
                        refine hK _ _ trivial ?_
                        clear hK K
                        obtain ⟨w15, hw15⟩ : ∃ x, x = (((w14).setCell ⟨x12, 0, none⟩ (.int .i64 (vb).x)).setCell ⟨x12, 1, none⟩ (.int .i64 (vb).y)).setCell ⟨x12, 2, none⟩ (.int .i64 (vb).z) := ⟨_, rfl⟩
                        have hg15 : (w14).grownBy w15 (some x12) := by rw [hw15]; exact gr_set3 _ _ _ _
                        have b12 := b12.set vb
                        rw [← hw15] at b12
                        rw [← hw15]
                        clear hw15
                        replace b11 := b11.gr hg15 (by intro e; injection e; omega)
                        replace b13 := b13.gr hg15 (by intro e; injection e; omega)
                        replace hcur := gr_new hcur hg15 hxs12
                        clear hg15
                        refine tree_e0 (by kernel_rfl) rfl rfl (fun K hK => ?_)
                        have b13' := b13
                        obtain ⟨⟨k0, f0⟩, ⟨k1, f1⟩, ⟨k2, f2⟩⟩ := b13'
                        go_wp2_with fail
                        try go_simp
                        refine hK _ _ trivial ?_
                        clear hK K
                        obtain ⟨w16, hw16⟩ : ∃ x, x = (((w15).setCell ⟨x13, 0, none⟩ (.int .i64 (vc).x)).setCell ⟨x13, 1, none⟩ (.int .i64 (vc).y)).setCell ⟨x13, 2, none⟩ (.int .i64 (vc).z) := ⟨_, rfl⟩
                        have hg16 : (w15).grownBy w16 (some x13) := by rw [hw16]; exact gr_set3 _ _ _ _
                        have b13 := b13.set vc
                        rw [← hw16] at b13
                        rw [← hw16]
                        clear hw16
                        replace b11 := b11.gr hg16 (by intro e; injection e; omega)
                        replace b12 := b12.gr hg16 (by intro e; injection e; omega)
                        replace hcur := gr_new hcur hg16 hxs13
                        clear hg16
                        refine tree_done ?_
                        go_wp2_with fail
                        go_meet
                        exact ⟨x11, x12, x13, rfl, rfl, rfl, b11, b12, b13, hcur⟩
                    · refine tree_e rfl rfl (fun K hK => ?_)
                      go_wp2_with fail
                      try go_simp
                      refine hK _ _ (gr_alloc hcur _) ?_
                      clear hK K
                      obtain ⟨w12, hw12⟩ : ∃ x, x = (w13).alloc (.cells #[.int .i64 0, .int .i64 0, .int .i64 0] 38) := ⟨_, rfl⟩
                      have hg12 : (w13).grownBy w12 none := by rw [hw12]; exact gr_alloc (World.grownBy.refl _ _) _
                      have b12 : Box3 w12 (w13).heap.size ⟨0, 0, 0⟩ := by rw [hw12]; exact ⟨Cell.new _ [.int .i64 0, .int .i64 0, .int .i64 0] 38 0 _ rfl _ rfl, Cell.new _ [.int .i64 0, .int .i64 0, .int .i64 0] 38 1 _ rfl _ rfl, Cell.new _ [.int .i64 0, .int .i64 0, .int .i64 0] 38 2 _ rfl _ rfl⟩
                      rw [← hw12]
                      clear hw12
                      have hxs12 := hcur.size
                      obtain ⟨x12, hx12⟩ : ∃ x, x = (w13).heap.size := ⟨_, rfl⟩
                      rw [← hx12] at b12 hxs12 ⊢
                      have nb1213 : x12 ≠ x13 := by have := cell_lt b13.1.1; simp only at this; omega
                      replace b13 := b13.gr hg12 (by simp)
                      replace hcur := gr_trans hcur hg12
                      clear hx12 hg12
                      refine tree_alt ?_ ?_
                      · refine tree_e0 (by kernel_rfl) rfl rfl (fun K hK => ?_)
                        go_wp2_with fail
                        refine (hCo.out w12 (hl.pure (gr_trans hgz hcur))).mono ?_
                        rintro e w6 ⟨rfl, hg6⟩
                        go_wp2_with fail
                        try go_simp
                        refine hK _ _ trivial ?_
                        clear hK K
                        replace b12 := b12.gr hg6 (by simp)
                        replace b13 := b13.gr hg6 (by simp)
                        replace hcur := gr_trans hcur hg6
                        refine tree_p rfl rfl rfl rfl _ rfl (by simp) (fun K hK => ?_)
                        apply Exists.intro
                        refine ⟨fun wq K' hK' => ?_, ?_⟩
                        · go_wp2_with fail
                          exact hK'
                        go_simp
                        refine hK _ ?_
                        clear hK K
                        refine tree_p rfl rfl rfl rfl _ rfl (by simp) (fun K hK => ?_)
                        apply Exists.intro
                        refine ⟨fun wq K' hK' => ?_, ?_⟩
                        · go_wp2_with fail
                          exact hK'
                        go_simp
                        refine hK _ ?_
                        clear hK K
                        refine tree_p rfl rfl rfl rfl _ rfl (by simp) (fun K hK => ?_)
                        apply Exists.intro
                        refine ⟨fun wq K' hK' => ?_, ?_⟩
                        · go_wp2_with fail
                          exact hK'
                        go_simp
                        refine hK _ ?_
                        clear hK K
                        refine tree_p rfl rfl rfl rfl _ rfl (by simp) (fun K hK => ?_)
                        apply Exists.intro
                        refine ⟨fun wq K' hK' => ?_, ?_⟩
                        · go_wp2_with fail
                          exact hK'
                        go_simp
                        refine hK _ ?_
                        clear hK K
                        refine tree_e rfl rfl (fun K hK => ?_)
                        go_wp2_with fail
                        try go_simp
                        refine hK _ _ (gr_alloc hcur _) ?_
                        clear hK K
                        obtain ⟨w11, hw11⟩ : ∃ x, x = (w6).alloc (.cells #[.int .i64 0, .int .i64 0, .int .i64 0] 38) := ⟨_, rfl⟩
                        have hg11 : (w6).grownBy w11 none := by rw [hw11]; exact gr_alloc (World.grownBy.refl _ _) _
                        have b11 : Box3 w11 (w6).heap.size ⟨0, 0, 0⟩ := by rw [hw11]; exact ⟨Cell.new _ [.int .i64 0, .int .i64 0, .int .i64 0] 38 0 _ rfl _ rfl, Cell.new _ [.int .i64 0, .int .i64 0, .int .i64 0] 38 1 _ rfl _ rfl, Cell.new _ [.int .i64 0, .int .i64 0, .int .i64 0] 38 2 _ rfl _ rfl⟩
                        rw [← hw11]
                        clear hw11
                        have hxs11 := hcur.size
                        obtain ⟨x11, hx11⟩ : ∃ x, x = (w6).heap.size := ⟨_, rfl⟩
                        rw [← hx11] at b11 hxs11 ⊢
                        have nb1112 : x11 ≠ x12 := by have := cell_lt b12.1.1; simp only at this; omega
                        have nb1113 : x11 ≠ x13 := by have := cell_lt b13.1.1; simp only at this; omega
                        replace b12 := b12.gr hg11 (by simp)
                        replace b13 := b13.gr hg11 (by simp)
                        replace hcur := gr_trans hcur hg11
                        clear hx11 hg11
                        refine tree_e0 (by kernel_rfl) rfl rfl (fun K hK => ?_)
                        have b11' := b11
                        obtain ⟨⟨k0, f0⟩, ⟨k1, f1⟩, ⟨k2, f2⟩⟩ := b11'
                        go_wp2_with fail
                        try go_simp
                        refine hK _ _ trivial ?_
                        clear hK K
                        obtain ⟨w14, hw14⟩ : ∃ x, x = (((w11).setCell ⟨x11, 0, none⟩ (.int .i64 (va).x)).setCell ⟨x11, 1, none⟩ (.int .i64 (va).y)).setCell ⟨x11, 2, none⟩ (.int .i64 (va).z) := ⟨_, rfl⟩
                        have hg14 : (w11).grownBy w14 (some x11) := by rw [hw14]; exact gr_set3 _ _ _ _
                        have b11 := b11.set va
                        rw [← hw14] at b11
                        rw [← hw14]
                        clear hw14
                        replace b12 := b12.gr hg14 (by intro e; injection e; omega)
                        replace b13 := b13.gr hg14 (by intro e; injection e; omega)
                        replace hcur := gr_new hcur hg14 hxs11
                        clear hg14
                        refine tree_e0 (by kernel_rfl) rfl rfl (fun K hK => ?_)
                        have b12' := b12
                        obtain ⟨⟨k0, f0⟩, ⟨k1, f1⟩, ⟨k2, f2⟩⟩ := b12'
                        go_wp2_with fail
                        try go_simp
                        refine hK _ _ trivial ?_
                        clear hK K
                        obtain ⟨w15, hw15⟩ : ∃ x, x = (((w14).setCell ⟨x12, 0, none⟩ (.int .i64 (vb).x)).setCell ⟨x12, 1, none⟩ (.int .i64 (vb).y)).setCell ⟨x12, 2, none⟩ (.int .i64 (vb).z) := ⟨_, rfl⟩
                        have hg15 : (w14).grownBy w15 (some x12) := by rw [hw15]; exact gr_set3 _ _ _ _
                        have b12 := b12.set vb
                        rw [← hw15] at b12
                        rw [← hw15]
                        clear hw15
                        replace b11 := b11.gr hg15 (by intro e; injection e; omega)
                        replace b13 := b13.gr hg15 (by intro e; injection e; omega)
                        replace hcur := gr_new hcur hg15 hxs12
                        clear hg15
                        refine tree_e0 (by kernel_rfl) rfl rfl (fun K hK => ?_)
                        have b13' := b13
                        obtain ⟨⟨k0, f0⟩, ⟨k1, f1⟩, ⟨k2, f2⟩⟩ := b13'
                        go_wp2_with fail
                        try go_simp
                        refine hK _ _ trivial ?_
                        clear hK K
                        obtain ⟨w16, hw16⟩ : ∃ x, x = (((w15).setCell ⟨x13, 0, none⟩ (.int .i64 (vc).x)).setCell ⟨x13, 1, none⟩ (.int .i64 (vc).y)).setCell ⟨x13, 2, none⟩ (.int .i64 (vc).z) := ⟨_, rfl⟩
                        have hg16 : (w15).grownBy w16 (some x13) := by rw [hw16]; exact gr_set3 _ _ _ _
                        have b13 := b13.set vc
                        rw [← hw16] at b13
                        rw [← hw16]
                        clear hw16
                        replace b11 := b11.gr hg16 (by intro e; injection e; omega)
                        replace b12 := b12.gr hg16 (by intro e; injection e; omega)
                        replace hcur := gr_new hcur hg16 hxs13
                        clear hg16
                        refine tree_done ?_
                        go_wp2_with fail
                        go_meet
                        exact ⟨x11, x12, x13, rfl, rfl, rfl, b11, b12, b13, hcur⟩
                      · refine tree_e rfl rfl (fun K hK => ?_)
                        go_wp2_with fail
                        try go_simp
                        refine hK _ _ (gr_alloc hcur _) ?_
                        clear hK K
                        obtain ⟨w11, hw11⟩ : ∃ x, x = (w12).alloc (.cells #[.int .i64 0, .int .i64 0, .int .i64 0] 38) := ⟨_, rfl⟩
                        have hg11 : (w12).grownBy w11 none := by rw [hw11]; exact gr_alloc (World.grownBy.refl _ _) _
                        have b11 : Box3 w11 (w12).heap.size ⟨0, 0, 0⟩ := by rw [hw11]; exact ⟨Cell.new _ [.int .i64 0, .int .i64 0, .int .i64 0] 38 0 _ rfl _ rfl, Cell.new _ [.int .i64 0, .int .i64 0, .int .i64 0] 38 1 _ rfl _ rfl, Cell.new _ [.int .i64 0, .int .i64 0, .int .i64 0] 38 2 _ rfl _ rfl⟩
                        rw [← hw11]
                        clear hw11
                        have hxs11 := hcur.size
                        obtain ⟨x11, hx11⟩ : ∃ x, x = (w12).heap.size := ⟨_, rfl⟩
                        rw [← hx11] at b11 hxs11 ⊢
                        have nb1112 : x11 ≠ x12 := by have := cell_lt b12.1.1; simp only at this; omega
                        have nb1113 : x11 ≠ x13 := by have := cell_lt b13.1.1; simp only at this; omega
                        replace b12 := b12.gr hg11 (by simp)
                        replace b13 := b13.gr hg11 (by simp)
                        replace hcur := gr_trans hcur hg11
                        clear hx11 hg11
                        refine tree_e0 (by kernel_rfl) rfl rfl (fun K hK => ?_)
                        go_wp2_with fail
                        refine (hCo.out w11 (hl.pure (gr_trans hgz hcur))).mono ?_
                        rintro e w6 ⟨rfl, hg6⟩
                        go_wp2_with fail
                        try go_simp
                        refine hK _ _ trivial ?_
                        clear hK K
                        replace b11 := b11.gr hg6 (by simp)
                        replace b12 := b12.gr hg6 (by simp)
                        replace b13 := b13.gr hg6 (by simp)
                        replace hcur := gr_trans hcur hg6
                        refine tree_p rfl rfl rfl rfl _ rfl (by simp) (fun K hK => ?_)
                        apply Exists.intro
                        refine ⟨fun wq K' hK' => ?_, ?_⟩
                        · go_wp2_with fail
                          exact hK'
                        go_simp
                        refine hK _ ?_
                        clear hK K
                        refine tree_p rfl rfl rfl rfl _ rfl (by simp) (fun K hK => ?_)
                        apply Exists.intro
                        refine ⟨fun wq K' hK' => ?_, ?_⟩
                        · go_wp2_with fail
                          exact hK'
                        go_simp
                        refine hK _ ?_
                        clear hK K
                        refine tree_p rfl rfl rfl rfl _ rfl (by simp) (fun K hK => ?_)
                        apply Exists.intro
                        refine ⟨fun wq K' hK' => ?_, ?_⟩
                        · go_wp2_with fail
                          exact hK'
                        go_simp
                        refine hK _ ?_
                        clear hK K
                        refine tree_p rfl rfl rfl rfl _ rfl (by simp) (fun K hK => ?_)
                        apply Exists.intro
                        refine ⟨fun wq K' hK' => ?_, ?_⟩
                        · go_wp2_with fail
                          exact hK'
                        go_simp
                        refine hK _ ?_
                        clear hK K
                        refine tree_e0 (by kernel_rfl) rfl rfl (fun K hK => ?_)
                        have b11' := b11
                        obtain ⟨⟨k0, f0⟩, ⟨k1, f1⟩, ⟨k2, f2⟩⟩ := b11'
                        go_wp2_with fail
                        try go_simp
                        refine hK _ _ trivial ?_
                        clear hK K
                        obtain ⟨w14, hw14⟩ : ∃ x, x = (((w6).setCell ⟨x11, 0, none⟩ (.int .i64 (va).x)).setCell ⟨x11, 1, none⟩ (.int .i64 (va).y)).setCell ⟨x11, 2, none⟩ (.int .i64 (va).z) := ⟨_, rfl⟩
                        have hg14 : (w6).grownBy w14 (some x11) := by rw [hw14]; exact gr_set3 _ _ _ _
                        have b11 := b11.set va
                        rw [← hw14] at b11
                        rw [← hw14]
                        clear hw14
                        replace b12 := b12.gr hg14 (by intro e; injection e; omega)
                        replace b13 := b13.gr hg14 (by intro e; injection e; omega)
                        replace hcur := gr_new hcur hg14 hxs11
                        clear hg14
                        refine tree_e0 (by kernel_rfl) rfl rfl (fun K hK => ?_)
                        have b12' := b12
                        obtain ⟨⟨k0, f0⟩, ⟨k1, f1⟩, ⟨k2, f2⟩⟩ := b12'
                        go_wp2_with fail
                        try go_simp
                        refine hK _ _ trivial ?_
                        clear hK K
                        obtain ⟨w15, hw15⟩ : ∃ x, x = (((w14).setCell ⟨x12, 0, none⟩ (.int .i64 (vb).x)).setCell ⟨x12, 1, none⟩ (.int .i64 (vb).y)).setCell ⟨x12, 2, none⟩ (.int .i64 (vb).z) := ⟨_, rfl⟩
                        have hg15 : (w14).grownBy w15 (some x12) := by rw [hw15]; exact gr_set3 _ _ _ _
                        have b12 := b12.set vb
                        rw [← hw15] at b12
                        rw [← hw15]
                        clear hw15
                        replace b11 := b11.gr hg15 (by intro e; injection e; omega)
                        replace b13 := b13.gr hg15 (by intro e; injection e; omega)
                        replace hcur := gr_new hcur hg15 hxs12
                        clear hg15
                        refine tree_e0 (by kernel_rfl) rfl rfl (fun K hK => ?_)
                        have b13' := b13
                        obtain ⟨⟨k0, f0⟩, ⟨k1, f1⟩, ⟨k2, f2⟩⟩ := b13'
                        go_wp2_with fail
                        try go_simp
                        refine hK _ _ trivial ?_
                        clear hK K
                        obtain ⟨w16, hw16⟩ : ∃ x, x = (((w15).setCell ⟨x13, 0, none⟩ (.int .i64 (vc).x)).setCell ⟨x13, 1, none⟩ (.int .i64 (vc).y)).setCell ⟨x13, 2, none⟩ (.int .i64 (vc).z) := ⟨_, rfl⟩
                        have hg16 : (w15).grownBy w16 (some x13) := by rw [hw16]; exact gr_set3 _ _ _ _
                        have b13 := b13.set vc
                        rw [← hw16] at b13
                        rw [← hw16]
                        clear hw16
                        replace b11 := b11.gr hg16 (by intro e; injection e; omega)
                        replace b12 := b12.gr hg16 (by intro e; injection e; omega)
                        replace hcur := gr_new hcur hg16 hxs13
                        clear hg16
                        refine tree_done ?_
                        go_wp2_with fail
                        go_meet
                        exact ⟨x11, x12, x13, rfl, rfl, rfl, b11, b12, b13, hcur⟩
          case rest =>
            obtain ⟨x9, x10, x11, rfl, rfl, rfl, k9, k10, k11, hgc⟩ := hcut
            obtain ⟨⟨a0, -⟩, ⟨a1, -⟩, ⟨a2, -⟩⟩ := k9
            obtain ⟨⟨a3, -⟩, ⟨a4, -⟩, ⟨a5, -⟩⟩ := k10
            obtain ⟨⟨a6, -⟩, ⟨a7, -⟩, ⟨a8, -⟩⟩ := k11
            obtain ⟨-, -, ha1, ha2⟩ := hba
            obtain ⟨-, -, hb2, hb3⟩ := hbb
            obtain ⟨-, -, hc1, hc2⟩ := hbc
            obtain ⟨-, -, hn1, hn2⟩ := hbn
            clear a0 a1 a3 a4 a6 a7 hCo
            generalize atV vs f.a = va at *
            generalize atV vs f.b = vb at *
            generalize atV vs f.c = vc at *
            generalize normV vs f = N at *
            have hmul := mul_bd (a := va.z + vb.z + vc.z) (b := N.z) (A := 300000) (B := 80000000000) (by omega) (by omega)
            rw [hPz.out] at hs1
            generalize hY : prmSum vs fs (G.take q) = Y at *
            have hYb : -9223372036854775808 ≤ wrap64 Y ∧ wrap64 Y ≤ 9223372036854775807 := by unfold wrap64; omega
            generalize wrap64 Y = Z at *
            replace hY := hide hY
            clear hPz
            replace z0 := hgc.k z0
            replace z1 := hgc.k z1
            replace v0 := hgc.k v0
            replace v1 := hgc.k v1
            replace v2 := hgc.k v2
            have hgw9 := gr_trans hgz hgc
            go_upto_region 10 with fail
            refine wp_region_tree (fun wx => wc.grownBy wx none) [2, 2, 1, 2, 1, 2, 2, 1, 2, 1, 2, 1, 2, 2, 1, 0, 2, 2, 2, 2] (.bl 0 (.bl 1 (.bl 2 (.bl 3 (.bl 4 (.bl 5 (.bl 6 (.bl 7 (.bl 8 (.bl 9 (.bl 10 (.bl 11 (.bl 12 (.bl 13 (.bl 14 (.ef 15 (.bl 16 (.bl 17 (.bl 18 (.bl 19 .done)))))))))))))))))))) (by kernel_rfl) (by kernel_rfl) (gr_drew (World.grownBy.refl _ _)) ?_
            refine tree_p rfl rfl rfl rfl _ rfl (by simp) (fun K hK => ?_)
            apply Exists.intro
            refine ⟨fun wq K' hK' => ?_, ?_⟩
            · go_wp2_with fail
              exact hK'
            go_simp
            refine hK _ ?_
            clear hK K
            refine tree_p rfl rfl rfl rfl _ rfl (by simp) (fun K hK => ?_)
            apply Exists.intro
            refine ⟨fun wq K' hK' => ?_, ?_⟩
            · go_wp2_with fail
              exact hK'
            go_simp
            refine hK _ ?_
            clear hK K
            refine tree_b rfl rfl rfl rfl _ rfl (by simp) (fun K hK => ?_)
            apply Exists.intro
            refine ⟨fun wq hq K' hK' => ?_, ?_⟩
            · have q0 := hq.k z0
              have q1 := hq.k z1
              have q3 := hq.k v0
              have q4 := hq.k v1
              have q5 := hq.k v2
              have q6 := hq.k a2
              have q7 := hq.k a5
              have q8 := hq.k a8
              go_wp2_with fail
              exact hK'
            go_simp
            refine hK _ ?_
            clear hK K
            refine tree_p rfl rfl rfl rfl _ rfl (by simp) (fun K hK => ?_)
            apply Exists.intro
            refine ⟨fun wq K' hK' => ?_, ?_⟩
            · go_wp2_with fail
              exact hK'
            go_simp
            refine hK _ ?_
            clear hK K
            refine tree_b rfl rfl rfl rfl _ rfl (by simp) (fun K hK => ?_)
            apply Exists.intro
            refine ⟨fun wq hq K' hK' => ?_, ?_⟩
            · have q0 := hq.k z0
              have q1 := hq.k z1
              have q3 := hq.k v0
              have q4 := hq.k v1
              have q5 := hq.k v2
              have q6 := hq.k a2
              have q7 := hq.k a5
              have q8 := hq.k a8
              go_wp2_with fail
              exact hK'
            go_simp
            refine hK _ ?_
            clear hK K
            refine tree_p rfl rfl rfl rfl _ rfl (by simp) (fun K hK => ?_)
            apply Exists.intro
            refine ⟨fun wq K' hK' => ?_, ?_⟩
            · go_wp2_with fail
              exact hK'
            go_simp
            refine hK _ ?_
            clear hK K
            refine tree_p rfl rfl rfl rfl _ rfl (by simp) (fun K hK => ?_)
            apply Exists.intro
            refine ⟨fun wq K' hK' => ?_, ?_⟩
            · go_wp2_with fail
              exact hK'
            go_simp
            refine hK _ ?_
            clear hK K
            refine tree_b rfl rfl rfl rfl _ rfl (by simp) (fun K hK => ?_)
            apply Exists.intro
            refine ⟨fun wq hq K' hK' => ?_, ?_⟩
            · have q0 := hq.k z0
              have q1 := hq.k z1
              have q3 := hq.k v0
              have q4 := hq.k v1
              have q5 := hq.k v2
              have q6 := hq.k a2
              have q7 := hq.k a5
              have q8 := hq.k a8
              go_wp2_with fail
              exact hK'
            go_simp
            refine hK _ ?_
            clear hK K
            refine tree_p rfl rfl rfl rfl _ rfl (by simp) (fun K hK => ?_)
            apply Exists.intro
            refine ⟨fun wq K' hK' => ?_, ?_⟩
            · go_wp2_with fail
              exact hK'
            go_simp
            refine hK _ ?_
            clear hK K
            refine tree_b rfl rfl rfl rfl _ rfl (by simp) (fun K hK => ?_)
            apply Exists.intro
            refine ⟨fun wq hq K' hK' => ?_, ?_⟩
            · have q0 := hq.k z0
              have q1 := hq.k z1
              have q3 := hq.k v0
              have q4 := hq.k v1
              have q5 := hq.k v2
              have q6 := hq.k a2
              have q7 := hq.k a5
              have q8 := hq.k a8
              go_wp2_with fail
              exact hK'
            go_simp
            refine hK _ ?_
            clear hK K
            refine tree_p rfl rfl rfl rfl _ rfl (by simp) (fun K hK => ?_)
            apply Exists.intro
            refine ⟨fun wq K' hK' => ?_, ?_⟩
            · go_wp2_with fail
              exact hK'
            go_simp
            refine hK _ ?_
            clear hK K
            refine tree_b rfl rfl rfl rfl _ rfl (by simp) (fun K hK => ?_)
            apply Exists.intro
            refine ⟨fun wq hq K' hK' => ?_, ?_⟩
            · have q0 := hq.k z0
              have q1 := hq.k z1
              have q3 := hq.k v0
              have q4 := hq.k v1
              have q5 := hq.k v2
              have q6 := hq.k a2
              have q7 := hq.k a5
              have q8 := hq.k a8
              go_wp2_with fail
              exact hK'
            go_simp
            refine hK _ ?_
            clear hK K
            refine tree_p rfl rfl rfl rfl _ rfl (by simp) (fun K hK => ?_)
            apply Exists.intro
            refine ⟨fun wq K' hK' => ?_, ?_⟩
            · go_wp2_with fail
              exact hK'
            go_simp
            refine hK _ ?_
            clear hK K
            refine tree_p rfl rfl rfl rfl _ rfl (by simp) (fun K hK => ?_)
            apply Exists.intro
            refine ⟨fun wq K' hK' => ?_, ?_⟩
            · go_wp2_with fail
              exact hK'
            go_simp
            refine hK _ ?_
            clear hK K
            refine tree_b rfl rfl rfl rfl _ rfl (by simp) (fun K hK => ?_)
            apply Exists.intro
            refine ⟨fun wq hq K' hK' => ?_, ?_⟩
            · have q0 := hq.k z0
              have q1 := hq.k z1
              have q3 := hq.k v0
              have q4 := hq.k v1
              have q5 := hq.k v2
              have q6 := hq.k a2
              have q7 := hq.k a5
              have q8 := hq.k a8
              go_wp2_with fail
              exact hK'
            go_simp
            refine hK _ ?_
            clear hK K
            refine tree_e rfl rfl (fun K hK => ?_)
            go_wp2_with fail
            refine (hNo.out _ (hl.pure (gr_drew hgw9))).mono ?_
            rintro e w6 ⟨rfl, hg6⟩
            have hg7 := gr_trans (gr_drew (gr_trans hgx hgc)) hg6
            go_wp2_with fail
            try go_simp
            refine hK _ _ ((gr_trans (gr_drew (World.grownBy.refl _ _)) hg6)) ?_
            clear hK K
            refine tree_p rfl rfl rfl rfl _ rfl (by simp) (fun K hK => ?_)
            apply Exists.intro
            refine ⟨fun wq K' hK' => ?_, ?_⟩
            · go_wp2_with fail
              exact hK'
            go_simp
            refine hK _ ?_
            clear hK K
            refine tree_p rfl rfl rfl rfl _ rfl (by simp) (fun K hK => ?_)
            apply Exists.intro
            refine ⟨fun wq K' hK' => ?_, ?_⟩
            · go_wp2_with fail
              exact hK'
            go_simp
            refine hK _ ?_
            clear hK K
            refine tree_p rfl rfl rfl rfl _ rfl (by simp) (fun K hK => ?_)
            apply Exists.intro
            refine ⟨fun wq K' hK' => ?_, ?_⟩
            · go_wp2_with fail
              exact hK'
            go_simp
            refine hK _ ?_
            clear hK K
            refine tree_p rfl rfl rfl rfl _ rfl (by simp) (fun K hK => ?_)
            apply Exists.intro
            refine ⟨fun wq K' hK' => ?_, ?_⟩
            · go_wp2_with fail
              exact hK'
            go_simp
            refine hK _ ?_
            clear hK K
            refine tree_done ?_
            go_wp2_with fail
            (go_roundw; (case rel => exact ⟨q + 1, by omega, by go_num, by rw [hs1.out], hg7⟩); (case measure => simp [intOf]; omega))
        · have hqe : q = G.length := by omega
          subst hqe
          rw [hfa.out, hpk.out, wrap_id (by have := hgb.out; omega)]
          generalize grpVol vs fs G = X at *
          have hgz := hgw.t hgx
          have hV1 := hV.pure hgx
          obtain ⟨i0, hi0, hz, hi1, hi3⟩ := info_parts info_int
          go_wp2_with (at_builtin; refine wpList_pushAt (α := Int) _ rfl (.tmp 56) (.tmp 58) _ rfl w2.heap.size 3 i0 _ 8 Tryz.underlying22 hi0 hz hi1 hi3 rfl V _ cv LV rfl hlV.out (by exact hV1.pure (gr_alloc (World.grownBy.refl _ _) _)) 0 ⟨_, 0, none⟩ 1 1 [X] rfl rfl (by exact sl_int1 _ _ _ _ (by first | rfl | simp)) ?c2 ?c3 ?c4 ?_)
          case c2 => rw [← hlV.out]; simp; omega
          case c3 => rw [← hlV.out]; simp [maxLen]; omega
          case c4 => have := (hg2'.t hgx).size; simp; omega
          intro A6 c6 w6 ho6 hG6
          have hg6 := gr_row (hgz.t (gr_alloc (World.grownBy.refl _ none) _)) hG6.1 (fun b e => Nat.le_trans hw2s (hV1.blk_lt e).1)
          have hg7 := gr_row ((hg2'.t hgx).t (gr_alloc (World.grownBy.refl _ none) _)) hG6.1 (fun b e => (hV1.blk_lt e).1)
          have hlW : Hid (LV.length + 1 = k + 1) := by rw [Hid, ← hlV.out]
          go_wp2_with fail
          (go_roundw; (case rel => exact ⟨k + 1, A6, c6, by omega, by go_num, by rw [hlW.out], by rw [hTk.out]; exact ho6, hg7, hg6⟩); (case measure => simp [intOf]; omega))
    · have hke : k = SH.length := by omega
      subst hke
      rw [List.take_length] at hV
      go_wp2_with fail
      go_ret
      exact ⟨V, cv, by rw [hvE.out, List.length_map]; rfl, by rw [hvE.out]; exact hV.lower hw2s, hgw⟩

end Go.Proofs.YtkcchcnljanloaaGreat

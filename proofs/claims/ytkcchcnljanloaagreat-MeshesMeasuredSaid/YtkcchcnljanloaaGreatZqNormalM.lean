/- Contracts of functions that this seat's laws reach, each: what one call returns and what it leaves in memory; no condition beyond each theorem's own hypotheses. -/
import Derived.Test.YtkcchcnljanloaaGreatZqMeshH
import Derived.Test.YtkcchcnljanloaaGreatZqTree
import Derived.Test.YtkcchcnljanloaaGreatZqGpLib
import Derived.Test.YtkcchcnljanloaaGreatZqJm
import Derived.Deep.DeepCutAuto
set_option linter.unusedVariables false
set_option linter.unusedSimpArgs false
namespace Go.Proofs.YtkcchcnljanloaaGreat
open Go.RowKit Go.Bl

set_option maxHeartbeats 2000000 in
set_option maxRecDepth 100000 in
theorem normalOk_any (A : Option Addr) (c : Nat) (vs : List V3) (B : Option Addr) (d : Nat) (fs : List Fc) (i : Nat) (w : World) (hl : Sl w 0 A vs) (hfs : Sl w 0 B fs) (hM : meshF ⟨vs, fs⟩ = 0) (hi : i < fs.length) :
    Calls Tryz.prog 10 #[.agg #[.slice A vs.length c, .slice B fs.length d], .int .i64 i] w fun e w' => e = .returned (.tuple #[.agg #[.int .i64 (normV vs fs[i]).x, .int .i64 (normV vs fs[i]).y, .int .i64 (normV vs fs[i]).z], .int .i64 0]) ∧ w.grownBy w' none := by
  have hm2 := hfs.1
  unfold maxLen at hm2
  obtain ⟨W, hW⟩ : ∃ W, W = (w.alloc (.cells #[.slice A vs.length c, .slice B fs.length d] 29)).alloc (.cells #[.int .i64 0, .int .i64 0, .int .i64 0] 38) := ⟨_, rfl⟩
  have hgW : w.grownBy W none := by rw [hW]; exact (by repeat (first | exact World.grownBy.refl _ _ | assumption | refine gr_alloc ?_ _ | (apply gr_tail; assumption) | refine gr_drewN ?_ _ | refine gr_drew ?_))
  have hWs : W.heap.size = w.heap.size + 1 + 1 := by rw [hW]; simp
  have b0 : W.cell? ⟨w.heap.size, 0, none⟩ = some (.slice A vs.length c) := by rw [hW]; go_simp
  have b1 : W.cell? ⟨w.heap.size, 1, none⟩ = some (.slice B fs.length d) := by rw [hW]; go_simp
  have q0 : Cell W (w.heap.size + 1) 0 (.int .i64 0) := by rw [hW]; exact ⟨by go_simp, by go_simp⟩
  have q1 : Cell W (w.heap.size + 1) 1 (.int .i64 0) := by rw [hW]; exact ⟨by go_simp, by go_simp⟩
  have q2 : Cell W (w.heap.size + 1) 2 (.int .i64 0) := by rw [hW]; exact ⟨by go_simp, by go_simp⟩
  have hCM := checkMesh_any A c vs B d fs W (hl.pure hgW) (hfs.pure hgW)
  rw [hM] at hCM
  have hok := meshOk.1 hM
  have hNo := fun w hl => normalOf_any A c vs B fs.length d fs[i] w hl hok.near (faceF_in (hok.face _ (List.getElem_mem hi)))
  obtain ⟨g, o, cx, rfl, hb0, hb1, rfl, hc⟩ := (hfs.pure hgW).at_ (by decide) hi
  have v0 : W.cell? ⟨g, o + i * 3, none⟩ = some (.int .i64 fs[i].a) := hc 0 _ rfl
  have v1 : W.cell? ⟨g, o + i * 3 + 1, none⟩ = some (.int .i64 fs[i].b) := hc 1 _ rfl
  have v2 : W.cell? ⟨g, o + i * 3 + 2, none⟩ = some (.int .i64 fs[i].c) := hc 2 _ rfl
  clear hc hok hM
  generalize fs[i] = f at *
  generalize normV vs f = N at *
  have hB : ∀ wx, W.grownBy wx none → wx.cell? ⟨w.heap.size, 0, none⟩ = some (.slice A vs.length c) ∧ wx.cell? ⟨w.heap.size, 1, none⟩ = some (.slice (some ⟨g, o, none⟩) fs.length d) ∧ wx.cell? ⟨g, o + i * 3, none⟩ = some (.int .i64 f.a) ∧ wx.cell? ⟨g, o + i * 3 + 1, none⟩ = some (.int .i64 f.b) ∧ wx.cell? ⟨g, o + i * 3 + 2, none⟩ = some (.int .i64 f.c) ∧ Sl wx 0 A vs := fun wx h => ⟨h.k b0, h.k b1, h.k v0, h.k v1, h.k v2, (hl.pure hgW).pure h⟩
  clear b0 b1 v0 v1 v2 hl hfs hb0
  have hgo : g < W.heap.size := hb1
  clear hb1
  replace hgo := hide hgo
  replace hCM := hide hCM
  replace hNo := hide hNo
  replace hB := hide hB
  replace hW := hide hW.symm
  replace hWs := hide hWs
  go_enter Tryz.func10, Tryz.ntmps10
  go_wp2_with fail
  rw [hW.out]
  refine hCM.out.mono ?_
  rintro e w1 ⟨rfl, h1⟩
  clear hCM hW
  obtain ⟨d0, d1, d2, d3, d4, d5⟩ := hB.out w1 h1
  go_upto_region 6 with fail
  simp only [show decide (fs.length ≤ i) = false by simp [hi], show decide ((i : Int) < 0) = false by simp, Bool.or_self]
  refine wp_region_tree (fun wx => W.grownBy wx none) [1, 2, 1, 2, 2, 1, 0, 0, 2] (.bl 0 (.bl 1 (.bl 2 (.bl 3 (.bl 4 (.bl 5 (.ef 6 (.ef 7 (.bl 8 .done))))))))) (by kernel_rfl) (by kernel_rfl) (gr_drew h1) ?_
  obtain ⟨w2, hw2⟩ : ∃ x, x = (w1).drew := ⟨_, rfl⟩
  rw [← hw2]
  have hgw2 : (w1).grownBy w2 none := by rw [hw2]; exact gr_drew (World.grownBy.refl _ _)
  clear hw2
  refine tree_b rfl rfl rfl rfl _ rfl (by simp) (fun K hK => ?_)
  apply Exists.intro
  refine ⟨fun wq hq K' hK' => ?_, ?_⟩
  · obtain ⟨d0, d1, d2, d3, d4, d5⟩ := hB.out wq hq
    go_wp2_with fail
    exact hK'
  go_simp
  refine hK _ ?_
  clear hK K
  refine tree_p rfl rfl rfl rfl _ rfl (by simp) (fun K hK => ?_)
  apply Exists.intro
  refine ⟨fun wq K' hK' => ?_, ?_⟩
  · go_wp2_with fail
    exact hK'
  go_simp
  refine hK _ ?_
  clear hK K
  refine tree_b rfl rfl rfl rfl _ rfl (by simp) (fun K hK => ?_)
  apply Exists.intro
  refine ⟨fun wq hq K' hK' => ?_, ?_⟩
  · obtain ⟨d0, d1, d2, d3, d4, d5⟩ := hB.out wq hq
    go_wp2_with fail
    exact hK'
  go_simp
  refine hK _ ?_
  clear hK K
  refine tree_p rfl rfl rfl rfl _ rfl (by simp) (fun K hK => ?_)
  apply Exists.intro
  refine ⟨fun wq K' hK' => ?_, ?_⟩
  · go_wp2_with fail
    exact hK'
  go_simp
  refine hK _ ?_
  clear hK K
  refine tree_p rfl rfl rfl rfl _ rfl (by simp) (fun K hK => ?_)
  apply Exists.intro
  refine ⟨fun wq K' hK' => ?_, ?_⟩
  · go_wp2_with fail
    exact hK'
  go_simp
  refine hK _ ?_
  clear hK K
  refine tree_b rfl rfl rfl rfl _ rfl (by simp) (fun K hK => ?_)
  apply Exists.intro
  refine ⟨fun wq hq K' hK' => ?_, ?_⟩
  · obtain ⟨d0, d1, d2, d3, d4, d5⟩ := hB.out wq hq
    go_wp2_with fail
    exact hK'
  go_simp
  refine hK _ ?_
  clear hK K
  refine tree_e0 (by kernel_rfl) rfl rfl (fun K hK => ?_)
  go_wp2_with fail
  refine (hNo.out w2 (hB.out w2 (gr_trans h1 hgw2)).2.2.2.2.2).mono ?_
  rintro e w6 ⟨rfl, h6⟩
  go_wp2_with fail
  try go_simp
  refine hK _ _ trivial ?_
  clear hK K
  refine tree_e0 (by kernel_rfl) rfl rfl (fun K hK => ?_)
  have hT := gr_trans h1 (gr_trans hgw2 h6)
  obtain ⟨x0, y0⟩ := q0.gr hT (by simp)
  obtain ⟨x1, y1⟩ := q1.gr hT (by simp)
  obtain ⟨x2, y2⟩ := q2.gr hT (by simp)
  go_wp2_with fail
  try go_simp
  refine hK _ _ trivial ?_
  clear hK K
  refine tree_p rfl rfl rfl rfl _ rfl (by simp) (fun K hK => ?_)
  apply Exists.intro
  refine ⟨fun wq K' hK' => ?_, ?_⟩
  · go_wp2_with fail
    exact hK'
  go_simp
  refine hK _ ?_
  clear hK K
  refine tree_done ?_
  go_wp2_with fail
  have hgs := fun (v1 v2 v3 : Value) => gr_set (gr_set (gr_set (gr_trans hgW hT) (p := ⟨w.heap.size + 1, 0, none⟩) (.inr (by simp)) v1) (p := ⟨w.heap.size + 1, 1, none⟩) (.inr (by simp)) v2) (p := ⟨w.heap.size + 1, 2, none⟩) (.inr (by simp)) v3
  exact bodyPost_ret (v := .tuple #[.agg #[.int .i64 N.x, .int .i64 N.y, .int .i64 N.z], .int .i64 0]) (by simp [results, Tryz.results10, go_sem, x0, x1, x2, y0, y1, y2]) rfl ⟨rfl, hgs _ _ _⟩

end Go.Proofs.YtkcchcnljanloaaGreat

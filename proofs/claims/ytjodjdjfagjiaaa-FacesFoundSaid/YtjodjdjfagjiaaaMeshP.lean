/- Contracts of functions that this seat's laws reach, each: what one call returns and what it leaves in memory; no condition beyond each theorem's own hypotheses. -/
import Derived.Test.YtjodjdjfagjiaaaMeshK
set_option linter.unusedVariables false
set_option linter.unusedSimpArgs false
namespace Go.Proofs.Ytjodjdjfagjiaaa
open Go.RowKit Go.Bl

set_option maxHeartbeats 2000000 in
set_option maxRecDepth 100000 in
theorem heights_any (A : Option Addr) (c : Nat) (vs : List V3) (B : Option Addr) (m d : Nat) (f : Fc) (w : World) (hl : Sl w 0 A vs) (hin : inF vs.length f = true) :
    Calls Try.prog 96 #[.agg #[.slice A vs.length c, .slice B m d], .agg #[.int .i64 f.a, .int .i64 f.b, .int .i64 f.c]] w fun e w' => e = .returned (.agg #[.int .i64 (atV vs f.a).z, .int .i64 (atV vs f.b).z, .int .i64 (atV vs f.c).z]) ∧ w.grownBy w' none := by
  have hm := hl.1
  unfold maxLen at hm
  obtain ⟨i, j, k, hi, hj, hk, rfl, ea, eb, ec⟩ := inF_at hin
  rw [ea, eb, ec]
  clear ea eb ec hin
  obtain ⟨g, o, rfl, hb0, hb1, hcell⟩ := hl.v3 (by omega)
  obtain ⟨x0, x1, x2⟩ := hcell i hi
  obtain ⟨y0, y1, y2⟩ := hcell j hj
  obtain ⟨z0, z1, z2⟩ := hcell k hk
  clear hcell
  have hb2 : g < w.heap.size + 1 := by omega
  have hb3 : g < w.heap.size + 1 + 1 := by omega
  have hb4 : g < w.heap.size + 1 + 1 + 1 := by omega
  generalize vs[i] = va at *
  generalize vs[j] = vb at *
  generalize vs[k] = vc at *
  generalize vs.length = n at *
  go_enter Try.func96, Try.ntmps96
  go_wp2_with fail
  obtain ⟨W, hW⟩ : ∃ W, W = ((w.alloc (.cells #[.slice (some ⟨g, o, none⟩) n c, .slice B m d] 29)).alloc (.cells #[.int .i64 i, .int .i64 j, .int .i64 k] 67)).alloc (.cells #[.int .i64 0, .int .i64 0, .int .i64 0] 116) := ⟨_, rfl⟩
  have hg : w.grownBy W none := by rw [hW]; exact (by repeat (first | exact World.grownBy.refl _ _ | assumption | refine gr_alloc ?_ _ | (apply gr_tail; assumption) | refine gr_drewN ?_ _ | refine gr_drew ?_))
  have b0 : W.cell? ⟨w.heap.size, 0, none⟩ = some (.slice (some ⟨g, o, none⟩) n c) := by rw [hW]; go_simp
  have b3 : W.cell? ⟨w.heap.size + 1, 0, none⟩ = some (.int .i64 i) := by rw [hW]; go_simp
  have b4 : W.cell? ⟨w.heap.size + 1, 1, none⟩ = some (.int .i64 j) := by rw [hW]; go_simp
  have b5 : W.cell? ⟨w.heap.size + 1, 2, none⟩ = some (.int .i64 k) := by rw [hW]; go_simp
  have q0 : Cell W (w.heap.size + 1 + 1) 0 (.int .i64 0) := by rw [hW]; exact ⟨by go_simp, by go_simp⟩
  have q1 : Cell W (w.heap.size + 1 + 1) 1 (.int .i64 0) := by rw [hW]; exact ⟨by go_simp, by go_simp⟩
  have q2 : Cell W (w.heap.size + 1 + 1) 2 (.int .i64 0) := by rw [hW]; exact ⟨by go_simp, by go_simp⟩
  rw [← hW]
  clear hW
  replace x2 := hg.k x2
  replace y2 := hg.k y2
  replace z2 := hg.k z2
  refine wp_region_fix 22 ((fun wx => W.grownBy wx none)) (by kernel_rfl) (by kernel_rfl) (gr_drew (World.grownBy.refl _ _)) ?_
  simp only [List.take_succ_cons, List.take_zero, List.drop_succ_cons, List.drop_zero]
  iterate 22 ((refine fix_b (fun K hK => ?_); apply Exists.intro; refine ⟨fun wx hC K' hK' => ?_, ?_⟩; (focus (replace hK' := hide hK'; (have d0 := hC.k b0; have d3 := hC.k b3; have d4 := hC.k b4; have d5 := hC.k b5; have d6 := hC.k x2; have e1 := hC.k y2; have e3 := hC.k z2); go_wp2_with fail; exact hK'.out _ hC)); go_simp; refine hK _ ?_; clear hK K))
  refine fix_nil ?_
  intro wz hC
  obtain ⟨c0, f0⟩ := q0.gr hC (by simp)
  obtain ⟨c1, f1⟩ := q1.gr hC (by simp)
  obtain ⟨c2, f2⟩ := q2.gr hC (by simp)
  have hg2 := gr_trans hg hC
  go_wp2_with fail
  refine bodyPost_ret (v := .agg #[.int .i64 va.z, .int .i64 vb.z, .int .i64 vc.z]) (by simp [results, Try.results96, go_sem, c0, c1, c2, f0, f1, f2]) rfl ⟨rfl, ?_⟩
  exact gr_set (gr_set (gr_set hg2 (.inr (by simp only; omega)) _) (.inr (by simp only; omega)) _) (.inr (by simp only; omega)) _

end Go.Proofs.Ytjodjdjfagjiaaa

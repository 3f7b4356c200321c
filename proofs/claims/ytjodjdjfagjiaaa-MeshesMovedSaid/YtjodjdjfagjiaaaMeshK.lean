/- Contracts of functions that this seat's laws reach, each: what one call returns and what it leaves in memory; no condition beyond each theorem's own hypotheses. -/
import Derived.Test.YtjodjdjfagjiaaaMeshJ
import Derived.Test.YtjodjdjfagjiaaaMeshH
set_option linter.unusedVariables false
set_option linter.unusedSimpArgs false
namespace Go.Proofs.Ytjodjdjfagjiaaa
open Go.RowKit Go.Bl

def pyrV : List V3 := [⟨0, 0, 0⟩, ⟨6, 0, 0⟩, ⟨0, 6, 0⟩, ⟨0, 0, 6⟩]
def pyrF : List Fc := [⟨0, 2, 1⟩, ⟨0, 1, 3⟩, ⟨1, 2, 3⟩, ⟨0, 3, 2⟩]

set_option maxHeartbeats 1000000 in
set_option maxRecDepth 100000 in
theorem pyramid_any (w : World) : Calls Try.prog 61 #[] w fun e w' => ∃ A B, e = .returned (.agg #[.slice A 4 4, .slice B 4 4]) ∧ Sl w' 0 A pyrV ∧ Sl w' 0 B pyrF ∧ w.grownBy w' none := by
  go_enter Try.func61, Try.ntmps61
  go_wp2_with fail
  refine bodyPost_ret (v := .agg #[.slice (some ⟨w.heap.size + 1, 0, none⟩) 4 4, .slice (some ⟨w.heap.size + 1 + 1, 0, none⟩) 4 4]) (by simp [results, Try.results61, go_sem]) rfl ⟨_, _, rfl, ?_, ?_, ?_⟩
  · exact (sl_litAt _ 0 _ 49 pyrV _ (by simp) (Nat.zero_le _) (by simp [pyrV, maxLen]) ⟨_, _, rfl, rfl, _, _, rfl, rfl, _, _, rfl, rfl, _, _, rfl, rfl, rfl⟩).pure (gr_alloc (World.grownBy.refl _ _) _)
  · exact sl_litAt _ 0 _ 67 pyrF _ (by simp) (Nat.zero_le _) (by simp [pyrF, maxLen]) ⟨_, _, rfl, rfl, _, _, rfl, rfl, _, _, rfl, rfl, _, _, rfl, rfl, rfl⟩
  · exact (by repeat (first | exact World.grownBy.refl _ _ | assumption | refine gr_alloc ?_ _ | (apply gr_tail; assumption) | refine gr_drewN ?_ _ | refine gr_drew ?_))

theorem pyr_ok : meshF ⟨pyrV, pyrF⟩ = 0 := by decide
theorem pyr_side : ∀ s ∈ allS pyrF, okS s := by
  intro s hs
  simp only [allS, pyrF, sdsOf, List.flatMap_cons, List.flatMap_nil, List.cons_append, List.nil_append, List.append_nil, List.mem_cons, List.not_mem_nil, or_false] at hs
  rcases hs with rfl | rfl | rfl | rfl | rfl | rfl | rfl | rfl | rfl | rfl | rfl | rfl <;> exact ⟨by decide, by decide⟩
theorem pyr_rev : ∀ s ∈ allS pyrF, revS s ∈ allS pyrF := by decide

set_option maxHeartbeats 1000000 in
theorem closedPyr_any (A B : Option Addr) (w : World) (hA : Sl w 0 A pyrV) (hB : Sl w 0 B pyrF) : Calls Try.prog 99 #[.agg #[.slice A 4 4, .slice B 4 4]] w fun e w' => e = .returned (.int .i64 0) ∧ w.grownBy w' none := by
  have hg0 := gr_alloc (World.grownBy.refl w none) (.cells #[.slice A 4 4, .slice B 4 4] 29)
  have b0 := Cell.new w [.slice A 4 4, .slice B 4 4] 29 0 _ rfl _ rfl
  have b1 := Cell.new w [.slice A 4 4, .slice B 4 4] 29 1 _ rfl _ rfl
  go_enter Try.func99, Try.ntmps99
  go_wp2_with fail
  refine (checkMesh_any A 4 pyrV B 4 pyrF _ (hA.pure hg0) (hB.pure hg0)).mono ?_
  rintro e w1 ⟨rfl, hg1⟩
  rw [pyr_ok]
  have b0 := (b0.gr hg1 (by simp)).1
  have b1 := (b1.gr hg1 (by simp)).1
  have hg2 := gr_trans hg0 hg1
  go_wp2_with fail
  refine (openNone_any A 4 4 B 4 pyrF _ (hB.pure hg2) (by decide) pyr_side pyr_rev).mono ?_
  rintro e w2 ⟨rfl, hg3⟩
  go_wp2_with fail
  go_ret
  exact ⟨rfl, gr_trans hg2 hg3⟩

def partV (vs : List V3) (f : Fc) : Int := dotV (atV vs f.a) (crossV (atV vs f.b) (atV vs f.c))

set_option maxHeartbeats 2000000 in
set_option maxRecDepth 100000 in
theorem part_any (A : Option Addr) (c : Nat) (vs : List V3) (B : Option Addr) (m d : Nat) (f : Fc) (w : World) (hl : Sl w 0 A vs) (hf : vs.any farV = false) (hin : inF vs.length f = true) :
    Calls Try.prog 100 #[.agg #[.slice A vs.length c, .slice B m d], .agg #[.int .i64 f.a, .int .i64 f.b, .int .i64 f.c]] w fun e w' => e = .returned (.int .i64 (partV vs f)) ∧ w.grownBy w' none := by
  have ba := atV_bd hf f.a
  have bb := atV_bd hf f.b
  have bc := atV_bd hf f.c
  have hN : Hid (partV vs f = dotV (atV vs f.a) (crossV (atV vs f.b) (atV vs f.c))) := rfl
  generalize partV vs f = N at *
  clear hf
  have hm := hl.1
  unfold maxLen at hm
  obtain ⟨i, j, k, hi, hj, hk, rfl, ea, eb, ec⟩ := inF_at hin
  rw [ea] at ba hN
  rw [eb] at bb hN
  rw [ec] at bc hN
  clear ea eb ec hin
  obtain ⟨g, o, rfl, hb0, hb1, hcell⟩ := hl.v3 (by omega)
  obtain ⟨x0, x1, x2⟩ := hcell i hi
  obtain ⟨y0, y1, y2⟩ := hcell j hj
  obtain ⟨z0, z1, z2⟩ := hcell k hk
  clear hcell
  have hb2 : g < w.heap.size + 1 := by omega
  have hb3 : g < w.heap.size + 1 + 1 := by omega
  have hb4 : g < w.heap.size + 1 + 1 + 1 := by omega
  generalize vs[i] = va at *
  generalize vs[j] = vb at *
  generalize vs[k] = vc at *
  generalize vs.length = n at *
  go_enter Try.func100, Try.ntmps100
  go_wp2_with fail
  obtain ⟨W, hW⟩ : ∃ W, W = (w.alloc (.cells #[.slice (some ⟨g, o, none⟩) n c, .slice B m d] 29)).alloc (.cells #[.int .i64 i, .int .i64 j, .int .i64 k] 67) := ⟨_, rfl⟩
  have hg : w.grownBy W none := by rw [hW]; exact (by repeat (first | exact World.grownBy.refl _ _ | assumption | refine gr_alloc ?_ _ | (apply gr_tail; assumption) | refine gr_drewN ?_ _ | refine gr_drew ?_))
  have b0 : W.cell? ⟨w.heap.size, 0, none⟩ = some (.slice (some ⟨g, o, none⟩) n c) := by rw [hW]; go_simp
  have b3 : W.cell? ⟨w.heap.size + 1, 0, none⟩ = some (.int .i64 i) := by rw [hW]; go_simp
  have b4 : W.cell? ⟨w.heap.size + 1, 1, none⟩ = some (.int .i64 j) := by rw [hW]; go_simp
  have b5 : W.cell? ⟨w.heap.size + 1, 2, none⟩ = some (.int .i64 k) := by rw [hW]; go_simp
  rw [← hW]
  clear hW
  replace x0 := hg.k x0
  replace x1 := hg.k x1
  replace x2 := hg.k x2
  replace y0 := hg.k y0
  replace y1 := hg.k y1
  replace y2 := hg.k y2
  replace z0 := hg.k z0
  replace z1 := hg.k z1
  replace z2 := hg.k z2
  refine wp_region_fix 20 ((fun wx => W.grownBy wx none)) (by kernel_rfl) (by kernel_rfl) (gr_drew (World.grownBy.refl _ _)) ?_
  simp only [List.take_succ_cons, List.take_zero, List.drop_succ_cons, List.drop_zero]
  iterate 18 ((refine fix_b (fun K hK => ?_); apply Exists.intro; refine ⟨fun wx hC K' hK' => ?_, ?_⟩; (focus (replace hK' := hide hK'; (have d0 := hC.k b0; have d3 := hC.k b3; have d4 := hC.k b4; have d5 := hC.k b5; have d6 := hC.k x0; have d7 := hC.k x1; have d8 := hC.k x2; have d9 := hC.k y0; have e1 := hC.k y1; have e2 := hC.k y2; have e3 := hC.k z0; have e4 := hC.k z1; have e5 := hC.k z2); go_wp2_with fail; exact hK'.out _ hC)); go_simp; refine hK _ ?_; clear hK K))
  (refine fix_b (fun K hK => ?_); apply Exists.intro; refine ⟨fun wx hC K' hK' => ?_, ?_⟩; (focus (replace hK' := hide hK'; skip; go_wp2_with fail; (refine (cross_any vb vc _ (bb.mono (by decide)) (bc.mono (by decide))).mono ?_; rintro e w' ⟨rfl, hg'⟩; go_wp2_with fail; exact hK'.out _ (gr_trans hC hg')))); go_simp; refine hK _ ?_; clear hK K)
  (refine fix_b (fun K hK => ?_); apply Exists.intro; refine ⟨fun wx hC K' hK' => ?_, ?_⟩; (focus (replace hK' := hide hK'; skip; go_wp2_with fail; (refine (dot_any va (crossV vb vc) _ ba ((bb.cross bc).mono (by decide))).mono ?_; rintro e w' ⟨rfl, hg'⟩; go_wp2_with fail; exact hK'.out _ (gr_trans hC hg')))); go_simp; refine hK _ ?_; clear hK K)
  refine fix_nil ?_
  intro wz hC
  go_wp2_with fail
  go_ret
  exact ⟨ret_int hN.out.symm, gr_trans hg hC⟩

end Go.Proofs.Ytjodjdjfagjiaaa

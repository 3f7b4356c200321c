/- Contracts of functions that this seat's laws reach, each: what one call returns and what it leaves in memory; no condition beyond each theorem's own hypotheses. -/
import Derived.Test.YtkcchcnljanloaaGreatZqMeshA
import Derived.Test.YtkcchcnljanloaaGreatZqFixM
set_option linter.unusedVariables false
set_option linter.unusedSimpArgs false
namespace Go.Proofs.YtkcchcnljanloaaGreat
open Go.RowKit Go.Bl

set_option maxHeartbeats 2000000 in
set_option maxRecDepth 100000 in
theorem normalOf_any (A : Option Addr) (c : Nat) (vs : List V3) (B : Option Addr) (m d : Nat) (f : Fc) (w : World) (hl : Sl w 0 A vs) (hf : vs.any farV = false) (hin : inF vs.length f = true) :
    Calls Tryz.prog 41 #[.agg #[.slice A vs.length c, .slice B m d], .agg #[.int .i64 f.a, .int .i64 f.b, .int .i64 f.c]] w fun e w' => e = .returned (.agg #[.int .i64 (normV vs f).x, .int .i64 (normV vs f).y, .int .i64 (normV vs f).z]) ∧ w.grownBy w' none := by
  have ba := atV_bd hf f.a
  have bb := atV_bd hf f.b
  have bc := atV_bd hf f.c
  have hN : Hid (normV vs f = crossV (lessV (atV vs f.b) (atV vs f.a)) (lessV (atV vs f.c) (atV vs f.a))) := rfl
  generalize normV vs f = N at *
  clear hf
  have hm := hl.1
  unfold maxLen at hm
  obtain ⟨i, j, k, hi, hj, hk, rfl, ea, eb, ec⟩ := inF_at hin
  rw [ea] at ba hN
  rw [eb] at bb hN
  rw [ec] at bc hN
  clear ea eb ec hin
  obtain ⟨g, o, rfl, hb0, hb1, hcell⟩ := hl.v3 (by omega)
  obtain ⟨x0, x1, x2⟩ := hcell i hi
  obtain ⟨y0, y1, y2⟩ := hcell j hj
  obtain ⟨z0, z1, z2⟩ := hcell k hk
  clear hcell
  have hb2 : g < w.heap.size + 1 := by omega
  have hb3 : g < w.heap.size + 1 + 1 := by omega
  have hb4 : g < w.heap.size + 1 + 1 + 1 := by omega
  generalize vs[i] = va at *
  generalize vs[j] = vb at *
  generalize vs[k] = vc at *
  generalize vs.length = n at *
  go_enter Tryz.func41, Tryz.ntmps41
  go_wp2_with fail
  obtain ⟨W, hW⟩ : ∃ W, W = (((w.alloc (.cells #[.slice (some ⟨g, o, none⟩) n c, .slice B m d] 29)).alloc (.cells #[.int .i64 i, .int .i64 j, .int .i64 k] 58)).alloc (.cells #[.int .i64 0, .int .i64 0, .int .i64 0] 38)).alloc (.cells #[.int .i64 va.x, .int .i64 va.y, .int .i64 va.z] 38) := ⟨_, rfl⟩
  have hg : w.grownBy W none := by rw [hW]; exact (by repeat (first | exact World.grownBy.refl _ _ | assumption | refine gr_alloc ?_ _ | (apply gr_tail; assumption) | refine gr_drewN ?_ _ | refine gr_drew ?_))
  have hz : w.heap.size + 1 + 1 < W.heap.size := by rw [hW]; simp
  have b0 : W.cell? ⟨w.heap.size, 0, none⟩ = some (.slice (some ⟨g, o, none⟩) n c) := by rw [hW]; go_simp
  have b3 : W.cell? ⟨w.heap.size + 1, 0, none⟩ = some (.int .i64 i) := by rw [hW]; go_simp
  have b4 : W.cell? ⟨w.heap.size + 1, 1, none⟩ = some (.int .i64 j) := by rw [hW]; go_simp
  have b5 : W.cell? ⟨w.heap.size + 1, 2, none⟩ = some (.int .i64 k) := by rw [hW]; go_simp
  have b6 : W.cell? ⟨w.heap.size + 1 + 1 + 1, 0, none⟩ = some (.int .i64 va.x) := by rw [hW]; go_simp
  have b7 : W.cell? ⟨w.heap.size + 1 + 1 + 1, 1, none⟩ = some (.int .i64 va.y) := by rw [hW]; go_simp
  have b8 : W.cell? ⟨w.heap.size + 1 + 1 + 1, 2, none⟩ = some (.int .i64 va.z) := by rw [hW]; go_simp
  have k0 : Cell W (w.heap.size + 1 + 1) 0 (.int .i64 0) := by rw [hW]; exact ⟨by go_simp, by go_simp⟩
  have k1 : Cell W (w.heap.size + 1 + 1) 1 (.int .i64 0) := by rw [hW]; exact ⟨by go_simp, by go_simp⟩
  have k2 : Cell W (w.heap.size + 1 + 1) 2 (.int .i64 0) := by rw [hW]; exact ⟨by go_simp, by go_simp⟩
  rw [← hW]
  clear hW
  replace y0 := hg.k y0
  replace y1 := hg.k y1
  replace y2 := hg.k y2
  replace z0 := hg.k z0
  replace z1 := hg.k z1
  replace z2 := hg.k z2
  refine wp_region_fix 17 ((fun wx => W.grownBy wx none)) (by kernel_rfl) (by kernel_rfl) (gr_drew (World.grownBy.refl _ _)) ?_
  simp only [List.take_succ_cons, List.take_zero, List.drop_succ_cons, List.drop_zero]
  iterate 7 ((refine fix_b (fun K hK => ?_); apply Exists.intro; refine ⟨fun wx hC K' hK' => ?_, ?_⟩; (focus (replace hK' := hide hK'; (have d0 := hC.k b0; have d3 := hC.k b3; have d4 := hC.k b4; have d5 := hC.k b5; have d6 := hC.k b6; have d7 := hC.k b7; have d8 := hC.k b8; have d9 := hC.k y0; have e1 := hC.k y1; have e2 := hC.k y2; have e3 := hC.k z0; have e4 := hC.k z1; have e5 := hC.k z2); go_wp2_with fail; exact hK'.out _ hC)); go_simp; refine hK _ ?_; clear hK K))
  (refine fix_b (fun K hK => ?_); apply Exists.intro; refine ⟨fun wx hC K' hK' => ?_, ?_⟩; (focus (replace hK' := hide hK'; (have d0 := hC.k b0; have d3 := hC.k b3; have d4 := hC.k b4; have d5 := hC.k b5; have d6 := hC.k b6; have d7 := hC.k b7; have d8 := hC.k b8; have d9 := hC.k y0; have e1 := hC.k y1; have e2 := hC.k y2; have e3 := hC.k z0; have e4 := hC.k z1; have e5 := hC.k z2); go_wp2_with fail; (refine (less_any vb va _ (bb.mono (by decide)) (ba.mono (by decide))).mono ?_; rintro e w' ⟨rfl, hg'⟩; go_wp2_with fail; exact hK'.out _ (gr_trans hC hg')))); go_simp; refine hK _ ?_; clear hK K)
  iterate 7 ((refine fix_b (fun K hK => ?_); apply Exists.intro; refine ⟨fun wx hC K' hK' => ?_, ?_⟩; (focus (replace hK' := hide hK'; (have d0 := hC.k b0; have d3 := hC.k b3; have d4 := hC.k b4; have d5 := hC.k b5; have d6 := hC.k b6; have d7 := hC.k b7; have d8 := hC.k b8; have d9 := hC.k y0; have e1 := hC.k y1; have e2 := hC.k y2; have e3 := hC.k z0; have e4 := hC.k z1; have e5 := hC.k z2); go_wp2_with fail; exact hK'.out _ hC)); go_simp; refine hK _ ?_; clear hK K))
  (refine fix_b (fun K hK => ?_); apply Exists.intro; refine ⟨fun wx hC K' hK' => ?_, ?_⟩; (focus (replace hK' := hide hK'; (have d0 := hC.k b0; have d3 := hC.k b3; have d4 := hC.k b4; have d5 := hC.k b5; have d6 := hC.k b6; have d7 := hC.k b7; have d8 := hC.k b8; have d9 := hC.k y0; have e1 := hC.k y1; have e2 := hC.k y2; have e3 := hC.k z0; have e4 := hC.k z1; have e5 := hC.k z2); go_wp2_with fail; (refine (less_any vc va _ (bc.mono (by decide)) (ba.mono (by decide))).mono ?_; rintro e w' ⟨rfl, hg'⟩; go_wp2_with fail; exact hK'.out _ (gr_trans hC hg')))); go_simp; refine hK _ ?_; clear hK K)
  (refine fix_b (fun K hK => ?_); apply Exists.intro; refine ⟨fun wx hC K' hK' => ?_, ?_⟩; (focus (replace hK' := hide hK'; (have d0 := hC.k b0; have d3 := hC.k b3; have d4 := hC.k b4; have d5 := hC.k b5; have d6 := hC.k b6; have d7 := hC.k b7; have d8 := hC.k b8; have d9 := hC.k y0; have e1 := hC.k y1; have e2 := hC.k y2; have e3 := hC.k z0; have e4 := hC.k z1; have e5 := hC.k z2); go_wp2_with fail; (refine (cross_any (lessV vb va) (lessV vc va) _ ((bb.less ba).mono (by decide)) ((bc.less ba).mono (by decide))).mono ?_; rintro e w' ⟨rfl, hg'⟩; go_wp2_with fail; exact hK'.out _ (gr_trans hC hg')))); go_simp; refine hK _ ?_; clear hK K)
  refine fix_nil ?_
  intro wz hC
  obtain ⟨k0, f0⟩ := k0.gr hC (by simp)
  obtain ⟨k1, f1⟩ := k1.gr hC (by simp)
  obtain ⟨k2, f2⟩ := k2.gr hC (by simp)
  go_wp2_with fail
  refine bodyPost_ret (v := .agg #[.int .i64 (crossV (lessV vb va) (lessV vc va)).x, .int .i64 (crossV (lessV vb va) (lessV vc va)).y, .int .i64 (crossV (lessV vb va) (lessV vc va)).z]) (by simp [results, Tryz.results41, go_sem, k0, k1, k2, f0, f1, f2]) rfl ⟨by rw [hN.out], ?_⟩
  exact gr_set (gr_set (gr_set (gr_trans hg hC) (.inr (show w.heap.size ≤ w.heap.size + 1 + 1 by omega)) _) (.inr (show w.heap.size ≤ w.heap.size + 1 + 1 by omega)) _) (.inr (show w.heap.size ≤ w.heap.size + 1 + 1 by omega)) _

/-- three cells of a vector -/
def Box3 (w : World) (g : Nat) (v : V3) : Prop := Cell w g 0 (.int .i64 v.x) ∧ Cell w g 1 (.int .i64 v.y) ∧ Cell w g 2 (.int .i64 v.z)

theorem Box3.set {w : World} {g : Nat} {v : V3} (h : Box3 w g v) (u : V3) : Box3 (((w.setCell ⟨g, 0, none⟩ (.int .i64 u.x)).setCell ⟨g, 1, none⟩ (.int .i64 u.y)).setCell ⟨g, 2, none⟩ (.int .i64 u.z)) g u :=
  ⟨((h.1.set_ _).set_ne _ (by decide)).set_ne _ (by decide), ((h.2.1.set_ne _ (by decide)).set_ _).set_ne _ (by decide), ((h.2.2.set_ne _ (by decide)).set_ne _ (by decide)).set_ _⟩

theorem gr_set3 {w : World} (g : Nat) (a b c : Value) : w.grownBy (((w.setCell ⟨g, 0, none⟩ a).setCell ⟨g, 1, none⟩ b).setCell ⟨g, 2, none⟩ c) (some g) :=
  have h1 := gr_set (r := some g) (p := ⟨g, 0, none⟩) (World.grownBy.refl w _) (.inl rfl) a
  have h2 := gr_set (p := ⟨g, 1, none⟩) h1 (.inl rfl) b
  gr_set (p := ⟨g, 2, none⟩) h2 (.inl rfl) c

theorem Box3.gr {w w' : World} {g : Nat} {r : Option Nat} {v : V3} (h : Box3 w g v) (hg : w.grownBy w' r) (hr : r ≠ some g) : Box3 w' g v := ⟨h.1.gr hg hr, h.2.1.gr hg hr, h.2.2.gr hg hr⟩

/-- three vectors are handed back -/
def CornI (w W : World) (va vb vc : V3) (m : Nat → Bool) (wx : World) : Prop :=
  w.grownBy wx none ∧ (∀ p v, p.block < w.heap.size + 1 + 1 → W.cell? p = some v → wx.cell? p = some v) ∧ Box3 wx (w.heap.size + 1 + 1) (if m 18 then va else ⟨0, 0, 0⟩) ∧ Box3 wx (w.heap.size + 1 + 1 + 1) (if m 19 then vb else ⟨0, 0, 0⟩) ∧ Box3 wx (w.heap.size + 1 + 1 + 1 + 1) (if m 20 then vc else ⟨0, 0, 0⟩)
section
variable {w W wx : World} {va vb vc : V3} {m : Nat → Bool}

theorem CornI.same {j : Nat} (hj : (j == 18) = false ∧ (j == 19) = false ∧ (j == 20) = false) (h : CornI w W va vb vc m wx) : CornI w W va vb vc (setm m j) wx := by
  obtain ⟨h1, h2, h3, h4, h5⟩ := h
  have e : ∀ i, (i == j) = false → setm m j i = m i := fun i hi => setm_ne hi
  have c : ∀ i : Nat, (j == i) = false → (i == j) = false := fun i hi => by simp at hi ⊢; omega
  exact ⟨h1, h2, by rw [e 18 (c _ hj.1)]; exact h3, by rw [e 19 (c _ hj.2.1)]; exact h4, by rw [e 20 (c _ hj.2.2)]; exact h5⟩

theorem CornI.grs {g : Nat} {a b c : Value} (h : CornI w W va vb vc m wx) (hg : w.heap.size + 1 + 1 ≤ g) : w.grownBy (((wx.setCell ⟨g, 0, none⟩ a).setCell ⟨g, 1, none⟩ b).setCell ⟨g, 2, none⟩ c) none ∧
    (∀ p v, p.block < w.heap.size + 1 + 1 → W.cell? p = some v → (((wx.setCell ⟨g, 0, none⟩ a).setCell ⟨g, 1, none⟩ b).setCell ⟨g, 2, none⟩ c).cell? p = some v) :=
  ⟨gr_new h.1 (gr_set3 g a b c) (by omega), fun p v hp hv => gr_cell (gr_set3 g a b c) (h.2.1 p v hp hv) (by intro e; cases e; omega)⟩

theorem CornI.st0 (h : CornI w W va vb vc m wx) : CornI w W va vb vc (setm m 18) (((wx.setCell ⟨w.heap.size + 1 + 1, 0, none⟩ (.int .i64 va.x)).setCell ⟨w.heap.size + 1 + 1, 1, none⟩ (.int .i64 va.y)).setCell ⟨w.heap.size + 1 + 1, 2, none⟩ (.int .i64 va.z)) := by
  have hx := gr_set3 (w := wx) (w.heap.size + 1 + 1) (.int .i64 va.x) (.int .i64 va.y) (.int .i64 va.z)
  have hs := h.grs (g := w.heap.size + 1 + 1) (a := .int .i64 va.x) (b := .int .i64 va.y) (c := .int .i64 va.z) (by omega)
  obtain ⟨h1, h2, h3, h4, h5⟩ := h
  refine ⟨hs.1, hs.2, ?_, ?_, ?_⟩
  · rw [if_pos setm_eq]; exact h3.set va
  · rw [setm_ne (by decide)]; exact h4.gr hx (by intro e; injection e with e; omega)
  · rw [setm_ne (by decide)]; exact h5.gr hx (by intro e; injection e with e; omega)

theorem CornI.st1 (h : CornI w W va vb vc m wx) : CornI w W va vb vc (setm m 19) (((wx.setCell ⟨w.heap.size + 1 + 1 + 1, 0, none⟩ (.int .i64 vb.x)).setCell ⟨w.heap.size + 1 + 1 + 1, 1, none⟩ (.int .i64 vb.y)).setCell ⟨w.heap.size + 1 + 1 + 1, 2, none⟩ (.int .i64 vb.z)) := by
  have hx := gr_set3 (w := wx) (w.heap.size + 1 + 1 + 1) (.int .i64 vb.x) (.int .i64 vb.y) (.int .i64 vb.z)
  have hs := h.grs (g := w.heap.size + 1 + 1 + 1) (a := .int .i64 vb.x) (b := .int .i64 vb.y) (c := .int .i64 vb.z) (by omega)
  obtain ⟨h1, h2, h3, h4, h5⟩ := h
  refine ⟨hs.1, hs.2, ?_, ?_, ?_⟩
  · rw [setm_ne (by decide)]; exact h3.gr hx (by intro e; injection e with e; omega)
  · rw [if_pos setm_eq]; exact h4.set vb
  · rw [setm_ne (by decide)]; exact h5.gr hx (by intro e; injection e with e; omega)

theorem CornI.st2 (h : CornI w W va vb vc m wx) : CornI w W va vb vc (setm m 20) (((wx.setCell ⟨w.heap.size + 1 + 1 + 1 + 1, 0, none⟩ (.int .i64 vc.x)).setCell ⟨w.heap.size + 1 + 1 + 1 + 1, 1, none⟩ (.int .i64 vc.y)).setCell ⟨w.heap.size + 1 + 1 + 1 + 1, 2, none⟩ (.int .i64 vc.z)) := by
  have hx := gr_set3 (w := wx) (w.heap.size + 1 + 1 + 1 + 1) (.int .i64 vc.x) (.int .i64 vc.y) (.int .i64 vc.z)
  have hs := h.grs (g := w.heap.size + 1 + 1 + 1 + 1) (a := .int .i64 vc.x) (b := .int .i64 vc.y) (c := .int .i64 vc.z) (by omega)
  obtain ⟨h1, h2, h3, h4, h5⟩ := h
  refine ⟨hs.1, hs.2, ?_, ?_, ?_⟩
  · rw [setm_ne (by decide)]; exact h3.gr hx (by intro e; injection e with e; omega)
  · rw [setm_ne (by decide)]; exact h4.gr hx (by intro e; injection e with e; omega)
  · rw [if_pos setm_eq]; exact h5.set vc
end

set_option maxHeartbeats 2000000 in
set_option maxRecDepth 100000 in
theorem corners_any (A : Option Addr) (c : Nat) (vs : List V3) (B : Option Addr) (m d : Nat) (f : Fc) (w : World) (hl : Sl w 0 A vs) (hin : inF vs.length f = true) :
    Calls Tryz.prog 51 #[.agg #[.slice A vs.length c, .slice B m d], .agg #[.int .i64 f.a, .int .i64 f.b, .int .i64 f.c]] w fun e w' => e = .returned (.tuple #[.agg #[.int .i64 (atV vs f.a).x, .int .i64 (atV vs f.a).y, .int .i64 (atV vs f.a).z], .agg #[.int .i64 (atV vs f.b).x, .int .i64 (atV vs f.b).y, .int .i64 (atV vs f.b).z], .agg #[.int .i64 (atV vs f.c).x, .int .i64 (atV vs f.c).y, .int .i64 (atV vs f.c).z]]) ∧ w.grownBy w' none := by
  have hm := hl.1
  unfold maxLen at hm
  obtain ⟨i, j, k, hi, hj, hk, rfl, ea, eb, ec⟩ := inF_at hin
  rw [ea, eb, ec]
  clear ea eb ec hin
  obtain ⟨g, o, rfl, hb0, hb1, hcell⟩ := hl.v3 (by omega)
  obtain ⟨x0, x1, x2⟩ := hcell i hi
  obtain ⟨y0, y1, y2⟩ := hcell j hj
  obtain ⟨z0, z1, z2⟩ := hcell k hk
  clear hcell
  have hb2 : g < w.heap.size + 1 := by omega
  have hb3 : g < w.heap.size + 1 + 1 := by omega
  have hb4 : g < w.heap.size + 1 + 1 + 1 := by omega
  generalize vs[i] = va at *
  generalize vs[j] = vb at *
  generalize vs[k] = vc at *
  generalize vs.length = n at *
  go_enter Tryz.func51, Tryz.ntmps51
  go_wp2_with fail
  obtain ⟨W, hW⟩ : ∃ W, W = ((((w.alloc (.cells #[.slice (some ⟨g, o, none⟩) n c, .slice B m d] 29)).alloc (.cells #[.int .i64 i, .int .i64 j, .int .i64 k] 58)).alloc (.cells #[.int .i64 0, .int .i64 0, .int .i64 0] 38)).alloc (.cells #[.int .i64 0, .int .i64 0, .int .i64 0] 38)).alloc (.cells #[.int .i64 0, .int .i64 0, .int .i64 0] 38) := ⟨_, rfl⟩
  have hg : w.grownBy W none := by rw [hW]; exact (by repeat (first | exact World.grownBy.refl _ _ | assumption | refine gr_alloc ?_ _ | (apply gr_tail; assumption) | refine gr_drewN ?_ _ | refine gr_drew ?_))
  have b0 : W.cell? ⟨w.heap.size, 0, none⟩ = some (.slice (some ⟨g, o, none⟩) n c) := by rw [hW]; go_simp
  have b3 : W.cell? ⟨w.heap.size + 1, 0, none⟩ = some (.int .i64 i) := by rw [hW]; go_simp
  have b4 : W.cell? ⟨w.heap.size + 1, 1, none⟩ = some (.int .i64 j) := by rw [hW]; go_simp
  have b5 : W.cell? ⟨w.heap.size + 1, 2, none⟩ = some (.int .i64 k) := by rw [hW]; go_simp
  have k0 : Cell W (w.heap.size + 1 + 1) 0 (.int .i64 0) := by rw [hW]; exact ⟨by go_simp, by go_simp⟩
  have k1 : Cell W (w.heap.size + 1 + 1) 1 (.int .i64 0) := by rw [hW]; exact ⟨by go_simp, by go_simp⟩
  have k2 : Cell W (w.heap.size + 1 + 1) 2 (.int .i64 0) := by rw [hW]; exact ⟨by go_simp, by go_simp⟩
  have k3 : Cell W (w.heap.size + 1 + 1 + 1) 0 (.int .i64 0) := by rw [hW]; exact ⟨by go_simp, by go_simp⟩
  have k4 : Cell W (w.heap.size + 1 + 1 + 1) 1 (.int .i64 0) := by rw [hW]; exact ⟨by go_simp, by go_simp⟩
  have k5 : Cell W (w.heap.size + 1 + 1 + 1) 2 (.int .i64 0) := by rw [hW]; exact ⟨by go_simp, by go_simp⟩
  have k6 : Cell W (w.heap.size + 1 + 1 + 1 + 1) 0 (.int .i64 0) := by rw [hW]; exact ⟨by go_simp, by go_simp⟩
  have k7 : Cell W (w.heap.size + 1 + 1 + 1 + 1) 1 (.int .i64 0) := by rw [hW]; exact ⟨by go_simp, by go_simp⟩
  have k8 : Cell W (w.heap.size + 1 + 1 + 1 + 1) 2 (.int .i64 0) := by rw [hW]; exact ⟨by go_simp, by go_simp⟩
  rw [← hW]
  clear hW
  replace x0 := hg.k x0
  replace x1 := hg.k x1
  replace x2 := hg.k x2
  replace y0 := hg.k y0
  replace y1 := hg.k y1
  replace y2 := hg.k y2
  replace z0 := hg.k z0
  replace z1 := hg.k z1
  replace z2 := hg.k z2
  refine wp_region_fixm (CornI w W va vb vc) (by kernel_rfl) (by kernel_rfl) ?fa ?fb
  case fa =>
    intro m hm0
    have e := gr_drew (r := none) (World.grownBy.refl W none)
    refine ⟨gr_trans hg e, fun p v _ h => e.k h, ?_, ?_, ?_⟩
    · rw [if_neg (by simp [hm0 18 (by decide)])]; exact ⟨k0.gr e (by simp), k1.gr e (by simp), k2.gr e (by simp)⟩
    · rw [if_neg (by simp [hm0 19 (by decide)])]; exact ⟨k3.gr e (by simp), k4.gr e (by simp), k5.gr e (by simp)⟩
    · rw [if_neg (by simp [hm0 20 (by decide)])]; exact ⟨k6.gr e (by simp), k7.gr e (by simp), k8.gr e (by simp)⟩
  case fb =>
    have hb5 : g < w.heap.size + 1 + 1 := hb3
    iterate 18 ((refine fixm_b (fun K hK => ?_); apply Exists.intro; refine ⟨fun wx m hmj hC K' hK' => ?_, ?_⟩; (focus (replace hK' := hide hK'; (have d0 := hC.2.1 _ _ (by simp only; omega) b0; have d3 := hC.2.1 _ _ (by simp only; omega) b3; have d4 := hC.2.1 _ _ (by simp only; omega) b4; have d5 := hC.2.1 _ _ (by simp only; omega) b5; have d6 := hC.2.1 _ _ hb5 x0; have d7 := hC.2.1 _ _ hb5 x1; have d8 := hC.2.1 _ _ hb5 x2; have d9 := hC.2.1 _ _ hb5 y0; have e1 := hC.2.1 _ _ hb5 y1; have e2 := hC.2.1 _ _ hb5 y2; have e3 := hC.2.1 _ _ hb5 z0; have e4 := hC.2.1 _ _ hb5 z1; have e5 := hC.2.1 _ _ hb5 z2); go_wp2_with fail; exact hK'.out _ (CornI.same (by decide) hC))); go_simp; refine hK _ ?_; clear hK K))
    (refine fixm_b (fun K hK => ?_); refine ⟨undef, fun wx m hmj hC K' hK' => ?_, ?_⟩; (focus (replace hK' := hide hK'; (have hC2 := hC; obtain ⟨_, _, h3, h4, h5⟩ := hC2; obtain ⟨⟨c0, g0⟩, ⟨c1, g1⟩, ⟨c2, g2⟩⟩ := h3); go_wp2_with fail; exact hK'.out _ hC.st0)); go_simp; refine hK _ ?_; clear hK K)
    (refine fixm_b (fun K hK => ?_); refine ⟨undef, fun wx m hmj hC K' hK' => ?_, ?_⟩; (focus (replace hK' := hide hK'; (have hC2 := hC; obtain ⟨_, _, h3, h4, h5⟩ := hC2; obtain ⟨⟨c0, g0⟩, ⟨c1, g1⟩, ⟨c2, g2⟩⟩ := h4); go_wp2_with fail; exact hK'.out _ hC.st1)); go_simp; refine hK _ ?_; clear hK K)
    (refine fixm_b (fun K hK => ?_); refine ⟨undef, fun wx m hmj hC K' hK' => ?_, ?_⟩; (focus (replace hK' := hide hK'; (have hC2 := hC; obtain ⟨_, _, h3, h4, h5⟩ := hC2; obtain ⟨⟨c0, g0⟩, ⟨c1, g1⟩, ⟨c2, g2⟩⟩ := h5); go_wp2_with fail; exact hK'.out _ hC.st2)); go_simp; refine hK _ ?_; clear hK K)
    refine fixm_nil ?_
    intro wz m hmm hC
    obtain ⟨h1, _, h3, h4, h5⟩ := hC
    rw [if_pos (hmm 18 (by decide))] at h3
    rw [if_pos (hmm 19 (by decide))] at h4
    rw [if_pos (hmm 20 (by decide))] at h5
    obtain ⟨⟨k0, f0⟩, ⟨k1, f1⟩, ⟨k2, f2⟩⟩ := h3
    obtain ⟨⟨k3, f3⟩, ⟨k4, f4⟩, ⟨k5, f5⟩⟩ := h4
    obtain ⟨⟨k6, f6⟩, ⟨k7, f7⟩, ⟨k8, f8⟩⟩ := h5
    go_wp2_with fail
    refine bodyPost_ret (v := .tuple #[.agg #[.int .i64 va.x, .int .i64 va.y, .int .i64 va.z], .agg #[.int .i64 vb.x, .int .i64 vb.y, .int .i64 vb.z], .agg #[.int .i64 vc.x, .int .i64 vc.y, .int .i64 vc.z]]) (by simp [results, Tryz.results51, go_sem, k0, k1, k2, k3, k4, k5, k6, k7, k8, f0, f1, f2, f3, f4, f5, f6, f7, f8]) rfl ⟨rfl, h1⟩

set_option maxHeartbeats 2000000 in
set_option maxRecDepth 100000 in
theorem normalRef_any (A : Option Addr) (c : Nat) (vs : List V3) (B : Option Addr) (m d : Nat) (f : Fc) (w : World) (hl : Sl w 0 A vs) (hf : vs.any farV = false) (hin : inF vs.length f = true) :
    Calls Tryz.prog 18 #[.agg #[.slice A vs.length c, .slice B m d], .agg #[.int .i64 f.a, .int .i64 f.b, .int .i64 f.c]] w fun e w' => e = .returned (.agg #[.int .i64 (normV vs f).x, .int .i64 (normV vs f).y, .int .i64 (normV vs f).z]) ∧ w.grownBy w' none := by
  have ba := atV_bd hf f.a
  have bb := atV_bd hf f.b
  have bc := atV_bd hf f.c
  have hN : Hid (normV vs f = crossV (lessV (atV vs f.b) (atV vs f.a)) (lessV (atV vs f.c) (atV vs f.a))) := rfl
  generalize normV vs f = N at *
  clear hf
  have hm := hl.1
  unfold maxLen at hm
  have hg0 := gr_alloc (gr_alloc (gr_alloc (World.grownBy.refl w none) (.cells #[.slice A vs.length c, .slice B m d] 29)) (.cells #[.int .i64 f.a, .int .i64 f.b, .int .i64 f.c] 58)) (.cells #[.int .i64 0, .int .i64 0, .int .i64 0] 38)
  have k0 : Cell (((w.alloc (.cells #[.slice A vs.length c, .slice B m d] 29)).alloc (.cells #[.int .i64 f.a, .int .i64 f.b, .int .i64 f.c] 58)).alloc (.cells #[.int .i64 0, .int .i64 0, .int .i64 0] 38)) (w.heap.size + 1 + 1) 0 (.int .i64 0) := ⟨by go_simp, by go_simp⟩
  have k1 : Cell (((w.alloc (.cells #[.slice A vs.length c, .slice B m d] 29)).alloc (.cells #[.int .i64 f.a, .int .i64 f.b, .int .i64 f.c] 58)).alloc (.cells #[.int .i64 0, .int .i64 0, .int .i64 0] 38)) (w.heap.size + 1 + 1) 1 (.int .i64 0) := ⟨by go_simp, by go_simp⟩
  have k2 : Cell (((w.alloc (.cells #[.slice A vs.length c, .slice B m d] 29)).alloc (.cells #[.int .i64 f.a, .int .i64 f.b, .int .i64 f.c] 58)).alloc (.cells #[.int .i64 0, .int .i64 0, .int .i64 0] 38)) (w.heap.size + 1 + 1) 2 (.int .i64 0) := ⟨by go_simp, by go_simp⟩
  go_enter Tryz.func18, Tryz.ntmps18
  go_wp2_with fail
  refine (corners_any A c vs B m d f _ (hl.pure hg0) hin).mono ?_
  rintro e w1 ⟨rfl, hg1⟩
  generalize atV vs f.a = va at *
  generalize atV vs f.b = vb at *
  generalize atV vs f.c = vc at *
  replace k0 := k0.gr hg1 (by simp)
  replace k1 := k1.gr hg1 (by simp)
  replace k2 := k2.gr hg1 (by simp)
  have hz := hg1.size
  simp at hz
  replace hg1 := gr_trans hg0 hg1
  clear hg0
  go_wp2_with fail
  obtain ⟨W, hW⟩ : ∃ W, W = ((w1.alloc (.cells #[.int .i64 va.x, .int .i64 va.y, .int .i64 va.z] 38)).alloc (.cells #[.int .i64 vb.x, .int .i64 vb.y, .int .i64 vb.z] 38)).alloc (.cells #[.int .i64 vc.x, .int .i64 vc.y, .int .i64 vc.z] 38) := ⟨_, rfl⟩
  have hg : w1.grownBy W none := by rw [hW]; exact (by repeat (first | exact World.grownBy.refl _ _ | assumption | refine gr_alloc ?_ _ | (apply gr_tail; assumption) | refine gr_drewN ?_ _ | refine gr_drew ?_))
  have b0 : W.cell? ⟨w1.heap.size, 0, none⟩ = some (.int .i64 va.x) := by rw [hW]; go_simp
  have b1 : W.cell? ⟨w1.heap.size, 1, none⟩ = some (.int .i64 va.y) := by rw [hW]; go_simp
  have b2 : W.cell? ⟨w1.heap.size, 2, none⟩ = some (.int .i64 va.z) := by rw [hW]; go_simp
  have b3 : W.cell? ⟨w1.heap.size + 1, 0, none⟩ = some (.int .i64 vb.x) := by rw [hW]; go_simp
  have b4 : W.cell? ⟨w1.heap.size + 1, 1, none⟩ = some (.int .i64 vb.y) := by rw [hW]; go_simp
  have b5 : W.cell? ⟨w1.heap.size + 1, 2, none⟩ = some (.int .i64 vb.z) := by rw [hW]; go_simp
  have b6 : W.cell? ⟨w1.heap.size + 1 + 1, 0, none⟩ = some (.int .i64 vc.x) := by rw [hW]; go_simp
  have b7 : W.cell? ⟨w1.heap.size + 1 + 1, 1, none⟩ = some (.int .i64 vc.y) := by rw [hW]; go_simp
  have b8 : W.cell? ⟨w1.heap.size + 1 + 1, 2, none⟩ = some (.int .i64 vc.z) := by rw [hW]; go_simp
  rw [← hW]
  clear hW
  refine wp_region_fix 7 ((fun wx => W.grownBy wx none)) (by kernel_rfl) (by kernel_rfl) (gr_drew (World.grownBy.refl _ _)) ?_
  simp only [List.take_succ_cons, List.take_zero, List.drop_succ_cons, List.drop_zero]
  iterate 2 ((refine fix_b (fun K hK => ?_); apply Exists.intro; refine ⟨fun wx hC K' hK' => ?_, ?_⟩; (focus (replace hK' := hide hK'; (have d0 := hC.k b0; have d1 := hC.k b1; have d2 := hC.k b2; have d3 := hC.k b3; have d4 := hC.k b4; have d5 := hC.k b5; have d6 := hC.k b6; have d7 := hC.k b7; have d8 := hC.k b8); go_wp2_with fail; exact hK'.out _ hC)); go_simp; refine hK _ ?_; clear hK K))
  (refine fix_b (fun K hK => ?_); apply Exists.intro; refine ⟨fun wx hC K' hK' => ?_, ?_⟩; (focus (replace hK' := hide hK'; skip; go_wp2_with fail; (refine (minus_any vb va _ (bb.mono (by decide)) (ba.mono (by decide))).mono ?_; rintro e w' ⟨rfl, hg'⟩; go_wp2_with fail; exact hK'.out _ (gr_trans hC hg')))); go_simp; refine hK _ ?_; clear hK K)
  iterate 2 ((refine fix_b (fun K hK => ?_); apply Exists.intro; refine ⟨fun wx hC K' hK' => ?_, ?_⟩; (focus (replace hK' := hide hK'; (have d0 := hC.k b0; have d1 := hC.k b1; have d2 := hC.k b2; have d3 := hC.k b3; have d4 := hC.k b4; have d5 := hC.k b5; have d6 := hC.k b6; have d7 := hC.k b7; have d8 := hC.k b8); go_wp2_with fail; exact hK'.out _ hC)); go_simp; refine hK _ ?_; clear hK K))
  (refine fix_b (fun K hK => ?_); apply Exists.intro; refine ⟨fun wx hC K' hK' => ?_, ?_⟩; (focus (replace hK' := hide hK'; skip; go_wp2_with fail; (refine (minus_any vc va _ (bc.mono (by decide)) (ba.mono (by decide))).mono ?_; rintro e w' ⟨rfl, hg'⟩; go_wp2_with fail; exact hK'.out _ (gr_trans hC hg')))); go_simp; refine hK _ ?_; clear hK K)
  (refine fix_b (fun K hK => ?_); apply Exists.intro; refine ⟨fun wx hC K' hK' => ?_, ?_⟩; (focus (replace hK' := hide hK'; skip; go_wp2_with fail; (refine (crossRef_any (lessV vb va) (lessV vc va) _ ((bb.less ba).mono (by decide)) ((bc.less ba).mono (by decide))).mono ?_; rintro e w' ⟨rfl, hg'⟩; go_wp2_with fail; exact hK'.out _ (gr_trans hC hg')))); go_simp; refine hK _ ?_; clear hK K)
  refine fix_nil ?_
  intro wz hC
  replace hC := gr_trans hg hC
  obtain ⟨k0, f0⟩ := k0.gr hC (by simp)
  obtain ⟨k1, f1⟩ := k1.gr hC (by simp)
  obtain ⟨k2, f2⟩ := k2.gr hC (by simp)
  go_wp2_with fail
  refine bodyPost_ret (v := .agg #[.int .i64 (crossV (lessV vb va) (lessV vc va)).x, .int .i64 (crossV (lessV vb va) (lessV vc va)).y, .int .i64 (crossV (lessV vb va) (lessV vc va)).z]) (by simp [results, Tryz.results18, go_sem, k0, k1, k2, f0, f1, f2]) rfl ⟨by rw [hN.out], ?_⟩
  repeat (first | exact gr_trans hg1 hC | refine gr_set ?_ (.inr (by simp only; omega)) _)

end Go.Proofs.YtkcchcnljanloaaGreat

namespace Go.Proofs.YtkcchcnljanloaaGreat
open Go.RowKit Go.Bl

def vecsF (vs : List V3) : Int := if vs.any farV then 1 else 0

theorem vecsF_no {l : List V3} (h : l.any farV = false) : vecsF l = 0 := by simp [vecsF, h]

theorem vecsF_yes {l : List V3} (h : l.any farV = true) : vecsF l = 1 := by simp [vecsF, h]

theorem anyV_snoc {l : List V3} {k : Nat} (h : k < l.length) : (l.take (k + 1)).any farV = ((l.take k).any farV || farV l[k]) := by rw [take_snoc h, List.any_append]; simp

theorem anyV_at {l : List V3} {k : Nat} (h : k < l.length) (hf : farV l[k] = true) : l.any farV = true := List.any_eq_true.2 ⟨_, List.getElem_mem _, hf⟩

theorem anyZ_snoc {l : List Int} {k : Nat} (h : k < l.length) : (l.take (k + 1)).any farZ = ((l.take k).any farZ || farZ l[k]) := by rw [take_snoc h, List.any_append]; simp

theorem anyZ_at {l : List Int} {k : Nat} (h : k < l.length) (hf : farZ l[k] = true) : l.any farZ = true := List.any_eq_true.2 ⟨_, List.getElem_mem _, hf⟩

theorem farZ_in (n : Int) : farZ n = !inB n (-100000) 100000 := by
  unfold farZ inB
  by_cases h1 : n < -100000 <;> by_cases h2 : 100000 < n <;> simp [h1, h2] <;> omega

def xyz (v : V3) : List Int := [v.x, v.y, v.z]

theorem farV_xyz (v : V3) : farV v = (xyz v).any farZ := by simp [farV, xyz, Bool.or_assoc]

theorem _root_.Go.Bl.Sl.int_at {w : World} {lo g o : Nat} {l : List Int} (h : Sl w lo (some ⟨g, o, none⟩) l) {k : Nat} (hk : k < l.length) : w.cell? ⟨g, o + k, none⟩ = some (.int .i64 l[k]) := by
  obtain ⟨g', o', c, e, _, _, rfl, hc⟩ := h.at_ (by decide) hk
  cases e
  have := hc 0 _ rfl
  rwa [show Enc.sz Int = 1 from rfl, Nat.mul_one] at this

set_option maxHeartbeats 800000 in
theorem vecFault_any (A : Option Addr) (c : Nat) (l : List V3) (w : World) (hl : Sl w 0 A l) :
    Calls Tryz.prog 33 #[.slice A l.length c] w fun e w' => e = .returned (.int .i64 (vecsF l)) ∧ w.grownBy w' none := by
  have hm := hl.1
  unfold maxLen at hm
  go_enter Tryz.func33, Tryz.ntmps33
  go_wp2
  go_loopw [9] (fun i wr => ∃ k : Nat, k ≤ l.length ∧ i = .int .i64 k ∧ w.grownBy wr none ∧ Hid ((l.take k).any farV = false)) (fun i _ => l.length - (intOf i).toNat)
  case atStart => exact ⟨0, Nat.zero_le _, rfl, World.grownBy.refl _ _, by simp [Hid]⟩
  case round =>
    obtain ⟨k, hk, rfl, hg, hall⟩ := hrel
    by_cases hlt : k < l.length
    · obtain ⟨g, o, cx, rfl, hb0, hb1, rfl, hc⟩ := (hl.pure hg).at_ (by decide) hlt
      have v0 : wr.cell? ⟨g, o + k * 3, none⟩ = some (.int .i64 l[k].x) := hc 0 _ rfl
      have v1 : wr.cell? ⟨g, o + k * 3 + 1, none⟩ = some (.int .i64 l[k].y) := hc 1 _ rfl
      have v2 : wr.cell? ⟨g, o + k * 3 + 2, none⟩ = some (.int .i64 l[k].z) := hc 2 _ rfl
      clear hc
      have HF := hide (farV_xyz l[k])
      have HS := hide (anyV_snoc hlt)
      have HA : Hid (farV l[k] = true → l.any farV = true) := anyV_at hlt
      have hx : Hid (xyz l[k] = [l[k].x, l[k].y, l[k].z]) := rfl
      generalize l[k] = v at *
      go_wp2_with fail
      have hq : Sl ((wr.alloc (.cells #[.int .i64 v.x, .int .i64 v.y, .int .i64 v.z] 38)).alloc (.cells #[.int .i64 v.x, .int .i64 v.y, .int .i64 v.z] 3)) 0 (some ⟨wr.heap.size + 1, 0, none⟩) (xyz v) := by
        rw [hx.out]; exact sl_intsAt _ _ _ _ _ (by simp) (Nat.zero_le _) (by simp [maxLen])
      have hgq := gr_alloc (gr_alloc hg (.cells #[.int .i64 v.x, .int .i64 v.y, .int .i64 v.z] 38)) (.cells #[.int .i64 v.x, .int .i64 v.y, .int .i64 v.z] 3)
      have hl3 : (xyz v).length = 3 := rfl
      clear hx v0 v1 v2
      generalize xyz v = q at *
      generalize hW : (wr.alloc (.cells #[.int .i64 v.x, .int .i64 v.y, .int .i64 v.z] 38)).alloc (.cells #[.int .i64 v.x, .int .i64 v.y, .int .i64 v.z] 3) = W at *
      have hWW := World.grownBy.refl W none
      clear hW
      go_loopw [21] (fun i wr => ∃ j : Nat, j ≤ 3 ∧ i = .int .i64 j ∧ w.grownBy wr none ∧ W.grownBy wr none ∧ Hid ((q.take j).any farZ = false)) (fun i _ => 3 - (intOf i).toNat)
      case atStart => exact ⟨0, by omega, rfl, hgq, hWW, by simp [Hid]⟩
      case round =>
        obtain ⟨j, hj, rfl, hgr, hgW, hall2⟩ := hrel
        by_cases hjt : j < 3
        · have c0 := (hq.pure hgW).int_at (show j < q.length by omega)
          rw [Nat.zero_add] at c0
          have HS2 := hide (anyZ_snoc (show j < q.length by omega))
          have HA2 : Hid (farZ (q[j]'(by omega)) = true → q.any farZ = true) := anyZ_at (show j < q.length by omega)
          have HI := hide (farZ_in (q[j]'(by omega)))
          go_wp2_with (go_at_call 34; refine (in_any _ _ _ _).mono ?_; rintro e w' ⟨rfl, rfl⟩)
          all_goals first
            | (go_ret; exact ⟨ret_int (vecsF_yes (HA.out (by rw [HF.out]; exact HA2.out (by rw [HI.out]; simp [*])))).symm, (by repeat (first | exact World.grownBy.refl _ _ | assumption | refine gr_alloc ?_ _ | refine gr_drewN ?_ _ | refine gr_drew ?_))⟩)
            | (go_roundw; (case rel => exact ⟨j + 1, by omega, by go_num, (by repeat (first | exact World.grownBy.refl _ _ | assumption | refine gr_alloc ?_ _ | refine gr_drewN ?_ _ | refine gr_drew ?_)), (by repeat (first | exact World.grownBy.refl _ _ | assumption | refine gr_alloc ?_ _ | refine gr_drewN ?_ _ | refine gr_drew ?_)), by simp only [Hid]; rw [HS2.out, hall2.out, HI.out]; simp [*]⟩); (case measure => simp [intOf]; omega))
        · have HN : Hid (farV v = false) := by rw [Hid, HF.out]; have := hall2.out; rwa [List.take_of_length_le (by omega)] at this
          have hj3 : j = 3 := by omega
          subst hj3
          go_wp2
          (go_roundw; (case rel => exact ⟨k + 1, by omega, by go_num, hgr, by simp only [Hid]; rw [HS.out, hall.out, HN.out]; rfl⟩); (case measure => simp [intOf]; omega))
    · have HB : Hid (vecsF l = 0) := vecsF_no (by have := hall.out; rwa [List.take_of_length_le (by omega)] at this)
      go_wp2
      go_ret
      exact ⟨ret_int HB.out.symm, hg⟩

end Go.Proofs.YtkcchcnljanloaaGreat

namespace Go.Proofs.YtkcchcnljanloaaGreat
open Go.RowKit Go.Bl

def abc (f : Fc) : List Int := [f.a, f.b, f.c]

theorem inF_abc (n : Nat) (f : Fc) : inF n f = (abc f).all (inI n) := by simp [inF, abc, Bool.and_assoc]

theorem allI_snoc {n : Nat} {l : List Int} {k : Nat} (h : k < l.length) : (l.take (k + 1)).all (inI n) = ((l.take k).all (inI n) && inI n l[k]) := by rw [take_snoc h, List.all_append]; simp

theorem allI_not {n : Nat} {l : List Int} {k : Nat} (h : k < l.length) (hf : inI n l[k] = false) : l.all (inI n) = false := by
  rw [List.all_eq_false]; exact ⟨_, List.getElem_mem h, by simp [hf]⟩

theorem faceF_out {l : List V3} {f : Fc} (h : inF l.length f = false) : faceF l f = 8 := by unfold faceF; rw [h]; rfl

theorem faceF_flat {l : List V3} {f : Fc} (h : inF l.length f = true) (h2 : normV l f = ⟨0, 0, 0⟩) : faceF l f = 3 := by unfold faceF; rw [h, if_pos rfl, if_pos h2]

theorem faceF_ok {l : List V3} {f : Fc} (h : inF l.length f = true) (h2 : normV l f ≠ ⟨0, 0, 0⟩) : faceF l f = 0 := by unfold faceF; rw [h, if_pos rfl, if_neg h2]

theorem v3_zero (v : V3) : v = ⟨0, 0, 0⟩ ↔ v.x = 0 ∧ v.y = 0 ∧ v.z = 0 := by cases v; simp

set_option maxHeartbeats 2000000 in
theorem faceFault_any (A : Option Addr) (c : Nat) (l : List V3) (B : Option Addr) (m d : Nat) (f : Fc) (w : World) (hl : Sl w 0 A l) (hf : l.any farV = false) :
    Calls Tryz.prog 61 #[.agg #[.slice A l.length c, .slice B m d], .agg #[.int .i64 f.a, .int .i64 f.b, .int .i64 f.c]] w fun e w' => e = .returned (.int .i64 (faceF l f)) ∧ w.grownBy w' none := by
  have hm := hl.1
  unfold maxLen at hm
  have hx : Hid (abc f = [f.a, f.b, f.c]) := rfl
  have hF := hide (inF_abc l.length f)
  go_enter Tryz.func61, Tryz.ntmps61
  go_wp2_with fail
  have hq : Sl (((w.alloc (.cells #[.slice A l.length c, .slice B m d] 29)).alloc (.cells #[.int .i64 f.a, .int .i64 f.b, .int .i64 f.c] 58)).alloc (.cells #[.int .i64 f.a, .int .i64 f.b, .int .i64 f.c] 3)) 0 (some ⟨w.heap.size + 1 + 1, 0, none⟩) (abc f) := by
    rw [hx.out]; exact sl_intsAt _ _ _ _ _ (by simp) (Nat.zero_le _) (by simp [maxLen])
  have hgq := gr_alloc (gr_alloc (gr_alloc (World.grownBy.refl w none) (.cells #[.slice A l.length c, .slice B m d] 29)) (.cells #[.int .i64 f.a, .int .i64 f.b, .int .i64 f.c] 58)) (.cells #[.int .i64 f.a, .int .i64 f.b, .int .i64 f.c] 3)
  have b0 : (((w.alloc (.cells #[.slice A l.length c, .slice B m d] 29)).alloc (.cells #[.int .i64 f.a, .int .i64 f.b, .int .i64 f.c] 58)).alloc (.cells #[.int .i64 f.a, .int .i64 f.b, .int .i64 f.c] 3)).cell? ⟨w.heap.size, 0, none⟩ = some (.slice A l.length c) := by go_simp
  have b1 : (((w.alloc (.cells #[.slice A l.length c, .slice B m d] 29)).alloc (.cells #[.int .i64 f.a, .int .i64 f.b, .int .i64 f.c] 58)).alloc (.cells #[.int .i64 f.a, .int .i64 f.b, .int .i64 f.c] 3)).cell? ⟨w.heap.size, 1, none⟩ = some (.slice B m d) := by go_simp
  have b2 : (((w.alloc (.cells #[.slice A l.length c, .slice B m d] 29)).alloc (.cells #[.int .i64 f.a, .int .i64 f.b, .int .i64 f.c] 58)).alloc (.cells #[.int .i64 f.a, .int .i64 f.b, .int .i64 f.c] 3)).cell? ⟨w.heap.size + 1, 0, none⟩ = some (.int .i64 f.a) := by go_simp
  have b3 : (((w.alloc (.cells #[.slice A l.length c, .slice B m d] 29)).alloc (.cells #[.int .i64 f.a, .int .i64 f.b, .int .i64 f.c] 58)).alloc (.cells #[.int .i64 f.a, .int .i64 f.b, .int .i64 f.c] 3)).cell? ⟨w.heap.size + 1, 1, none⟩ = some (.int .i64 f.b) := by go_simp
  have b4 : (((w.alloc (.cells #[.slice A l.length c, .slice B m d] 29)).alloc (.cells #[.int .i64 f.a, .int .i64 f.b, .int .i64 f.c] 58)).alloc (.cells #[.int .i64 f.a, .int .i64 f.b, .int .i64 f.c] 3)).cell? ⟨w.heap.size + 1, 2, none⟩ = some (.int .i64 f.c) := by go_simp
  have hl3 : (abc f).length = 3 := rfl
  clear hx
  generalize hqq : abc f = q at *
  clear hqq
  generalize ((w.alloc (.cells #[.slice A l.length c, .slice B m d] 29)).alloc (.cells #[.int .i64 f.a, .int .i64 f.b, .int .i64 f.c] 58)).alloc (.cells #[.int .i64 f.a, .int .i64 f.b, .int .i64 f.c] 3) = W at *
  have hWW := World.grownBy.refl W none
  go_loopw [15] (fun i wr => ∃ j : Nat, j ≤ 3 ∧ i = .int .i64 j ∧ w.grownBy wr none ∧ W.grownBy wr none ∧ Hid ((q.take j).all (inI l.length) = true)) (fun i _ => 3 - (intOf i).toNat)
  case atStart => exact ⟨0, by omega, rfl, hgq, hWW, by simp [Hid]⟩
  case round =>
    obtain ⟨j, hj, rfl, hgr, hgW, hall⟩ := hrel
    replace b0 := hgW.k b0
    replace b1 := hgW.k b1
    replace b2 := hgW.k b2
    replace b3 := hgW.k b3
    replace b4 := hgW.k b4
    by_cases hjt : j < 3
    · have c0 := (hq.pure hgW).int_at (show j < q.length by omega)
      rw [Nat.zero_add] at c0
      have HS := hide (allI_snoc (n := l.length) (show j < q.length by omega))
      have HA : Hid (inI l.length (q[j]'(by omega)) = false → q.all (inI l.length) = false) := allI_not (show j < q.length by omega)
      have HI : Hid (inI l.length (q[j]'(by omega)) = (decide (0 ≤ q[j]'(by omega)) && decide (q[j]'(by omega) < l.length))) := rfl
      have hFo : Hid (inF l.length f = false → faceF l f = 8) := faceF_out
      clear hf
      go_wp2
      all_goals first
        | (go_ret; exact ⟨ret_int (hFo.out (by rw [hF.out]; exact HA.out (by rw [HI.out]; simp; omega))).symm, (by repeat (first | exact World.grownBy.refl _ _ | assumption | refine gr_alloc ?_ _ | refine gr_drewN ?_ _ | refine gr_drew ?_))⟩)
        | (go_roundw; (case rel => exact ⟨j + 1, by omega, by go_num, (by repeat (first | exact World.grownBy.refl _ _ | assumption | refine gr_alloc ?_ _ | refine gr_drewN ?_ _ | refine gr_drew ?_)), (by repeat (first | exact World.grownBy.refl _ _ | assumption | refine gr_alloc ?_ _ | refine gr_drewN ?_ _ | refine gr_drew ?_)), by simp only [Hid]; rw [HS.out, hall.out, HI.out]; simp; omega⟩); (case measure => simp [intOf]; omega))
    · have hin : inF l.length f = true := by rw [hF.out]; have := hall.out; rwa [List.take_of_length_le (by omega)] at this
      have hin2 := hide hin
      have hf2 := hide hf
      have HE : Hid (f.a = f.b ∨ f.b = f.c ∨ f.c = f.a → faceF l f = 3) := fun h => faceF_flat hin (norm_eq h)
      have HZ : Hid ((normV l f).x = 0 ∧ (normV l f).y = 0 ∧ (normV l f).z = 0 → faceF l f = 3) := fun h => faceF_flat hin ((v3_zero _).2 h)
      have HO : Hid (¬ ((normV l f).x = 0 ∧ (normV l f).y = 0 ∧ (normV l f).z = 0) → faceF l f = 0) := fun h => faceF_ok hin (fun e => h ((v3_zero _).1 e))
      clear hin hf
      have hj3 : j = 3 := by omega
      subst hj3
      go_wp2_with (go_at_call 41; refine (normalOf_any A c l B m d f _ (hl.pure (by repeat (first | exact World.grownBy.refl _ _ | assumption | refine gr_alloc ?_ _ | refine gr_drewN ?_ _ | refine gr_drew ?_))) hf2.out hin2.out).mono ?_; rintro e w' ⟨rfl, hg'⟩; generalize normV l f = N at *)
      all_goals first
        | (go_ret; exact ⟨ret_int (HE.out (by omega)).symm, (by repeat (first | exact World.grownBy.refl _ _ | assumption | refine gr_alloc ?_ _ | (apply gr_tail; assumption) | refine gr_drewN ?_ _ | refine gr_drew ?_))⟩)
        | (go_ret; exact ⟨ret_int (HZ.out (by omega)).symm, (by repeat (first | exact World.grownBy.refl _ _ | assumption | refine gr_alloc ?_ _ | (apply gr_tail; assumption) | refine gr_drewN ?_ _ | refine gr_drew ?_))⟩)
        | (exfalso; rename_i h; simp [*] at h; done)
        | (go_ret; exact ⟨ret_int (HO.out (by omega)).symm, (by repeat (first | exact World.grownBy.refl _ _ | assumption | refine gr_alloc ?_ _ | (apply gr_tail; assumption) | refine gr_drewN ?_ _ | refine gr_drew ?_))⟩)
        | trace_state

end Go.Proofs.YtkcchcnljanloaaGreat

namespace Go.Proofs.YtkcchcnljanloaaGreat
open Go.RowKit Go.Bl

theorem _root_.Go.Bl.sl_litAt {α : Type} [Enc α] (w : World) (lo : Nat) (cs : List Value) (t : TypeId) (l : List α) (g : Nat) (hg : g = w.heap.size) (hlo : lo ≤ w.heap.size) (hm : l.length ≤ maxLen) (hr : Row (w.alloc (.cells cs.toArray t)) lo l cs) :
    Sl (w.alloc (.cells cs.toArray t)) lo (some ⟨g, 0, none⟩) l := by
  subst hg
  exact sl_lit w lo cs t l hlo hm hr

set_option maxHeartbeats 800000 in
theorem sides_any (f : Fc) (w : World) :
    Calls Tryz.prog 62 #[.agg #[.int .i64 f.a, .int .i64 f.b, .int .i64 f.c]] w fun e w' => e = .returned (.agg #[.int .i64 f.a, .int .i64 f.b, .int .i64 f.b, .int .i64 f.c, .int .i64 f.c, .int .i64 f.a]) ∧ w.grownBy w' none := by
  go_enter Tryz.func62, Tryz.ntmps62
  go_wp2_with fail
  refine bodyPost_ret (v := .agg #[.int .i64 f.a, .int .i64 f.b, .int .i64 f.b, .int .i64 f.c, .int .i64 f.c, .int .i64 f.a]) (by simp [results, Tryz.results62, go_sem]) rfl ⟨rfl, (by repeat (first | exact World.grownBy.refl _ _ | assumption | refine gr_alloc ?_ _ | (apply gr_tail; assumption) | refine gr_drewN ?_ _ | refine gr_drew ?_))⟩

set_option maxHeartbeats 800000 in
theorem sidesOf_any (f : Fc) (w : World) :
    Calls Tryz.prog 35 #[.agg #[.int .i64 f.a, .int .i64 f.b, .int .i64 f.c]] w fun e w' => ∃ A, e = .returned (.slice A 3 3) ∧ Sl w' w.heap.size A (sdsOf f) ∧ w.grownBy w' none := by
  go_enter Tryz.func35, Tryz.ntmps35
  go_wp2_with fail
  go_ret
  exact ⟨_, rfl, sl_litAt _ _ _ _ _ _ (by simp) (by simp) (by simp [sdsOf, maxLen]) ⟨_, _, rfl, rfl, _, _, rfl, rfl, _, _, rfl, rfl, rfl⟩, (by repeat (first | exact World.grownBy.refl _ _ | assumption | refine gr_alloc ?_ _ | (apply gr_tail; assumption) | refine gr_drewN ?_ _ | refine gr_drew ?_))⟩

theorem notin_snoc {l : List Sd} {s : Sd} {k : Nat} (h : k < l.length) (h1 : s ∉ l.take k) (h2 : s ≠ l[k]) : s ∉ l.take (k + 1) := by
  rw [take_snoc h, List.mem_append]
  rintro (e | e)
  · exact h1 e
  · exact h2 (List.mem_singleton.1 e)

set_option maxHeartbeats 800000 in
theorem indexSide_any (A : Option Addr) (c : Nat) (l : List Sd) (s : Sd) (w : World) (hl : Sl w 0 A l) :
    Calls Tryz.prog 59 #[.slice A l.length c, .agg #[.int .i64 s.u, .int .i64 s.v]] w fun e w' => ∃ r : Int, e = .returned (.int .i64 r) ∧ decide (0 ≤ r) = decide (s ∈ l) ∧ w.grownBy w' none := by
  have hm := hl.1
  unfold maxLen at hm
  have hg0 := gr_alloc (World.grownBy.refl w none) (.cells #[.int .i64 s.u, .int .i64 s.v] 63)
  have b0 := hide ((Cell.new w [.int .i64 s.u, .int .i64 s.v] 63 0 _ rfl _ rfl).1)
  have b1 := hide ((Cell.new w [.int .i64 s.u, .int .i64 s.v] 63 1 _ rfl _ rfl).1)
  go_enter Tryz.func59, Tryz.ntmps59
  go_wp2_with fail
  generalize w.alloc (.cells #[.int .i64 s.u, .int .i64 s.v] 63) = W at *
  have hWW := World.grownBy.refl W none
  go_loopw [8] (fun i wr => ∃ k : Nat, k ≤ l.length ∧ i = .int .i64 k ∧ w.grownBy wr none ∧ W.grownBy wr none ∧ Hid (s ∉ l.take k)) (fun i _ => l.length - (intOf i).toNat)
  case atStart => exact ⟨0, Nat.zero_le _, rfl, hg0, hWW, by simp [Hid]⟩
  case round =>
    obtain ⟨k, hk, rfl, hg, hgW, hall⟩ := hrel
    replace b0 := hgW.k b0.out
    replace b1 := hgW.k b1.out
    by_cases hlt : k < l.length
    · obtain ⟨g, o, cx, rfl, hb0, hb1, rfl, hc⟩ := (hl.pure hg).at_ (by decide) hlt
      have v0 : wr.cell? ⟨g, o + k * 2, none⟩ = some (.int .i64 l[k].u) := hc 0 _ rfl
      have v1 : wr.cell? ⟨g, o + k * 2 + 1, none⟩ = some (.int .i64 l[k].v) := hc 1 _ rfl
      clear hc
      have HI : Hid (l[k].u = s.u → l[k].v = s.v → s ∈ l) := fun h1 h2 => by
        have : s = l[k] := by cases hh : l[k]; cases s; simp_all
        rw [this]; exact List.getElem_mem _
      have HN : Hid (¬ (s.u = l[k].u ∧ s.v = l[k].v) → s ∉ l.take (k + 1)) := fun h => notin_snoc hlt hall.out (fun e => h (by rw [e]; exact ⟨rfl, rfl⟩))
      generalize l[k] = y at *
      go_wp2_with fail
      refine wp_region_fix 5 ((fun wx => wr.grownBy wx none)) (by kernel_rfl) (by kernel_rfl) (gr_drew (World.grownBy.refl _ _)) ?_
      simp only [List.take_succ_cons, List.take_zero, List.drop_succ_cons, List.drop_zero]
      iterate 5 ((refine fix_b (fun K hK => ?_); apply Exists.intro; refine ⟨fun wx hC K' hK' => ?_, ?_⟩; (focus (replace hK' := hide hK'; (have c0 := hC.k b0; have c1 := hC.k b1; have c2 := hC.k v0; have c3 := hC.k v1); go_wp2_with fail; exact hK'.out _ hC)); go_simp; refine hK _ ?_; clear hK K))
      refine fix_nil ?_
      intro wz hC
      replace hg := gr_trans hg hC
      replace hgW := gr_trans hgW hC
      obtain ⟨su, sv⟩ := s
      obtain ⟨yu, yv⟩ := y
      simp only at *
      by_cases h1 : su = yu
      · subst h1
        by_cases h2 : sv = yv
        · subst h2
          go_wp2
          go_ret
          exact ⟨k, rfl, by have hX := HI.out trivial trivial; simp [hX], hg⟩
        · go_wp2
          go_roundw
          case rel => exact ⟨k + 1, by omega, by go_num, hg, hgW, HN.out (fun h => h2 h.2)⟩
          case measure => simp [intOf]; omega
      · go_wp2
        go_roundw
        case rel => exact ⟨k + 1, by omega, by go_num, hg, hgW, HN.out (fun h => h1 h.1)⟩
        case measure => simp [intOf]; omega
    · have HB : s ∉ l := by have := hall.out; rwa [List.take_of_length_le (by omega)] at this
      go_wp2
      go_ret
      exact ⟨-1, rfl, by simp [HB], hg⟩

set_option maxHeartbeats 800000 in
theorem containsSide_any (A : Option Addr) (n c : Nat) (l : List Sd) (s : Sd) (w : World) (hl : Sl w 0 A l) (hn : l.length = n) :
    Calls Tryz.prog 36 #[.slice A n c, .agg #[.int .i64 s.u, .int .i64 s.v]] w fun e w' => e = .returned (.bool (decide (s ∈ l))) ∧ w.grownBy w' none := by
  subst hn
  have hg0 := gr_alloc (World.grownBy.refl w none) (.cells #[.int .i64 s.u, .int .i64 s.v] 63)
  go_enter Tryz.func36, Tryz.ntmps36
  go_wp2_with fail
  refine (indexSide_any A c l s _ (hl.pure hg0)).mono ?_
  rintro e w1 ⟨r, rfl, hr, hg⟩
  replace hr := hide hr
  go_wp2_with fail
  go_ret
  exact ⟨ret_bool hr.out, gr_trans hg0 hg⟩

end Go.Proofs.YtkcchcnljanloaaGreat

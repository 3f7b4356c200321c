/- Contracts of functions that this seat's laws reach, each: what one call returns and what it leaves in memory; no condition beyond each theorem's own hypotheses. -/
import Derived.Test.YtjodjdjfagjiaaaMeshA
import Derived.Test.YtjodjdjfagjiaaaFixM
set_option linter.unusedVariables false
set_option linter.unusedSimpArgs false
namespace Go.Proofs.Ytjodjdjfagjiaaa
open Go.RowKit Go.Bl

set_option maxHeartbeats 2000000 in
set_option maxRecDepth 100000 in
theorem normalOf_any (A : Option Addr) (c : Nat) (vs : List V3) (B : Option Addr) (m d : Nat) (f : Fc) (w : World) (hl : Sl w 0 A vs) (hf : vs.any farV = false) (hin : inF vs.length f = true) :
    Calls Try.prog 51 #[.agg #[.slice A vs.length c, .slice B m d], .agg #[.int .i64 f.a, .int .i64 f.b, .int .i64 f.c]] w fun e w' => e = .returned (.agg #[.int .i64 (normV vs f).x, .int .i64 (normV vs f).y, .int .i64 (normV vs f).z]) ∧ w.grownBy w' none := by
  have ba := atV_bd hf f.a
  have bb := atV_bd hf f.b
  have bc := atV_bd hf f.c
  have hN : Hid (normV vs f = crossV (lessV (atV vs f.b) (atV vs f.a)) (lessV (atV vs f.c) (atV vs f.a))) := rfl
  generalize normV vs f = N at *
  clear hf
  have hm := hl.1
  unfold maxLen at hm
  obtain ⟨i, j, k, hi, hj, hk, rfl, ea, eb, ec⟩ := inF_at hin
  rw [ea] at ba hN
  rw [eb] at bb hN
  rw [ec] at bc hN
  clear ea eb ec hin
  obtain ⟨g, o, rfl, hb0, hb1, hcell⟩ := hl.v3 (by omega)
  obtain ⟨x0, x1, x2⟩ := hcell i hi
  obtain ⟨y0, y1, y2⟩ := hcell j hj
  obtain ⟨z0, z1, z2⟩ := hcell k hk
  clear hcell
  have hb2 : g < w.heap.size + 1 := by omega
  have hb3 : g < w.heap.size + 1 + 1 := by omega
  have hb4 : g < w.heap.size + 1 + 1 + 1 := by omega
  generalize vs[i] = va at *
  generalize vs[j] = vb at *
  generalize vs[k] = vc at *
  generalize vs.length = n at *
  go_enter Try.func51, Try.ntmps51
  go_wp2_with fail
  obtain ⟨W, hW⟩ : ∃ W, W = (((w.alloc (.cells #[.slice (some ⟨g, o, none⟩) n c, .slice B m d] 29)).alloc (.cells #[.int .i64 i, .int .i64 j, .int .i64 k] 67)).alloc (.cells #[.int .i64 0, .int .i64 0, .int .i64 0] 49)).alloc (.cells #[.int .i64 va.x, .int .i64 va.y, .int .i64 va.z] 49) := ⟨_, rfl⟩
  have hg : w.grownBy W none := by rw [hW]; exact (by repeat (first | exact World.grownBy.refl _ _ | assumption | refine gr_alloc ?_ _ | (apply gr_tail; assumption) | refine gr_drewN ?_ _ | refine gr_drew ?_))
  have hz : w.heap.size + 1 + 1 < W.heap.size := by rw [hW]; simp
  have b0 : W.cell? ⟨w.heap.size, 0, none⟩ = some (.slice (some ⟨g, o, none⟩) n c) := by rw [hW]; go_simp
  have b3 : W.cell? ⟨w.heap.size + 1, 0, none⟩ = some (.int .i64 i) := by rw [hW]; go_simp
  have b4 : W.cell? ⟨w.heap.size + 1, 1, none⟩ = some (.int .i64 j) := by rw [hW]; go_simp
  have b5 : W.cell? ⟨w.heap.size + 1, 2, none⟩ = some (.int .i64 k) := by rw [hW]; go_simp
  have b6 : W.cell? ⟨w.heap.size + 1 + 1 + 1, 0, none⟩ = some (.int .i64 va.x) := by rw [hW]; go_simp
  have b7 : W.cell? ⟨w.heap.size + 1 + 1 + 1, 1, none⟩ = some (.int .i64 va.y) := by rw [hW]; go_simp
  have b8 : W.cell? ⟨w.heap.size + 1 + 1 + 1, 2, none⟩ = some (.int .i64 va.z) := by rw [hW]; go_simp
  have k0 : Cell W (w.heap.size + 1 + 1) 0 (.int .i64 0) := by rw [hW]; exact ⟨by go_simp, by go_simp⟩
  have k1 : Cell W (w.heap.size + 1 + 1) 1 (.int .i64 0) := by rw [hW]; exact ⟨by go_simp, by go_simp⟩
  have k2 : Cell W (w.heap.size + 1 + 1) 2 (.int .i64 0) := by rw [hW]; exact ⟨by go_simp, by go_simp⟩
  rw [← hW]
  clear hW
  replace y0 := hg.k y0
  replace y1 := hg.k y1
  replace y2 := hg.k y2
  replace z0 := hg.k z0
  replace z1 := hg.k z1
  replace z2 := hg.k z2
  refine wp_region_fix 17 ((fun wx => W.grownBy wx none)) (by kernel_rfl) (by kernel_rfl) (gr_drew (World.grownBy.refl _ _)) ?_
  simp only [List.take_succ_cons, List.take_zero, List.drop_succ_cons, List.drop_zero]
  iterate 7 ((refine fix_b (fun K hK => ?_); apply Exists.intro; refine ⟨fun wx hC K' hK' => ?_, ?_⟩; (focus (replace hK' := hide hK'; (have d0 := hC.k b0; have d3 := hC.k b3; have d4 := hC.k b4; have d5 := hC.k b5; have d6 := hC.k b6; have d7 := hC.k b7; have d8 := hC.k b8; have d9 := hC.k y0; have e1 := hC.k y1; have e2 := hC.k y2; have e3 := hC.k z0; have e4 := hC.k z1; have e5 := hC.k z2); go_wp2_with fail; exact hK'.out _ hC)); go_simp; refine hK _ ?_; clear hK K))
  (refine fix_b (fun K hK => ?_); apply Exists.intro; refine ⟨fun wx hC K' hK' => ?_, ?_⟩; (focus (replace hK' := hide hK'; (have d0 := hC.k b0; have d3 := hC.k b3; have d4 := hC.k b4; have d5 := hC.k b5; have d6 := hC.k b6; have d7 := hC.k b7; have d8 := hC.k b8; have d9 := hC.k y0; have e1 := hC.k y1; have e2 := hC.k y2; have e3 := hC.k z0; have e4 := hC.k z1; have e5 := hC.k z2); go_wp2_with fail; (refine (less_any vb va _ (bb.mono (by decide)) (ba.mono (by decide))).mono ?_; rintro e w' ⟨rfl, hg'⟩; go_wp2_with fail; exact hK'.out _ (gr_trans hC hg')))); go_simp; refine hK _ ?_; clear hK K)
  iterate 7 ((refine fix_b (fun K hK => ?_); apply Exists.intro; refine ⟨fun wx hC K' hK' => ?_, ?_⟩; (focus (replace hK' := hide hK'; (have d0 := hC.k b0; have d3 := hC.k b3; have d4 := hC.k b4; have d5 := hC.k b5; have d6 := hC.k b6; have d7 := hC.k b7; have d8 := hC.k b8; have d9 := hC.k y0; have e1 := hC.k y1; have e2 := hC.k y2; have e3 := hC.k z0; have e4 := hC.k z1; have e5 := hC.k z2); go_wp2_with fail; exact hK'.out _ hC)); go_simp; refine hK _ ?_; clear hK K))
  (refine fix_b (fun K hK => ?_); apply Exists.intro; refine ⟨fun wx hC K' hK' => ?_, ?_⟩; (focus (replace hK' := hide hK'; (have d0 := hC.k b0; have d3 := hC.k b3; have d4 := hC.k b4; have d5 := hC.k b5; have d6 := hC.k b6; have d7 := hC.k b7; have d8 := hC.k b8; have d9 := hC.k y0; have e1 := hC.k y1; have e2 := hC.k y2; have e3 := hC.k z0; have e4 := hC.k z1; have e5 := hC.k z2); go_wp2_with fail; (refine (less_any vc va _ (bc.mono (by decide)) (ba.mono (by decide))).mono ?_; rintro e w' ⟨rfl, hg'⟩; go_wp2_with fail; exact hK'.out _ (gr_trans hC hg')))); go_simp; refine hK _ ?_; clear hK K)
  (refine fix_b (fun K hK => ?_); apply Exists.intro; refine ⟨fun wx hC K' hK' => ?_, ?_⟩; (focus (replace hK' := hide hK'; (have d0 := hC.k b0; have d3 := hC.k b3; have d4 := hC.k b4; have d5 := hC.k b5; have d6 := hC.k b6; have d7 := hC.k b7; have d8 := hC.k b8; have d9 := hC.k y0; have e1 := hC.k y1; have e2 := hC.k y2; have e3 := hC.k z0; have e4 := hC.k z1; have e5 := hC.k z2); go_wp2_with fail; (refine (cross_any (lessV vb va) (lessV vc va) _ ((bb.less ba).mono (by decide)) ((bc.less ba).mono (by decide))).mono ?_; rintro e w' ⟨rfl, hg'⟩; go_wp2_with fail; exact hK'.out _ (gr_trans hC hg')))); go_simp; refine hK _ ?_; clear hK K)
  refine fix_nil ?_
  intro wz hC
  obtain ⟨k0, f0⟩ := k0.gr hC (by simp)
  obtain ⟨k1, f1⟩ := k1.gr hC (by simp)
  obtain ⟨k2, f2⟩ := k2.gr hC (by simp)
  go_wp2_with fail
  refine bodyPost_ret (v := .agg #[.int .i64 (crossV (lessV vb va) (lessV vc va)).x, .int .i64 (crossV (lessV vb va) (lessV vc va)).y, .int .i64 (crossV (lessV vb va) (lessV vc va)).z]) (by simp [results, Try.results51, go_sem, k0, k1, k2, f0, f1, f2]) rfl ⟨by rw [hN.out], ?_⟩
  exact gr_set (gr_set (gr_set (gr_trans hg hC) (.inr (show w.heap.size ≤ w.heap.size + 1 + 1 by omega)) _) (.inr (show w.heap.size ≤ w.heap.size + 1 + 1 by omega)) _) (.inr (show w.heap.size ≤ w.heap.size + 1 + 1 by omega)) _

/-- three cells of a vector -/
def Box3 (w : World) (g : Nat) (v : V3) : Prop := Cell w g 0 (.int .i64 v.x) ∧ Cell w g 1 (.int .i64 v.y) ∧ Cell w g 2 (.int .i64 v.z)
theorem Box3.set {w : World} {g : Nat} {v : V3} (h : Box3 w g v) (u : V3) : Box3 (((w.setCell ⟨g, 0, none⟩ (.int .i64 u.x)).setCell ⟨g, 1, none⟩ (.int .i64 u.y)).setCell ⟨g, 2, none⟩ (.int .i64 u.z)) g u :=
  ⟨((h.1.set_ _).set_ne _ (by decide)).set_ne _ (by decide), ((h.2.1.set_ne _ (by decide)).set_ _).set_ne _ (by decide), ((h.2.2.set_ne _ (by decide)).set_ne _ (by decide)).set_ _⟩
theorem gr_set3 {w : World} (g : Nat) (a b c : Value) : w.grownBy (((w.setCell ⟨g, 0, none⟩ a).setCell ⟨g, 1, none⟩ b).setCell ⟨g, 2, none⟩ c) (some g) :=
  have h1 := gr_set (r := some g) (p := ⟨g, 0, none⟩) (World.grownBy.refl w _) (.inl rfl) a
  have h2 := gr_set (p := ⟨g, 1, none⟩) h1 (.inl rfl) b
  gr_set (p := ⟨g, 2, none⟩) h2 (.inl rfl) c
theorem Box3.gr {w w' : World} {g : Nat} {r : Option Nat} {v : V3} (h : Box3 w g v) (hg : w.grownBy w' r) (hr : r ≠ some g) : Box3 w' g v := ⟨h.1.gr hg hr, h.2.1.gr hg hr, h.2.2.gr hg hr⟩

/-- three vectors are handed back -/
def CornI (w W : World) (va vb vc : V3) (m : Nat → Bool) (wx : World) : Prop :=
  w.grownBy wx none ∧ (∀ p v, p.block < w.heap.size + 1 + 1 → W.cell? p = some v → wx.cell? p = some v) ∧ Box3 wx (w.heap.size + 1 + 1) (if m 18 then va else ⟨0, 0, 0⟩) ∧ Box3 wx (w.heap.size + 1 + 1 + 1) (if m 19 then vb else ⟨0, 0, 0⟩) ∧ Box3 wx (w.heap.size + 1 + 1 + 1 + 1) (if m 20 then vc else ⟨0, 0, 0⟩)
section
variable {w W wx : World} {va vb vc : V3} {m : Nat → Bool}
theorem CornI.same {j : Nat} (hj : (j == 18) = false ∧ (j == 19) = false ∧ (j == 20) = false) (h : CornI w W va vb vc m wx) : CornI w W va vb vc (setm m j) wx := by
  obtain ⟨h1, h2, h3, h4, h5⟩ := h
  have e : ∀ i, (i == j) = false → setm m j i = m i := fun i hi => setm_ne hi
  have c : ∀ i : Nat, (j == i) = false → (i == j) = false := fun i hi => by simp at hi ⊢; omega
  exact ⟨h1, h2, by rw [e 18 (c _ hj.1)]; exact h3, by rw [e 19 (c _ hj.2.1)]; exact h4, by rw [e 20 (c _ hj.2.2)]; exact h5⟩
theorem CornI.grs {g : Nat} {a b c : Value} (h : CornI w W va vb vc m wx) (hg : w.heap.size + 1 + 1 ≤ g) : w.grownBy (((wx.setCell ⟨g, 0, none⟩ a).setCell ⟨g, 1, none⟩ b).setCell ⟨g, 2, none⟩ c) none ∧
    (∀ p v, p.block < w.heap.size + 1 + 1 → W.cell? p = some v → (((wx.setCell ⟨g, 0, none⟩ a).setCell ⟨g, 1, none⟩ b).setCell ⟨g, 2, none⟩ c).cell? p = some v) :=
  ⟨gr_new h.1 (gr_set3 g a b c) (by omega), fun p v hp hv => gr_cell (gr_set3 g a b c) (h.2.1 p v hp hv) (by intro e; cases e; omega)⟩
theorem CornI.st0 (h : CornI w W va vb vc m wx) : CornI w W va vb vc (setm m 18) (((wx.setCell ⟨w.heap.size + 1 + 1, 0, none⟩ (.int .i64 va.x)).setCell ⟨w.heap.size + 1 + 1, 1, none⟩ (.int .i64 va.y)).setCell ⟨w.heap.size + 1 + 1, 2, none⟩ (.int .i64 va.z)) := by
  have hx := gr_set3 (w := wx) (w.heap.size + 1 + 1) (.int .i64 va.x) (.int .i64 va.y) (.int .i64 va.z)
  have hs := h.grs (g := w.heap.size + 1 + 1) (a := .int .i64 va.x) (b := .int .i64 va.y) (c := .int .i64 va.z) (by omega)
  obtain ⟨h1, h2, h3, h4, h5⟩ := h
  refine ⟨hs.1, hs.2, ?_, ?_, ?_⟩
  · rw [if_pos setm_eq]; exact h3.set va
  · rw [setm_ne (by decide)]; exact h4.gr hx (by intro e; injection e with e; omega)
  · rw [setm_ne (by decide)]; exact h5.gr hx (by intro e; injection e with e; omega)
theorem CornI.st1 (h : CornI w W va vb vc m wx) : CornI w W va vb vc (setm m 19) (((wx.setCell ⟨w.heap.size + 1 + 1 + 1, 0, none⟩ (.int .i64 vb.x)).setCell ⟨w.heap.size + 1 + 1 + 1, 1, none⟩ (.int .i64 vb.y)).setCell ⟨w.heap.size + 1 + 1 + 1, 2, none⟩ (.int .i64 vb.z)) := by
  have hx := gr_set3 (w := wx) (w.heap.size + 1 + 1 + 1) (.int .i64 vb.x) (.int .i64 vb.y) (.int .i64 vb.z)
  have hs := h.grs (g := w.heap.size + 1 + 1 + 1) (a := .int .i64 vb.x) (b := .int .i64 vb.y) (c := .int .i64 vb.z) (by omega)
  obtain ⟨h1, h2, h3, h4, h5⟩ := h
  refine ⟨hs.1, hs.2, ?_, ?_, ?_⟩
  · rw [setm_ne (by decide)]; exact h3.gr hx (by intro e; injection e with e; omega)
  · rw [if_pos setm_eq]; exact h4.set vb
  · rw [setm_ne (by decide)]; exact h5.gr hx (by intro e; injection e with e; omega)
theorem CornI.st2 (h : CornI w W va vb vc m wx) : CornI w W va vb vc (setm m 20) (((wx.setCell ⟨w.heap.size + 1 + 1 + 1 + 1, 0, none⟩ (.int .i64 vc.x)).setCell ⟨w.heap.size + 1 + 1 + 1 + 1, 1, none⟩ (.int .i64 vc.y)).setCell ⟨w.heap.size + 1 + 1 + 1 + 1, 2, none⟩ (.int .i64 vc.z)) := by
  have hx := gr_set3 (w := wx) (w.heap.size + 1 + 1 + 1 + 1) (.int .i64 vc.x) (.int .i64 vc.y) (.int .i64 vc.z)
  have hs := h.grs (g := w.heap.size + 1 + 1 + 1 + 1) (a := .int .i64 vc.x) (b := .int .i64 vc.y) (c := .int .i64 vc.z) (by omega)
  obtain ⟨h1, h2, h3, h4, h5⟩ := h
  refine ⟨hs.1, hs.2, ?_, ?_, ?_⟩
  · rw [setm_ne (by decide)]; exact h3.gr hx (by intro e; injection e with e; omega)
  · rw [setm_ne (by decide)]; exact h4.gr hx (by intro e; injection e with e; omega)
  · rw [if_pos setm_eq]; exact h5.set vc
end
set_option maxHeartbeats 2000000 in
set_option maxRecDepth 100000 in
theorem corners_any (A : Option Addr) (c : Nat) (vs : List V3) (B : Option Addr) (m d : Nat) (f : Fc) (w : World) (hl : Sl w 0 A vs) (hin : inF vs.length f = true) :
    Calls Try.prog 59 #[.agg #[.slice A vs.length c, .slice B m d], .agg #[.int .i64 f.a, .int .i64 f.b, .int .i64 f.c]] w fun e w' => e = .returned (.tuple #[.agg #[.int .i64 (atV vs f.a).x, .int .i64 (atV vs f.a).y, .int .i64 (atV vs f.a).z], .agg #[.int .i64 (atV vs f.b).x, .int .i64 (atV vs f.b).y, .int .i64 (atV vs f.b).z], .agg #[.int .i64 (atV vs f.c).x, .int .i64 (atV vs f.c).y, .int .i64 (atV vs f.c).z]]) ∧ w.grownBy w' none := by
  have hm := hl.1
  unfold maxLen at hm
  obtain ⟨i, j, k, hi, hj, hk, rfl, ea, eb, ec⟩ := inF_at hin
  rw [ea, eb, ec]
  clear ea eb ec hin
  obtain ⟨g, o, rfl, hb0, hb1, hcell⟩ := hl.v3 (by omega)
  obtain ⟨x0, x1, x2⟩ := hcell i hi
  obtain ⟨y0, y1, y2⟩ := hcell j hj
  obtain ⟨z0, z1, z2⟩ := hcell k hk
  clear hcell
  have hb2 : g < w.heap.size + 1 := by omega
  have hb3 : g < w.heap.size + 1 + 1 := by omega
  have hb4 : g < w.heap.size + 1 + 1 + 1 := by omega
  generalize vs[i] = va at *
  generalize vs[j] = vb at *
  generalize vs[k] = vc at *
  generalize vs.length = n at *
  go_enter Try.func59, Try.ntmps59
  go_wp2_with fail
  obtain ⟨W, hW⟩ : ∃ W, W = ((((w.alloc (.cells #[.slice (some ⟨g, o, none⟩) n c, .slice B m d] 29)).alloc (.cells #[.int .i64 i, .int .i64 j, .int .i64 k] 67)).alloc (.cells #[.int .i64 0, .int .i64 0, .int .i64 0] 49)).alloc (.cells #[.int .i64 0, .int .i64 0, .int .i64 0] 49)).alloc (.cells #[.int .i64 0, .int .i64 0, .int .i64 0] 49) := ⟨_, rfl⟩
  have hg : w.grownBy W none := by rw [hW]; exact (by repeat (first | exact World.grownBy.refl _ _ | assumption | refine gr_alloc ?_ _ | (apply gr_tail; assumption) | refine gr_drewN ?_ _ | refine gr_drew ?_))
  have b0 : W.cell? ⟨w.heap.size, 0, none⟩ = some (.slice (some ⟨g, o, none⟩) n c) := by rw [hW]; go_simp
  have b3 : W.cell? ⟨w.heap.size + 1, 0, none⟩ = some (.int .i64 i) := by rw [hW]; go_simp
  have b4 : W.cell? ⟨w.heap.size + 1, 1, none⟩ = some (.int .i64 j) := by rw [hW]; go_simp
  have b5 : W.cell? ⟨w.heap.size + 1, 2, none⟩ = some (.int .i64 k) := by rw [hW]; go_simp
  have k0 : Cell W (w.heap.size + 1 + 1) 0 (.int .i64 0) := by rw [hW]; exact ⟨by go_simp, by go_simp⟩
  have k1 : Cell W (w.heap.size + 1 + 1) 1 (.int .i64 0) := by rw [hW]; exact ⟨by go_simp, by go_simp⟩
  have k2 : Cell W (w.heap.size + 1 + 1) 2 (.int .i64 0) := by rw [hW]; exact ⟨by go_simp, by go_simp⟩
  have k3 : Cell W (w.heap.size + 1 + 1 + 1) 0 (.int .i64 0) := by rw [hW]; exact ⟨by go_simp, by go_simp⟩
  have k4 : Cell W (w.heap.size + 1 + 1 + 1) 1 (.int .i64 0) := by rw [hW]; exact ⟨by go_simp, by go_simp⟩
  have k5 : Cell W (w.heap.size + 1 + 1 + 1) 2 (.int .i64 0) := by rw [hW]; exact ⟨by go_simp, by go_simp⟩
  have k6 : Cell W (w.heap.size + 1 + 1 + 1 + 1) 0 (.int .i64 0) := by rw [hW]; exact ⟨by go_simp, by go_simp⟩
  have k7 : Cell W (w.heap.size + 1 + 1 + 1 + 1) 1 (.int .i64 0) := by rw [hW]; exact ⟨by go_simp, by go_simp⟩
  have k8 : Cell W (w.heap.size + 1 + 1 + 1 + 1) 2 (.int .i64 0) := by rw [hW]; exact ⟨by go_simp, by go_simp⟩
  rw [← hW]
  clear hW
  replace x0 := hg.k x0
  replace x1 := hg.k x1
  replace x2 := hg.k x2
  replace y0 := hg.k y0
  replace y1 := hg.k y1
  replace y2 := hg.k y2
  replace z0 := hg.k z0
  replace z1 := hg.k z1
  replace z2 := hg.k z2
  refine wp_region_fixm (CornI w W va vb vc) (by kernel_rfl) (by kernel_rfl) ?fa ?fb
  case fa =>
    intro m hm0
    have e := gr_drew (r := none) (World.grownBy.refl W none)
    refine ⟨gr_trans hg e, fun p v _ h => e.k h, ?_, ?_, ?_⟩
    · rw [if_neg (by simp [hm0 18 (by decide)])]; exact ⟨k0.gr e (by simp), k1.gr e (by simp), k2.gr e (by simp)⟩
    · rw [if_neg (by simp [hm0 19 (by decide)])]; exact ⟨k3.gr e (by simp), k4.gr e (by simp), k5.gr e (by simp)⟩
    · rw [if_neg (by simp [hm0 20 (by decide)])]; exact ⟨k6.gr e (by simp), k7.gr e (by simp), k8.gr e (by simp)⟩
  case fb =>
    have hb5 : g < w.heap.size + 1 + 1 := hb3
    iterate 18 ((refine fixm_b (fun K hK => ?_); apply Exists.intro; refine ⟨fun wx m hmj hC K' hK' => ?_, ?_⟩; (focus (replace hK' := hide hK'; (have d0 := hC.2.1 _ _ (by simp only; omega) b0; have d3 := hC.2.1 _ _ (by simp only; omega) b3; have d4 := hC.2.1 _ _ (by simp only; omega) b4; have d5 := hC.2.1 _ _ (by simp only; omega) b5; have d6 := hC.2.1 _ _ hb5 x0; have d7 := hC.2.1 _ _ hb5 x1; have d8 := hC.2.1 _ _ hb5 x2; have d9 := hC.2.1 _ _ hb5 y0; have e1 := hC.2.1 _ _ hb5 y1; have e2 := hC.2.1 _ _ hb5 y2; have e3 := hC.2.1 _ _ hb5 z0; have e4 := hC.2.1 _ _ hb5 z1; have e5 := hC.2.1 _ _ hb5 z2); go_wp2_with fail; exact hK'.out _ (CornI.same (by decide) hC))); go_simp; refine hK _ ?_; clear hK K))
    (refine fixm_b (fun K hK => ?_); refine ⟨undef, fun wx m hmj hC K' hK' => ?_, ?_⟩; (focus (replace hK' := hide hK'; (have hC2 := hC; obtain ⟨_, _, h3, h4, h5⟩ := hC2; obtain ⟨⟨c0, g0⟩, ⟨c1, g1⟩, ⟨c2, g2⟩⟩ := h3); go_wp2_with fail; exact hK'.out _ hC.st0)); go_simp; refine hK _ ?_; clear hK K)
    (refine fixm_b (fun K hK => ?_); refine ⟨undef, fun wx m hmj hC K' hK' => ?_, ?_⟩; (focus (replace hK' := hide hK'; (have hC2 := hC; obtain ⟨_, _, h3, h4, h5⟩ := hC2; obtain ⟨⟨c0, g0⟩, ⟨c1, g1⟩, ⟨c2, g2⟩⟩ := h4); go_wp2_with fail; exact hK'.out _ hC.st1)); go_simp; refine hK _ ?_; clear hK K)
    (refine fixm_b (fun K hK => ?_); refine ⟨undef, fun wx m hmj hC K' hK' => ?_, ?_⟩; (focus (replace hK' := hide hK'; (have hC2 := hC; obtain ⟨_, _, h3, h4, h5⟩ := hC2; obtain ⟨⟨c0, g0⟩, ⟨c1, g1⟩, ⟨c2, g2⟩⟩ := h5); go_wp2_with fail; exact hK'.out _ hC.st2)); go_simp; refine hK _ ?_; clear hK K)
    refine fixm_nil ?_
    intro wz m hmm hC
    obtain ⟨h1, _, h3, h4, h5⟩ := hC
    rw [if_pos (hmm 18 (by decide))] at h3
    rw [if_pos (hmm 19 (by decide))] at h4
    rw [if_pos (hmm 20 (by decide))] at h5
    obtain ⟨⟨k0, f0⟩, ⟨k1, f1⟩, ⟨k2, f2⟩⟩ := h3
    obtain ⟨⟨k3, f3⟩, ⟨k4, f4⟩, ⟨k5, f5⟩⟩ := h4
    obtain ⟨⟨k6, f6⟩, ⟨k7, f7⟩, ⟨k8, f8⟩⟩ := h5
    go_wp2_with fail
    refine bodyPost_ret (v := .tuple #[.agg #[.int .i64 va.x, .int .i64 va.y, .int .i64 va.z], .agg #[.int .i64 vb.x, .int .i64 vb.y, .int .i64 vb.z], .agg #[.int .i64 vc.x, .int .i64 vc.y, .int .i64 vc.z]]) (by simp [results, Try.results59, go_sem, k0, k1, k2, k3, k4, k5, k6, k7, k8, f0, f1, f2, f3, f4, f5, f6, f7, f8]) rfl ⟨rfl, h1⟩

set_option maxHeartbeats 2000000 in
set_option maxRecDepth 100000 in
theorem normalRef_any (A : Option Addr) (c : Nat) (vs : List V3) (B : Option Addr) (m d : Nat) (f : Fc) (w : World) (hl : Sl w 0 A vs) (hf : vs.any farV = false) (hin : inF vs.length f = true) :
    Calls Try.prog 45 #[.agg #[.slice A vs.length c, .slice B m d], .agg #[.int .i64 f.a, .int .i64 f.b, .int .i64 f.c]] w fun e w' => e = .returned (.agg #[.int .i64 (normV vs f).x, .int .i64 (normV vs f).y, .int .i64 (normV vs f).z]) ∧ w.grownBy w' none := by
  have ba := atV_bd hf f.a
  have bb := atV_bd hf f.b
  have bc := atV_bd hf f.c
  have hN : Hid (normV vs f = crossV (lessV (atV vs f.b) (atV vs f.a)) (lessV (atV vs f.c) (atV vs f.a))) := rfl
  generalize normV vs f = N at *
  clear hf
  have hm := hl.1
  unfold maxLen at hm
  have hg0 := gr_alloc (gr_alloc (gr_alloc (World.grownBy.refl w none) (.cells #[.slice A vs.length c, .slice B m d] 29)) (.cells #[.int .i64 f.a, .int .i64 f.b, .int .i64 f.c] 67)) (.cells #[.int .i64 0, .int .i64 0, .int .i64 0] 49)
  have k0 : Cell (((w.alloc (.cells #[.slice A vs.length c, .slice B m d] 29)).alloc (.cells #[.int .i64 f.a, .int .i64 f.b, .int .i64 f.c] 67)).alloc (.cells #[.int .i64 0, .int .i64 0, .int .i64 0] 49)) (w.heap.size + 1 + 1) 0 (.int .i64 0) := ⟨by go_simp, by go_simp⟩
  have k1 : Cell (((w.alloc (.cells #[.slice A vs.length c, .slice B m d] 29)).alloc (.cells #[.int .i64 f.a, .int .i64 f.b, .int .i64 f.c] 67)).alloc (.cells #[.int .i64 0, .int .i64 0, .int .i64 0] 49)) (w.heap.size + 1 + 1) 1 (.int .i64 0) := ⟨by go_simp, by go_simp⟩
  have k2 : Cell (((w.alloc (.cells #[.slice A vs.length c, .slice B m d] 29)).alloc (.cells #[.int .i64 f.a, .int .i64 f.b, .int .i64 f.c] 67)).alloc (.cells #[.int .i64 0, .int .i64 0, .int .i64 0] 49)) (w.heap.size + 1 + 1) 2 (.int .i64 0) := ⟨by go_simp, by go_simp⟩
  go_enter Try.func45, Try.ntmps45
  go_wp2_with fail
  refine (corners_any A c vs B m d f _ (hl.pure hg0) hin).mono ?_
  rintro e w1 ⟨rfl, hg1⟩
  generalize atV vs f.a = va at *
  generalize atV vs f.b = vb at *
  generalize atV vs f.c = vc at *
  replace k0 := k0.gr hg1 (by simp)
  replace k1 := k1.gr hg1 (by simp)
  replace k2 := k2.gr hg1 (by simp)
  have hz := hg1.size
  simp at hz
  replace hg1 := gr_trans hg0 hg1
  clear hg0
  go_wp2_with fail
  obtain ⟨W, hW⟩ : ∃ W, W = ((w1.alloc (.cells #[.int .i64 va.x, .int .i64 va.y, .int .i64 va.z] 49)).alloc (.cells #[.int .i64 vb.x, .int .i64 vb.y, .int .i64 vb.z] 49)).alloc (.cells #[.int .i64 vc.x, .int .i64 vc.y, .int .i64 vc.z] 49) := ⟨_, rfl⟩
  have hg : w1.grownBy W none := by rw [hW]; exact (by repeat (first | exact World.grownBy.refl _ _ | assumption | refine gr_alloc ?_ _ | (apply gr_tail; assumption) | refine gr_drewN ?_ _ | refine gr_drew ?_))
  have b0 : W.cell? ⟨w1.heap.size, 0, none⟩ = some (.int .i64 va.x) := by rw [hW]; go_simp
  have b1 : W.cell? ⟨w1.heap.size, 1, none⟩ = some (.int .i64 va.y) := by rw [hW]; go_simp
  have b2 : W.cell? ⟨w1.heap.size, 2, none⟩ = some (.int .i64 va.z) := by rw [hW]; go_simp
  have b3 : W.cell? ⟨w1.heap.size + 1, 0, none⟩ = some (.int .i64 vb.x) := by rw [hW]; go_simp
  have b4 : W.cell? ⟨w1.heap.size + 1, 1, none⟩ = some (.int .i64 vb.y) := by rw [hW]; go_simp
  have b5 : W.cell? ⟨w1.heap.size + 1, 2, none⟩ = some (.int .i64 vb.z) := by rw [hW]; go_simp
  have b6 : W.cell? ⟨w1.heap.size + 1 + 1, 0, none⟩ = some (.int .i64 vc.x) := by rw [hW]; go_simp
  have b7 : W.cell? ⟨w1.heap.size + 1 + 1, 1, none⟩ = some (.int .i64 vc.y) := by rw [hW]; go_simp
  have b8 : W.cell? ⟨w1.heap.size + 1 + 1, 2, none⟩ = some (.int .i64 vc.z) := by rw [hW]; go_simp
  rw [← hW]
  clear hW
  refine wp_region_fix 7 ((fun wx => W.grownBy wx none)) (by kernel_rfl) (by kernel_rfl) (gr_drew (World.grownBy.refl _ _)) ?_
  simp only [List.take_succ_cons, List.take_zero, List.drop_succ_cons, List.drop_zero]
  iterate 2 ((refine fix_b (fun K hK => ?_); apply Exists.intro; refine ⟨fun wx hC K' hK' => ?_, ?_⟩; (focus (replace hK' := hide hK'; (have d0 := hC.k b0; have d1 := hC.k b1; have d2 := hC.k b2; have d3 := hC.k b3; have d4 := hC.k b4; have d5 := hC.k b5; have d6 := hC.k b6; have d7 := hC.k b7; have d8 := hC.k b8); go_wp2_with fail; exact hK'.out _ hC)); go_simp; refine hK _ ?_; clear hK K))
  (refine fix_b (fun K hK => ?_); apply Exists.intro; refine ⟨fun wx hC K' hK' => ?_, ?_⟩; (focus (replace hK' := hide hK'; skip; go_wp2_with fail; (refine (minus_any vb va _ (bb.mono (by decide)) (ba.mono (by decide))).mono ?_; rintro e w' ⟨rfl, hg'⟩; go_wp2_with fail; exact hK'.out _ (gr_trans hC hg')))); go_simp; refine hK _ ?_; clear hK K)
  iterate 2 ((refine fix_b (fun K hK => ?_); apply Exists.intro; refine ⟨fun wx hC K' hK' => ?_, ?_⟩; (focus (replace hK' := hide hK'; (have d0 := hC.k b0; have d1 := hC.k b1; have d2 := hC.k b2; have d3 := hC.k b3; have d4 := hC.k b4; have d5 := hC.k b5; have d6 := hC.k b6; have d7 := hC.k b7; have d8 := hC.k b8); go_wp2_with fail; exact hK'.out _ hC)); go_simp; refine hK _ ?_; clear hK K))
  (refine fix_b (fun K hK => ?_); apply Exists.intro; refine ⟨fun wx hC K' hK' => ?_, ?_⟩; (focus (replace hK' := hide hK'; skip; go_wp2_with fail; (refine (minus_any vc va _ (bc.mono (by decide)) (ba.mono (by decide))).mono ?_; rintro e w' ⟨rfl, hg'⟩; go_wp2_with fail; exact hK'.out _ (gr_trans hC hg')))); go_simp; refine hK _ ?_; clear hK K)
  (refine fix_b (fun K hK => ?_); apply Exists.intro; refine ⟨fun wx hC K' hK' => ?_, ?_⟩; (focus (replace hK' := hide hK'; skip; go_wp2_with fail; (refine (crossRef_any (lessV vb va) (lessV vc va) _ ((bb.less ba).mono (by decide)) ((bc.less ba).mono (by decide))).mono ?_; rintro e w' ⟨rfl, hg'⟩; go_wp2_with fail; exact hK'.out _ (gr_trans hC hg')))); go_simp; refine hK _ ?_; clear hK K)
  refine fix_nil ?_
  intro wz hC
  replace hC := gr_trans hg hC
  obtain ⟨k0, f0⟩ := k0.gr hC (by simp)
  obtain ⟨k1, f1⟩ := k1.gr hC (by simp)
  obtain ⟨k2, f2⟩ := k2.gr hC (by simp)
  go_wp2_with fail
  refine bodyPost_ret (v := .agg #[.int .i64 (crossV (lessV vb va) (lessV vc va)).x, .int .i64 (crossV (lessV vb va) (lessV vc va)).y, .int .i64 (crossV (lessV vb va) (lessV vc va)).z]) (by simp [results, Try.results45, go_sem, k0, k1, k2, f0, f1, f2]) rfl ⟨by rw [hN.out], ?_⟩
  repeat (first | exact gr_trans hg1 hC | refine gr_set ?_ (.inr (by simp only; omega)) _)

end Go.Proofs.Ytjodjdjfagjiaaa

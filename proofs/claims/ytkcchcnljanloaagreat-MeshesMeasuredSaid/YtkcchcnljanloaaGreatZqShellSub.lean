/- Contracts of functions that this seat's laws reach, each: what one call returns and what it leaves in memory; no condition beyond each theorem's own hypotheses. -/
import Derived.Test.YtkcchcnljanloaaGreatZqMeshJ
import Derived.Test.YtkcchcnljanloaaGreatZqMeshH
import Derived.Test.YtkcchcnljanloaaGreatZqGpLib
set_option linter.unusedVariables false
set_option linter.unusedSimpArgs false
namespace Go.Proofs.YtkcchcnljanloaaGreat
open Go.RowKit Go.Bl

def pyrV : List V3 := [⟨0, 0, 0⟩, ⟨6, 0, 0⟩, ⟨0, 6, 0⟩, ⟨0, 0, 6⟩]

def pyrF : List Fc := [⟨0, 2, 1⟩, ⟨0, 1, 3⟩, ⟨1, 2, 3⟩, ⟨0, 3, 2⟩]

set_option maxHeartbeats 1000000 in
set_option maxRecDepth 100000 in
theorem pyramid_any (w : World) : Calls Tryz.prog 44 #[] w fun e w' => ∃ A B, e = .returned (.agg #[.slice A 4 4, .slice B 4 4]) ∧ Sl w' 0 A pyrV ∧ Sl w' 0 B pyrF ∧ w.grownBy w' none := by
  go_enter Tryz.func44, Tryz.ntmps44
  go_wp2_with fail
  refine bodyPost_ret (v := .agg #[.slice (some ⟨w.heap.size + 1, 0, none⟩) 4 4, .slice (some ⟨w.heap.size + 1 + 1, 0, none⟩) 4 4]) (by simp [results, Tryz.results44, go_sem]) rfl ⟨_, _, rfl, ?_, ?_, ?_⟩
  · exact (sl_litAt _ 0 _ 38 pyrV _ (by simp) (Nat.zero_le _) (by simp [pyrV, maxLen]) ⟨_, _, rfl, rfl, _, _, rfl, rfl, _, _, rfl, rfl, _, _, rfl, rfl, rfl⟩).pure (gr_alloc (World.grownBy.refl _ _) _)
  · exact sl_litAt _ 0 _ 58 pyrF _ (by simp) (Nat.zero_le _) (by simp [pyrF, maxLen]) ⟨_, _, rfl, rfl, _, _, rfl, rfl, _, _, rfl, rfl, _, _, rfl, rfl, rfl⟩
  · exact (by repeat (first | exact World.grownBy.refl _ _ | assumption | refine gr_alloc ?_ _ | (apply gr_tail; assumption) | refine gr_drewN ?_ _ | refine gr_drew ?_))

theorem pyr_ok : meshF ⟨pyrV, pyrF⟩ = 0 := by decide

theorem pyr_side : ∀ s ∈ allS pyrF, okS s := by
  intro s hs
  simp only [allS, pyrF, sdsOf, List.flatMap_cons, List.flatMap_nil, List.cons_append, List.nil_append, List.append_nil, List.mem_cons, List.not_mem_nil, or_false] at hs
  rcases hs with rfl | rfl | rfl | rfl | rfl | rfl | rfl | rfl | rfl | rfl | rfl | rfl <;> exact ⟨by decide, by decide⟩

theorem pyr_rev : ∀ s ∈ allS pyrF, revS s ∈ allS pyrF := by decide

set_option maxHeartbeats 1000000 in
theorem closedPyr_any (A B : Option Addr) (w : World) (hA : Sl w 0 A pyrV) (hB : Sl w 0 B pyrF) : Calls Tryz.prog 42 #[.agg #[.slice A 4 4, .slice B 4 4]] w fun e w' => e = .returned (.int .i64 0) ∧ w.grownBy w' none := by
  have hg0 := gr_alloc (World.grownBy.refl w none) (.cells #[.slice A 4 4, .slice B 4 4] 29)
  have b0 := Cell.new w [.slice A 4 4, .slice B 4 4] 29 0 _ rfl _ rfl
  have b1 := Cell.new w [.slice A 4 4, .slice B 4 4] 29 1 _ rfl _ rfl
  go_enter Tryz.func42, Tryz.ntmps42
  go_wp2_with fail
  refine (checkMesh_any A 4 pyrV B 4 pyrF _ (hA.pure hg0) (hB.pure hg0)).mono ?_
  rintro e w1 ⟨rfl, hg1⟩
  rw [pyr_ok]
  have b0 := (b0.gr hg1 (by simp)).1
  have b1 := (b1.gr hg1 (by simp)).1
  have hg2 := gr_trans hg0 hg1
  go_wp2_with fail
  refine (openNone_any A 4 4 B 4 pyrF _ (hB.pure hg2) (by decide) pyr_side pyr_rev).mono ?_
  rintro e w2 ⟨rfl, hg3⟩
  go_wp2_with fail
  go_ret
  exact ⟨rfl, gr_trans hg2 hg3⟩

def partV (vs : List V3) (f : Fc) : Int := dotV (atV vs f.a) (crossV (atV vs f.b) (atV vs f.c))

set_option maxHeartbeats 2000000 in
set_option maxRecDepth 100000 in
theorem part_any (A : Option Addr) (c : Nat) (vs : List V3) (B : Option Addr) (m d : Nat) (f : Fc) (w : World) (hl : Sl w 0 A vs) (hf : vs.any farV = false) (hin : inF vs.length f = true) :
    Calls Tryz.prog 43 #[.agg #[.slice A vs.length c, .slice B m d], .agg #[.int .i64 f.a, .int .i64 f.b, .int .i64 f.c]] w fun e w' => e = .returned (.int .i64 (partV vs f)) ∧ w.grownBy w' none := by
  have ba := atV_bd hf f.a
  have bb := atV_bd hf f.b
  have bc := atV_bd hf f.c
  have hN : Hid (partV vs f = dotV (atV vs f.a) (crossV (atV vs f.b) (atV vs f.c))) := rfl
  generalize partV vs f = N at *
  clear hf
  have hm := hl.1
  unfold maxLen at hm
  obtain ⟨i, j, k, hi, hj, hk, rfl, ea, eb, ec⟩ := inF_at hin
  rw [ea] at ba hN
  rw [eb] at bb hN
  rw [ec] at bc hN
  clear ea eb ec hin
  obtain ⟨g, o, rfl, hb0, hb1, hcell⟩ := hl.v3 (by omega)
  obtain ⟨x0, x1, x2⟩ := hcell i hi
  obtain ⟨y0, y1, y2⟩ := hcell j hj
  obtain ⟨z0, z1, z2⟩ := hcell k hk
  clear hcell
  have hb2 : g < w.heap.size + 1 := by omega
  have hb3 : g < w.heap.size + 1 + 1 := by omega
  have hb4 : g < w.heap.size + 1 + 1 + 1 := by omega
  generalize vs[i] = va at *
  generalize vs[j] = vb at *
  generalize vs[k] = vc at *
  generalize vs.length = n at *
  go_enter Tryz.func43, Tryz.ntmps43
  go_wp2_with fail
  obtain ⟨W, hW⟩ : ∃ W, W = (w.alloc (.cells #[.slice (some ⟨g, o, none⟩) n c, .slice B m d] 29)).alloc (.cells #[.int .i64 i, .int .i64 j, .int .i64 k] 58) := ⟨_, rfl⟩
  have hg : w.grownBy W none := by rw [hW]; exact (by repeat (first | exact World.grownBy.refl _ _ | assumption | refine gr_alloc ?_ _ | (apply gr_tail; assumption) | refine gr_drewN ?_ _ | refine gr_drew ?_))
  have b0 : W.cell? ⟨w.heap.size, 0, none⟩ = some (.slice (some ⟨g, o, none⟩) n c) := by rw [hW]; go_simp
  have b3 : W.cell? ⟨w.heap.size + 1, 0, none⟩ = some (.int .i64 i) := by rw [hW]; go_simp
  have b4 : W.cell? ⟨w.heap.size + 1, 1, none⟩ = some (.int .i64 j) := by rw [hW]; go_simp
  have b5 : W.cell? ⟨w.heap.size + 1, 2, none⟩ = some (.int .i64 k) := by rw [hW]; go_simp
  rw [← hW]
  clear hW
  replace x0 := hg.k x0
  replace x1 := hg.k x1
  replace x2 := hg.k x2
  replace y0 := hg.k y0
  replace y1 := hg.k y1
  replace y2 := hg.k y2
  replace z0 := hg.k z0
  replace z1 := hg.k z1
  replace z2 := hg.k z2
  refine wp_region_fix 20 ((fun wx => W.grownBy wx none)) (by kernel_rfl) (by kernel_rfl) (gr_drew (World.grownBy.refl _ _)) ?_
  simp only [List.take_succ_cons, List.take_zero, List.drop_succ_cons, List.drop_zero]
  iterate 18 ((refine fix_b (fun K hK => ?_); apply Exists.intro; refine ⟨fun wx hC K' hK' => ?_, ?_⟩; (focus (replace hK' := hide hK'; (have d0 := hC.k b0; have d3 := hC.k b3; have d4 := hC.k b4; have d5 := hC.k b5; have d6 := hC.k x0; have d7 := hC.k x1; have d8 := hC.k x2; have d9 := hC.k y0; have e1 := hC.k y1; have e2 := hC.k y2; have e3 := hC.k z0; have e4 := hC.k z1; have e5 := hC.k z2); go_wp2_with fail; exact hK'.out _ hC)); go_simp; refine hK _ ?_; clear hK K))
  (refine fix_b (fun K hK => ?_); apply Exists.intro; refine ⟨fun wx hC K' hK' => ?_, ?_⟩; (focus (replace hK' := hide hK'; skip; go_wp2_with fail; (refine (cross_any vb vc _ (bb.mono (by decide)) (bc.mono (by decide))).mono ?_; rintro e w' ⟨rfl, hg'⟩; go_wp2_with fail; exact hK'.out _ (gr_trans hC hg')))); go_simp; refine hK _ ?_; clear hK K)
  (refine fix_b (fun K hK => ?_); apply Exists.intro; refine ⟨fun wx hC K' hK' => ?_, ?_⟩; (focus (replace hK' := hide hK'; skip; go_wp2_with fail; (refine (dot_any va (crossV vb vc) _ ba ((bb.cross bc).mono (by decide))).mono ?_; rintro e w' ⟨rfl, hg'⟩; go_wp2_with fail; exact hK'.out _ (gr_trans hC hg')))); go_simp; refine hK _ ?_; clear hK K)
  refine fix_nil ?_
  intro wz hC
  go_wp2_with fail
  go_ret
  exact ⟨ret_int hN.out.symm, gr_trans hg hC⟩

end Go.Proofs.YtkcchcnljanloaaGreat

namespace Go.Proofs.YtkcchcnljanloaaGreat
open Go Go.RowKit Go.Bl

theorem nodup_map_on {α β : Type} (f : α → β) {l : List α} (hn : l.Nodup) (hf : ∀ x ∈ l, ∀ y ∈ l, f x = f y → x = y) : (l.map f).Nodup := by
  induction l with
  | nil => simp
  | cons x l ih =>
    obtain ⟨h1, h2⟩ := List.nodup_cons.1 hn
    rw [List.map_cons, List.nodup_cons]
    refine ⟨fun h => ?_, ih h2 fun a ha b hb => hf a (List.mem_cons_of_mem _ ha) b (List.mem_cons_of_mem _ hb)⟩
    obtain ⟨y, hy, e⟩ := List.mem_map.1 h
    have := hf y (List.mem_cons_of_mem _ hy) x (List.mem_cons_self ..) e
    exact h1 (this ▸ hy)

theorem faceF_iff {vs : List V3} {f : Fc} : faceF vs f = 0 ↔ inF vs.length f = true ∧ normV vs f ≠ ⟨0, 0, 0⟩ := by
  unfold faceF
  by_cases h1 : inF vs.length f = true
  · rw [if_pos h1]
    by_cases h2 : normV vs f = ⟨0, 0, 0⟩
    · rw [if_pos h2]; simp [h2]
    · rw [if_neg h2]; simp [h1, h2]
  · rw [if_neg h1]; simp [h1]

def volS (vs : List V3) (fs : List Fc) : Int := (fs.map (partV vs)).sum

end Go.Proofs.YtkcchcnljanloaaGreat

namespace Go.Bl
open Go Go.Proofs.YtkcchcnljanloaaGreat

theorem perm_sum {l m : List Int} (h : l.Perm m) : l.sum = m.sum := by
  induction h with
  | nil => rfl
  | cons x _ ih => simp [ih]
  | swap x y l => simp only [List.sum_cons]; omega
  | trans _ _ ih1 ih2 => rw [ih1, ih2]

theorem sum_neg (l : List Sd) (g h : Sd → Int) (hg : ∀ s ∈ l, h s = - g s) : (l.map h).sum = - (l.map g).sum := by
  induction l with
  | nil => rfl
  | cons x l ih =>
    simp only [List.map_cons, List.sum_cons]
    rw [hg x (by simp), ih (fun s hs => hg s (List.mem_cons_of_mem _ hs))]; omega
/-- what is turned round with each side sums up to nothing over a closed mesh -/
theorem anti_sum (g : Sd → Int) {fs : List Fc} (hc : ClosedS fs) (hn : (allS fs).Nodup) (ha : ∀ s, g (rvS s) = - g s) : ((allS fs).map g).sum = 0 := by
  have hp : ((allS fs).map rvS).Perm (allS fs) := by
    rw [List.perm_ext_iff_of_nodup (nodup_map_on _ hn fun x _ y _ e => rvS_inj e) hn]
    intro s
    simp only [List.mem_map]
    constructor
    · rintro ⟨x, hx, rfl⟩; exact hc x hx
    · intro hs; exact ⟨rvS s, hc s hs, rvS_rvS s⟩
  have h1 := perm_sum (hp.map g)
  rw [List.map_map] at h1
  have h2 := sum_neg (allS fs) g (g ∘ rvS) (fun s _ => ha s)
  omega

def sum3 (g : Sd → Int) (f : Fc) : Int := g ⟨f.a, f.b⟩ + g ⟨f.b, f.c⟩ + g ⟨f.c, f.a⟩

theorem allS_sum (g : Sd → Int) (fs : List Fc) : ((allS fs).map g).sum = (fs.map (sum3 g)).sum := by
  induction fs with
  | nil => rfl
  | cons f l ih =>
    have e : allS (f :: l) = sdsOf f ++ allS l := rfl
    rw [e, List.map_append, List.sum_append, ih]
    simp only [sdsOf, List.map_cons, List.map_nil, List.sum_cons, List.sum_nil, sum3]; omega

theorem sum_add3 {F G : Fc → Int} (g : Sd → Int) {fs : List Fc} (h : ∀ f ∈ fs, F f = G f + sum3 g f) : (fs.map F).sum = (fs.map G).sum + (fs.map (sum3 g)).sum := by
  induction fs with
  | nil => rfl
  | cons f l ih =>
    simp only [List.map_cons, List.sum_cons]
    rw [h f (by simp), ih (fun x hx => h x (List.mem_cons_of_mem _ hx))]; omega
/-- two ways to sum up over the faces that differ by what is turned round with each side -/
theorem closed_same {F G : Fc → Int} (g : Sd → Int) {fs : List Fc} (hc : ClosedS fs) (hn : (allS fs).Nodup) (ha : ∀ s, g (rvS s) = - g s) (h : ∀ f ∈ fs, F f = G f + sum3 g f) : (fs.map F).sum = (fs.map G).sum := by
  rw [sum_add3 g h, ← allS_sum, anti_sum g hc hn ha]; omega

def plusV (t v : V3) : V3 := ⟨v.x + t.x, v.y + t.y, v.z + t.z⟩

end Go.Bl
namespace Go.Proofs.YtkcchcnljanloaaGreat
open Go Go.RowKit Go.Bl
/-- prisms down to the height 0 -/
def prismV (vs : List V3) (f : Fc) : Int := ((atV vs f.a).z + (atV vs f.b).z + (atV vs f.c).z) * (normV vs f).z

def edgeZ (a b : V3) : Int := (a.z + b.z) * (crossV a b).z

theorem edgeZ_anti (a b : V3) : edgeZ b a = - edgeZ a b := by
  unfold edgeZ crossV
  grind

theorem prism_eq (vs : List V3) (f : Fc) : prismV vs f = partV vs f + (edgeZ (atV vs f.a) (atV vs f.b) + edgeZ (atV vs f.b) (atV vs f.c) + edgeZ (atV vs f.c) (atV vs f.a)) := by
  unfold prismV partV edgeZ normV dotV crossV lessV
  grind

theorem prism_sum (vs : List V3) {fs : List Fc} (hc : ClosedS fs) (hn : (allS fs).Nodup) : (fs.map (prismV vs)).sum = volS vs fs :=
  closed_same (fun s => edgeZ (atV vs s.u) (atV vs s.v)) hc hn (fun s => edgeZ_anti _ _) (fun f _ => prism_eq vs f)

end Go.Proofs.YtkcchcnljanloaaGreat

namespace Go.Proofs.YtkcchcnljanloaaGreat
open Go.RowKit Go.Bl

def volK (k : Nat) : Int := ((pyrF.take k).map (partV pyrV)).sum

def pyrAt (k : Nat) : Fc := pyrF.getD k ⟨0, 0, 0⟩

theorem volK_succ : ∀ k, k < 4 → volK (k + 1) = volK k + partV pyrV (pyrAt k) ∧ (-1000 ≤ volK k ∧ volK k ≤ 1000) ∧ (-1000 ≤ partV pyrV (pyrAt k) ∧ partV pyrV (pyrAt k) ≤ 1000) ∧ inF pyrV.length (pyrAt k) = true := by decide

set_option maxHeartbeats 2000000 in
set_option maxRecDepth 100000 in
theorem volumePyr_any (A B : Option Addr) (w : World) (hA : Sl w 0 A pyrV) (hB : Sl w 0 B pyrF) : Calls Tryz.prog 11 #[.agg #[.slice A 4 4, .slice B 4 4]] w fun e w' => e = .returned (.tuple #[.int .i64 216, .int .i64 0]) ∧ w.grownBy w' none := by
  have hg0 := gr_alloc (World.grownBy.refl w none) (.cells #[.slice A 4 4, .slice B 4 4] 29)
  have b0 := Cell.new w [.slice A 4 4, .slice B 4 4] 29 0 _ rfl _ rfl
  have b1 := Cell.new w [.slice A 4 4, .slice B 4 4] 29 1 _ rfl _ rfl
  go_enter Tryz.func11, Tryz.ntmps11
  go_wp2_with fail
  refine (closedPyr_any A B _ (hA.pure hg0) (hB.pure hg0)).mono ?_
  rintro e w1 ⟨rfl, hg1⟩
  have b0 := (b0.gr hg1 (by simp)).1
  have b1 := (b1.gr hg1 (by simp)).1
  have hg2 := gr_trans hg0 hg1
  clear hg0 hg1
  go_wp2_with fail
  have hW := World.grownBy.refl w1 none
  go_loopw [5, 16] (fun o i wr => ∃ k : Nat, k ≤ 4 ∧ i = .int .i64 k ∧ o = .int .i64 (volK k) ∧ w.grownBy wr none ∧ w1.grownBy wr none) (fun _ i _ => 4 - (intOf i).toNat)
  case atStart => exact ⟨0, by omega, rfl, rfl, hg2, hW⟩
  case round =>
    obtain ⟨k, hk, rfl, rfl, hg, hgW⟩ := hrel
    by_cases hlt : k < 4
    · obtain ⟨hv1, hv2, hv3, hv4⟩ := volK_succ k hlt
      have d0 := hgW.k b0
      have d1 := hgW.k b1
      have hlt0 : w.heap.size < wr.heap.size := cell_lt d0
      obtain ⟨g, o, rfl, hb0, hb1, hc⟩ := (hB.pure hg).fc (by decide)
      have hlt' : k < pyrF.length := hlt
      have hpe : pyrF[k] = pyrAt k := by simp [pyrAt, hlt']
      obtain ⟨v0, v1, v2⟩ := hc k hlt'
      rw [hpe] at v0 v1 v2
      clear hpe
      clear hc
      replace hv1 := hide hv1
      replace hv4 := hide hv4
      generalize pyrAt k = f at *
      go_wp2_with fail
      refine (part_any A 4 pyrV _ 4 4 f _ (hA.pure (gr_alloc hg _)) (by decide) hv4.out).mono ?_
      rintro e w' ⟨rfl, hg'⟩
      generalize partV pyrV f = X at *
      generalize hVk : volK k = V at *
      go_wp2_with fail
      (go_roundw; (case rel => exact ⟨k + 1, by omega, by go_num, by rw [hv1.out], (by repeat (first | exact World.grownBy.refl _ _ | assumption | refine gr_alloc ?_ _ | (apply gr_tail; assumption) | refine gr_drewN ?_ _ | refine gr_drew ?_)), (by repeat (first | exact World.grownBy.refl _ _ | assumption | refine gr_alloc ?_ _ | (apply gr_tail; assumption) | refine gr_drewN ?_ _ | refine gr_drew ?_))⟩); (case measure => simp [intOf]; omega))
    · have hk4 : k = 4 := by omega
      subst hk4
      rw [show volK 4 = 216 by decide]
      go_wp2
      exact bodyPost_ret (v := .tuple #[.int .i64 216, .int .i64 0]) (by simp [results, Tryz.results11, go_sem]) rfl ⟨rfl, hg⟩

theorem meshed_any (w : World) : Calls Tryz.prog 13 #[] w fun e w' => e = .returned (.bool true) ∧ w.grownBy w' none := by
  go_enter Tryz.func13, Tryz.ntmps13
  go_wp2_with fail
  refine (pyramid_any _).mono ?_
  rintro e w1 ⟨A, B, rfl, hA, hB, hg1⟩
  go_wp2_with fail
  refine (volumePyr_any A B _ hA hB).mono ?_
  rintro e w2 ⟨rfl, hg2⟩
  go_wp2_with fail
  go_ret
  exact ⟨rfl, gr_trans hg1 hg2⟩

end Go.Proofs.YtkcchcnljanloaaGreat

namespace Go.Proofs.YtkcchcnljanloaaGreat
open Go.RowKit Go.Bl

def SVec (b : Nat) (N : Int) (w : World) (e : Ending) (w' : World) : Prop := ∃ v : V3, e = .returned (.agg #[.int .i64 v.x, .int .i64 v.y, .int .i64 v.z]) ∧ Bd 1000000000000000 v ∧ SOut b N w w'

set_option maxHeartbeats 2000000 in
theorem aVec_any (b : Nat) (N : Int) (w : World) (hs : Strm w b N) (hN : N ≤ 1000000000) :
    Calls Tryz.prog 27 #[.pointer (some ⟨b, 0, none⟩)] w (SVec b (N + 6) w) := by
  have hbw := hs.lt
  have ho0 : SOut b N w (w.alloc (.cells #[.int .i64 0, .int .i64 0, .int .i64 0] 38)) := (SOut.refl hs).pure (gr_alloc (World.grownBy.refl _ _) _)
  have q0 := Cell.new w [.int .i64 0, .int .i64 0, .int .i64 0] 38 0 _ rfl _ rfl
  have q1 := Cell.new w [.int .i64 0, .int .i64 0, .int .i64 0] 38 1 _ rfl _ rfl
  have q2 := Cell.new w [.int .i64 0, .int .i64 0, .int .i64 0] 38 2 _ rfl _ rfl
  obtain ⟨W, hW⟩ : ∃ W, W = w.alloc (.cells #[.int .i64 0, .int .i64 0, .int .i64 0] 38) := ⟨_, rfl⟩
  simp only [List.toArray] at q0 q1 q2
  rw [← hW] at ho0 q0 q1 q2
  have hWs : W.heap.size = w.heap.size + 1 := by rw [hW]; simp
  have hoW : SOut b N W W := SOut.refl ho0.2
  have hbW : b < W.heap.size := by omega
  have hne : (some b : Option Nat) ≠ some w.heap.size := by simp; omega
  replace hW := hide hW.symm
  replace q0 := hide q0
  replace q1 := hide q1
  replace q2 := hide q2
  have hWt : Hid (w.heap.size + 1 = W.heap.size) := hWs.symm
  replace hWs := hide hWs
  go_enter Tryz.func27, Tryz.ntmps27
  go_wp2_with fail
  rw [hW.out]
  refine (pick_any b (N) _ _ _ [0, 1, 3, -5, 100] _ ((hoW).2.pure (gr_alloc (World.grownBy.refl _ _) _)) (by omega) (sl_intsAt _ _ _ _ _ (by first | rfl | exact hWt.out | simp) (by have := (hoW).lt; omega) (by simp [maxLen])) rfl (by simp)).mono ?_
  rintro e w1 ⟨r1, rfl, hr1, ho1⟩
  have hoA := (hoW.pure (gr_alloc (World.grownBy.refl _ _) _)).trans ho1
  have b1 : Hid (-1000000000000000 ≤ r1 ∧ r1 ≤ 1000000000000000) := by simp at hr1; simp only [Hid]; omega
  clear hr1 ho1
  go_wp2_with fail
  refine (pick_any b (N + 1) _ _ _ [0, 2, -7, 50] _ ((hoA).2.pure (gr_alloc (World.grownBy.refl _ _) _)) (by omega) (sl_intsAt _ _ _ _ _ (by first | rfl | exact hWt.out | simp) (by have := (hoA).lt; omega) (by simp [maxLen])) rfl (by simp)).mono ?_
  rintro e w2 ⟨r2, rfl, hr2, ho2⟩
  have hoB := (hoA.pure (gr_alloc (World.grownBy.refl _ _) _)).trans ho2
  have b2 : Hid (-1000000000000000 ≤ r2 ∧ r2 ≤ 1000000000000000) := by simp at hr2; simp only [Hid]; omega
  clear hr2 ho2
  go_wp2_with fail
  refine (pick_any b (N + 1 + 1) _ _ _ [0, 0, 4, -2, 20] _ ((hoB).2.pure (gr_alloc (World.grownBy.refl _ _) _)) (by omega) (sl_intsAt _ _ _ _ _ (by first | rfl | exact hWt.out | simp) (by have := (hoB).lt; omega) (by simp [maxLen])) rfl (by simp)).mono ?_
  rintro e w3 ⟨r3, rfl, hr3, ho3⟩
  have hoC := (hoB.pure (gr_alloc (World.grownBy.refl _ _) _)).trans ho3
  have b3 : Hid (-1000000000000000 ≤ r3 ∧ r3 ≤ 1000000000000000) := by simp at hr3; simp only [Hid]; omega
  clear hr3 ho3 hoA hoB hoW
  have v0 := Cell.new w3 [.int .i64 r1, .int .i64 r2, .int .i64 r3] 38 0 _ rfl _ rfl
  have v1 := Cell.new w3 [.int .i64 r1, .int .i64 r2, .int .i64 r3] 38 1 _ rfl _ rfl
  have v2 := Cell.new w3 [.int .i64 r1, .int .i64 r2, .int .i64 r3] 38 2 _ rfl _ rfl
  have hbe := hoC.1.size
  have hne3 : (some b : Option Nat) ≠ some w3.heap.size := by simp; omega
  go_wp2_with fail
  refine (flip_any b (N + 1 + 1 + 1) _ _ (hoC.2.pure (gr_alloc (World.grownBy.refl _ _) _)) (by omega) (by omega)).mono ?_
  rintro e w4 ⟨r4, rfl, ho4⟩
  have hoD := (hoC.pure (gr_alloc (World.grownBy.refl _ _) _)).trans ho4
  obtain ⟨d0, f0⟩ := v0.gr ho4.1 hne3
  obtain ⟨d1, f1⟩ := v1.gr ho4.1 hne3
  obtain ⟨d2, f2⟩ := v2.gr ho4.1 hne3
  cases r4 with
  | false =>
    obtain ⟨c0, g0⟩ := q0.out.gr hoD.1 hne
    obtain ⟨c1, g1⟩ := q1.out.gr hoD.1 hne
    obtain ⟨c2, g2⟩ := q2.out.gr hoD.1 hne
    clear hoC ho4
    go_wp2_with fail
    exact bodyPost_ret (v := .agg #[.int .i64 r1, .int .i64 r2, .int .i64 r3]) (by simp [results, Tryz.results27, go_sem, c0, g0, c1, g1, c2, g2]) rfl ⟨⟨r1, r2, r3⟩, rfl, ⟨b1.out, b2.out, b3.out⟩, (((ho0.trans hoD).mono (by omega)).set hbw (Nat.le_refl _) _ |>.set hbw (Nat.le_refl _) _).set hbw (Nat.le_refl _) _⟩
  | true =>
    go_wp2_with fail
    refine (odd_any b (N + 1 + 1 + 1 + 1) _ _ _ hoD.2 (by omega) (by omega) (by omega) (by omega)).mono ?_
    rintro e w5 ⟨r5, rfl, hr5, ho5⟩
    have hoE := hoD.trans ho5
    obtain ⟨d0, f0⟩ := (v0.gr ho4.1 hne3).gr ho5.1 hne3
    obtain ⟨d1, f1⟩ := (v1.gr ho4.1 hne3).gr ho5.1 hne3
    obtain ⟨d2, f2⟩ := (v2.gr ho4.1 hne3).gr ho5.1 hne3
    obtain ⟨c0, g0⟩ := q0.out.gr hoE.1 hne
    obtain ⟨c1, g1⟩ := q1.out.gr hoE.1 hne
    obtain ⟨c2, g2⟩ := q2.out.gr hoE.1 hne
    have hne5 : w3.heap.size ≠ w.heap.size := by have := hWt.out; omega
    have hne6 : w.heap.size ≠ w3.heap.size := by omega
    have hle : w.heap.size ≤ w3.heap.size := by have := hWt.out; omega
    clear hoC ho4 hoD ho5
    replace hr5 := hide hr5
    go_wp2_with fail
    exact bodyPost_ret (v := .agg #[.int .i64 r5, .int .i64 r2, .int .i64 r3]) (by simp [results, Tryz.results27, go_sem, c0, g0, c1, g1, c2, g2, hne5, hne6]) rfl ⟨⟨r5, r2, r3⟩, rfl, ⟨hr5.out, b2.out, b3.out⟩, ((((ho0.trans hoE).mono (by omega)).set hbw hle _ |>.set hbw (Nat.le_refl _) _).set hbw (Nat.le_refl _) _).set hbw (Nat.le_refl _) _⟩

end Go.Proofs.YtkcchcnljanloaaGreat

namespace Go.Proofs.YtkcchcnljanloaaGreat
open Go.RowKit Go.Bl

theorem own_litAt {α : Type} [Enc α] [Flat α] (w : World) (lo : Nat) (cs : List Value) (t : TypeId) (l : List α) (g : Nat) (hg : g = w.heap.size) (hlo : lo ≤ w.heap.size) (hm : l.length ≤ maxLen) (hr : Row w lo l cs) :
    Own (w.alloc (.cells cs.toArray t)) lo t (some ⟨g, 0, none⟩) l.length l := by
  subst hg
  have hlen := hr.len
  exact ⟨hm, cs, hr.flat, hlen, .inr ⟨w.heap.size, l.length, cs.toArray, rfl, hlo, heap_alloc_new w _, Nat.le_refl _, hm, by simpa using hlen, by rw [← hlen]; simp⟩⟩

/-- a mesh under construction: two slices of one's own in two blocks -/
def MOwn (w : World) (lo : Nat) (A : Option Addr) (c : Nat) (vs : List V3) (B : Option Addr) (d : Nat) (fs : List Fc) : Prop :=
  Own w lo 38 A c vs ∧ Own w lo 58 B d fs ∧ ∀ g, blk A = some g → blk B ≠ some g

def FB (f : Fc) : Prop := (0 ≤ f.a ∧ f.a ≤ 7) ∧ (0 ≤ f.b ∧ f.b ≤ 7) ∧ 0 ≤ f.c ∧ f.c ≤ 7

instance (f : Fc) : Decidable (FB f) := by unfold FB; infer_instance

def SMesh0 (w : World) (nv nf : Nat) (e : Ending) (w' : World) : Prop := ∃ A c vs B d fs, e = .returned (.agg #[.slice A vs.length c, .slice B fs.length d]) ∧ vs.length = nv ∧ fs.length = nf ∧ MOwn w' w.heap.size A c vs B d fs ∧ (∀ f ∈ fs, inF nv f = true) ∧ w.grownBy w' none

theorem MOwn.gr {w w' : World} {lo : Nat} {A : Option Addr} {c : Nat} {vs : List V3} {B : Option Addr} {d : Nat} {fs : List Fc} (h : MOwn w lo A c vs B d fs) (hg : w.grownBy w' none) : MOwn w' lo A c vs B d fs := ⟨h.1.pure hg, h.2.1.pure hg, h.2.2⟩

set_option maxHeartbeats 2000000 in
set_option maxRecDepth 100000 in
theorem tetra_any (v : V3) (n : Int) (w : World) (hv : Bd 1000000000000000 v) (hn : 0 ≤ n ∧ n ≤ 1000) :
    Calls Tryz.prog 26 #[.agg #[.int .i64 v.x, .int .i64 v.y, .int .i64 v.z], .int .i64 n] w (SMesh0 w 4 4) := by
  obtain ⟨⟨v1, v2⟩, ⟨v3, v4⟩, v5, v6⟩ := hv
  go_enter Tryz.func26, Tryz.ntmps26
  go_wp2_with fail
  refine bodyPost_ret (v := .agg #[.slice (some (⟨w.heap.size + 1 + 1, 0, none⟩ : Addr)) 4 4, .slice (some (⟨w.heap.size + 1 + 1 + 1, 0, none⟩ : Addr)) 4 4]) (by simp [results, Tryz.results26, go_sem]) rfl ⟨_, _, [v, ⟨v.x + n, v.y, v.z⟩, ⟨v.x, v.y + n, v.z⟩, ⟨v.x, v.y, v.z + n⟩], _, _, pyrF, rfl, rfl, rfl, ⟨?_, ?_, ?_⟩, by decide, (by repeat (first | exact World.grownBy.refl _ _ | assumption | refine gr_alloc ?_ _ | (apply gr_tail; assumption) | refine gr_drewN ?_ _ | refine gr_drew ?_))⟩
  · exact (own_litAt _ _ _ 38 [v, ⟨v.x + n, v.y, v.z⟩, ⟨v.x, v.y + n, v.z⟩, ⟨v.x, v.y, v.z + n⟩] _ (by simp) (by simp; omega) (by simp [maxLen]) ⟨_, _, rfl, rfl, _, _, rfl, rfl, _, _, rfl, rfl, _, _, rfl, rfl, rfl⟩).pure (gr_alloc (World.grownBy.refl _ _) _)
  · exact own_litAt _ _ _ 58 pyrF _ (by simp) (by simp; omega) (by simp [pyrF, maxLen]) ⟨_, _, rfl, rfl, _, _, rfl, rfl, _, _, rfl, rfl, _, _, rfl, rfl, rfl⟩
  · intro g hg h2
    simp only [blk, Option.map_some, Option.some.injEq] at hg h2
    omega

end Go.Proofs.YtkcchcnljanloaaGreat

namespace Go.Proofs.YtkcchcnljanloaaGreat
open Go.RowKit Go.Bl

theorem _root_.Go.Bl.Cell.grew {α : Type} [Enc α] {w w' : World} {g o lo : Nat} {v : Value} {B B' : Option Addr} {e : TypeId} {c : Nat} {l : List α} (h : Cell w g o v) (hG : Grew B B' w w') (hb : Own w lo e B c l) (hlt : g < lo) : Cell w' g o v :=
  h.gr hG.1 (fun e => by have := hb.blk_lt e; omega)

theorem _root_.Go.Bl.Grew.row {α : Type} [Enc α] {w w1 w2 : World} {lo : Nat} {r : Option Nat} {B B' : Option Addr} {e : TypeId} {c : Nat} {l : List α} (hG : Grew B B' w1 w2) (hb : Own w1 lo e B c l) (h : w.grownBy w1 r) (hlo : w.heap.size ≤ lo) : w.grownBy w2 r :=
  gr_row h hG.1 (fun g e => by have := hb.blk_lt e; omega)

theorem FB_in {f : Fc} (h : FB f) : inF 8 f = true := by
  unfold FB at h
  simp [inF, inI]
  omega

def quadL : List Int := [0, 2, 3, 1, 4, 5, 7, 6, 0, 1, 5, 4, 2, 6, 7, 3, 0, 4, 6, 2, 1, 3, 7, 5]

theorem quad_at : ∀ j, j < 6 → ∃ a b c d : Int, quadL[j * 4]? = some a ∧ quadL[j * 4 + 1]? = some b ∧ quadL[j * 4 + 2]? = some c ∧ quadL[j * 4 + 3]? = some d ∧ FB ⟨a, b, c⟩ ∧ FB ⟨a, c, d⟩ := by
  intro j hj
  have : j = 0 ∨ j = 1 ∨ j = 2 ∨ j = 3 ∨ j = 4 ∨ j = 5 := by omega
  rcases this with rfl | rfl | rfl | rfl | rfl | rfl <;> exact ⟨_, _, _, _, rfl, rfl, rfl, rfl, by decide, by decide⟩

theorem quad_cell (w : World) (t : TypeId) (n : Nat) (a : Int) (h : quadL[n]? = some a) : Cell (w.alloc (.cells (quadL.map (Value.int .i64)).toArray t)) w.heap.size n (.int .i64 a) :=
  Cell.new w _ t n _ (by rw [List.getElem?_map, h]; rfl) _ rfl

set_option maxHeartbeats 4000000 in
set_option maxRecDepth 100000 in
theorem block_any (v : V3) (x y z : Int) (w : World) :
    Calls Tryz.prog 29 #[.agg #[.int .i64 v.x, .int .i64 v.y, .int .i64 v.z], .int .i64 x, .int .i64 y, .int .i64 z] w (SMesh0 w 8 12) := by
  obtain ⟨W, hW⟩ : ∃ W, W = ((w.alloc (.cells #[.int .i64 v.x, .int .i64 v.y, .int .i64 v.z] 38)).alloc (.cells #[.slice none 0 0, .slice none 0 0] 29)).alloc (.cells #[.slice none 0 0, .slice none 0 0] 29) := ⟨_, rfl⟩
  have hg0 : w.grownBy W none := by rw [hW]; exact (by repeat (first | exact World.grownBy.refl _ _ | assumption | refine gr_alloc ?_ _ | (apply gr_tail; assumption) | refine gr_drewN ?_ _ | refine gr_drew ?_))
  have hWs : W.heap.size = w.heap.size + 1 + 1 + 1 := by rw [hW]; simp
  have b0 : Cell W w.heap.size 0 (.int .i64 v.x) := by rw [hW]; exact ⟨by go_simp, by go_simp⟩
  have b1 : Cell W w.heap.size 1 (.int .i64 v.y) := by rw [hW]; exact ⟨by go_simp, by go_simp⟩
  have b2 : Cell W w.heap.size 2 (.int .i64 v.z) := by rw [hW]; exact ⟨by go_simp, by go_simp⟩
  have r0 : Cell W (w.heap.size + 1) 0 (.slice none 0 0) := by rw [hW]; exact ⟨by go_simp, by go_simp⟩
  have r1 : Cell W (w.heap.size + 1) 1 (.slice none 0 0) := by rw [hW]; exact ⟨by go_simp, by go_simp⟩
  have m0 : Cell W (w.heap.size + 1 + 1) 0 (.slice none 0 0) := by rw [hW]; exact ⟨by go_simp, by go_simp⟩
  have m1 : Cell W (w.heap.size + 1 + 1) 1 (.slice none 0 0) := by rw [hW]; exact ⟨by go_simp, by go_simp⟩
  replace hW := hide hW.symm
  replace hWs := hide hWs
  replace b0 := hide b0
  replace b1 := hide b1
  replace b2 := hide b2
  replace r0 := hide r0
  replace r1 := hide r1
  go_enter Tryz.func29, Tryz.ntmps29
  go_wp2_with fail
  rw [hW.out]
  go_loopw [13] (fun i wr => ∃ (k : Nat) (vs : List V3) (A : Option Addr) (c : Nat), k ≤ 8 ∧ i = .int .i64 k ∧ Hid (vs.length = k) ∧ Own wr W.heap.size 38 A c vs ∧ Cell wr (w.heap.size + 1 + 1) 0 (.slice A vs.length c) ∧ Cell wr (w.heap.size + 1 + 1) 1 (.slice none 0 0) ∧ W.grownBy wr (some (w.heap.size + 1 + 1))) (fun i _ => 8 - (intOf i).toNat)
  case atStart => exact ⟨0, [], none, 0, by omega, rfl, rfl, Own.nil _ _ _, m0, m1, World.grownBy.refl _ _⟩
  case round =>
    obtain ⟨k, vs, A, c, hk, rfl, hvl, hown, c0, c1, hg⟩ := hrel
    obtain ⟨c0, f0⟩ := c0
    obtain ⟨c1, f1⟩ := c1
    by_cases hlt : k < 8
    · obtain ⟨d0, _⟩ := b0.out.gr hg (fun e => by injection e with e; omega)
      obtain ⟨d1, _⟩ := b1.out.gr hg (fun e => by injection e with e; omega)
      obtain ⟨d2, _⟩ := b2.out.gr hg (fun e => by injection e with e; omega)
      have hsz := hg.size
      have hvl' : vs.length ≤ 8 := by have := hvl.out; omega
      go_wp2_with (at_builtin; obtain ⟨i0, hi, hz, h1, h2⟩ := info_parts info_v3; refine wpList_pushAt (α := V3) _ rfl (.tmp 17) (.tmp 41) _ rfl W.heap.size 38 i0 _ 24 Tryz.underlying26 hi hz h1 h2 rfl _ _ _ vs rfl ?c1 (by exact (hown.pure (gr_alloc (World.grownBy.refl _ _) _))) 0 ⟨_, 0, none⟩ 1 1 [⟨_, _, _⟩] rfl rfl (by exact (sl_oneAt _ 0 _ _ _ _ (by first | rfl | simp) (Nat.zero_le _) rfl)) ?c2 ?c3 ?c4 ?_)
      case c1 => rfl
      case c2 => first | omega | (simp; omega)
      case c3 => first | (simp [maxLen]; omega) | (unfold maxLen; omega)
      case c4 => first | omega | (simp; omega)
      intro A5 c5 w5 hown5 hG5
      have hga := gr_alloc hg
      clear d0 d1 d2
      obtain ⟨c0, f0⟩ := (Cell.gr ⟨c0, f0⟩ (gr_alloc (World.grownBy.refl wr none) _) (by simp)).grew hG5 (hown.pure (gr_alloc (World.grownBy.refl wr none) _)) (by have := hWs.out; omega)
      obtain ⟨c1, f1⟩ := (Cell.gr ⟨c1, f1⟩ (gr_alloc (World.grownBy.refl wr none) _) (by simp)).grew hG5 (hown.pure (gr_alloc (World.grownBy.refl wr none) _)) (by have := hWs.out; omega)
      have hg5 := hG5.row (hown.pure (gr_alloc (World.grownBy.refl wr none) _)) (gr_alloc hg _) (Nat.le_refl _)
      go_wp2_with fail
      have hgs := gr_set (World.grownBy.refl w5 (some (w.heap.size + 1 + 1))) (p := ⟨w.heap.size + 1 + 1, 0, none⟩) (.inl rfl) (.slice A5 (vs.length + 1) c5)
      (go_roundw; (case rel => exact ⟨k + 1, _, A5, c5, by omega, by go_num, by have := hvl.out; simp [Hid, this], hown5.ne hgs (fun g e1 e2 => by have := (hown5.blk_lt e1).1; have := hWs.out; injection e2; omega), by have := Cell.set_ ⟨c0, f0⟩ (.slice A5 (vs.length + 1) c5); simpa using this, Cell.set_ne ⟨c1, f1⟩ _ (by decide), gr_trans hg5 hgs⟩); (case measure => simp [intOf]; omega))
    · have hk8 : k = 8 := by omega
      subst hk8
      rw [show ((8 : Nat) : Int) = (8 : Int) from rfl]
      obtain ⟨d0, _⟩ := b0.out.gr hg (fun e => by injection e with e; omega)
      go_wp2_with fail
      obtain ⟨wp, rfl⟩ : ∃ x, x = wr := ⟨wr, rfl⟩
      obtain ⟨Wb, hWb⟩ : ∃ Wb, Wb = wp.alloc (.cells (quadL.map (Value.int .i64)).toArray 91) := ⟨_, rfl⟩
      have hQ := quad_cell wp 91
      rw [← hWb] at hQ
      have hga : wp.grownBy Wb none := by rw [hWb]; exact gr_alloc (World.grownBy.refl _ _) _
      have hWbs : Wb.heap.size = wp.heap.size + 1 := by rw [hWb]; simp
      have e0 := Cell.gr ⟨c0, f0⟩ hga (by simp)
      have e1 := Cell.gr ⟨c1, f1⟩ hga (by simp)
      have hAlt : ∀ g, blk A = some g → W.heap.size ≤ g ∧ g < wp.heap.size := fun g e => hown.blk_lt e
      have hown := hown.pure hga
      replace hQ := hide hQ
      simp only [quadL, List.map_cons, List.map_nil] at hWb
      replace hWb := hide hWb.symm
      have hgW := hg
      replace hg := gr_step hg hga
      replace hAlt := hide hAlt
      replace hWbs := hide hWbs
      have hmb := c0
      clear c0 f0 c1 f1 d0 hga
      rw [hWb.out]
      have hmlt : w.heap.size + 1 + 1 < wp.heap.size := cell_lt hmb
      clear hmb
      go_loopw [53] (fun i wr => ∃ (j : Nat) (fs : List Fc) (B : Option Addr) (d : Nat), j ≤ 6 ∧ i = .int .i64 j ∧ Hid (fs.length = 2 * j) ∧ Own wr Wb.heap.size 58 B d fs ∧ Cell wr (w.heap.size + 1 + 1) 0 (.slice A vs.length c) ∧ Cell wr (w.heap.size + 1 + 1) 1 (.slice B fs.length d) ∧ Hid (∀ f ∈ fs, FB f) ∧ Wb.grownBy wr (some (w.heap.size + 1 + 1))) (fun i _ => 6 - (intOf i).toNat)
      case atStart => exact ⟨0, [], none, 0, by omega, rfl, rfl, Own.nil _ _ _, e0, e1, by intro f hf; simp at hf, World.grownBy.refl _ _⟩
      case round =>
        obtain ⟨j, fs, B, d, hj, rfl, hfl, hownB, c0, c1, hFB, hgq⟩ := hrel
        by_cases hlj : j < 6
        · obtain ⟨q0, q1, q2, q3, x0, x1, x2, x3, y0, y1⟩ := quad_at j hlj
          have x0 := ((hQ.out _ _ x0).gr hgq (fun e => by injection e with e; omega)).1
          have x1 := ((hQ.out _ _ x1).gr hgq (fun e => by injection e with e; omega)).1
          have x2 := ((hQ.out _ _ x2).gr hgq (fun e => by injection e with e; omega)).1
          have x3 := ((hQ.out _ _ x3).gr hgq (fun e => by injection e with e; omega)).1
          have hlq : wp.heap.size < wr.heap.size := cell_lt x0
          have hmq : w.heap.size + 1 + 1 < wr.heap.size := by omega
          replace y0 := hide y0
          replace y1 := hide y1
          obtain ⟨c0, f0⟩ := c0
          obtain ⟨c1, f1⟩ := c1
          have hsz := hgq.size
          have hfl' : fs.length ≤ 12 := by have := hfl.out; omega
          go_wp2_with (at_builtin; obtain ⟨i0, hi, hz, h1, h2⟩ := info_parts info_face; refine wpList_pushAt (α := Fc) _ rfl (.tmp 58) (.tmp 73) _ rfl Wb.heap.size 58 i0 _ 24 Tryz.underlying27 hi hz h1 h2 rfl _ _ _ fs rfl ?c1 (by exact (hownB.pure (by repeat (first | exact World.grownBy.refl _ _ | assumption | refine gr_alloc ?_ _ | refine gr_drewN ?_ _ | refine gr_drew ?_)))) 0 ⟨_, 0, none⟩ 2 2 [⟨q0, q1, q2⟩, ⟨q0, q2, q3⟩] rfl rfl (by exact (sl_litAt _ 0 _ _ _ _ (by first | rfl | simp) (Nat.zero_le _) (by simp [maxLen]) ⟨_, _, rfl, rfl, _, _, rfl, rfl, rfl⟩)) ?c2 ?c3 ?c4 ?_)
          case c1 => rfl
          case c2 => first | omega | (simp; omega)
          case c3 => first | (simp [maxLen]; omega) | (unfold maxLen; omega)
          case c4 => first | omega | (simp; omega)
          intro A5 c5 w5 hown5 hG5
          have hgm := gr_alloc (gr_alloc (World.grownBy.refl wr none) (.cells #[.int .i64 q0, .int .i64 q1, .int .i64 q2, .int .i64 q3] 91)) (.cells #[.int .i64 q0, .int .i64 q1, .int .i64 q2, .int .i64 q0, .int .i64 q2, .int .i64 q3] 58)
          have hmlo : w.heap.size + 1 + 1 < Wb.heap.size := by have := hWbs.out; omega
          clear x0 x1 x2 x3
          obtain ⟨c0, f0⟩ := (Cell.gr ⟨c0, f0⟩ hgm (by simp)).grew hG5 (hownB.pure hgm) hmlo
          obtain ⟨c1, f1⟩ := (Cell.gr ⟨c1, f1⟩ hgm (by simp)).grew hG5 (hownB.pure hgm) hmlo
          have hg5 := hG5.row (hownB.pure hgm) (gr_step hgq hgm) (Nat.le_refl _)
          have hF5 : Hid (∀ f ∈ fs ++ [⟨q0, q1, q2⟩, ⟨q0, q2, q3⟩], FB f) := by
            intro f hf
            rcases List.mem_append.1 hf with hf | hf
            · exact hFB.out f hf
            · simp only [List.mem_cons, List.not_mem_nil, or_false] at hf
              rcases hf with rfl | rfl
              · exact y0.out
              · exact y1.out
          go_wp2_with fail
          have hgs := gr_set (World.grownBy.refl w5 (some (w.heap.size + 1 + 1))) (p := ⟨w.heap.size + 1 + 1, 1, none⟩) (.inl rfl) (.slice A5 (fs.length + 2) c5)
          (go_roundw; (case rel => exact ⟨j + 1, _, A5, c5, by omega, by go_num, by have := hfl.out; simp [Hid, this]; omega, hown5.ne hgs (fun g e1 e2 => by have := (hown5.blk_lt e1).1; injection e2; omega), Cell.set_ne ⟨c0, f0⟩ _ (by decide), by have := Cell.set_ ⟨c1, f1⟩ (.slice A5 (fs.length + 2) c5); simpa using this, hF5, gr_trans hg5 hgs⟩); (case measure => simp [intOf]; omega))
        · have hj6 : j = 6 := by omega
          subst hj6
          have hgr := gr_trans hg hgq
          obtain ⟨c0, f0⟩ := c0
          obtain ⟨c1, f1⟩ := c1
          obtain ⟨x0, y0⟩ := r0.out.gr hgr (fun e => by injection e with e; omega)
          obtain ⟨x1, y1⟩ := r1.out.gr hgr (fun e => by injection e with e; omega)
          have hne : ¬ w.heap.size + 1 + 1 = w.heap.size + 1 := by omega
          have hne2 : ¬ w.heap.size + 1 = w.heap.size + 1 + 1 := by omega
          go_wp2_with fail
          have hWs' := hWs.out
          have hWbs' := hWbs.out
          have hgs := fun (u : World) (v1 v2 : Value) => gr_set (gr_set (World.grownBy.refl u (some (w.heap.size + 1))) (p := ⟨w.heap.size + 1, 0, none⟩) (.inl rfl) v1) (p := ⟨w.heap.size + 1, 1, none⟩) (.inl rfl) v2
          refine bodyPost_ret (v := .agg #[.slice A vs.length c, .slice B fs.length d]) (by simp [results, Tryz.results29, go_sem, x0, x1, y0, y1]) rfl ⟨A, c, vs, B, d, fs, rfl, hvl.out, hfl.out, ⟨?_, ?_, ?_⟩, fun f hf => FB_in (hFB.out f hf), ?_⟩
          · exact (((hown.ne hgq (fun g e e2 => by have := hAlt.out g e; injection e2; omega)).ne (hgs _ _ _) (fun g e e2 => by have := hAlt.out g e; injection e2; omega))).lower (by omega)
          · exact (hownB.ne (hgs _ _ _) (fun g e e2 => by have := (hownB.blk_lt e).1; injection e2; omega)).lower (by omega)
          · intro g e e2
            have := hAlt.out g e
            have := (hownB.blk_lt e2).1
            omega
          · exact gr_set (gr_set (gr_row hg0 hgr (fun g e => by injection e; omega)) (.inr (by simp)) _) (.inr (by simp)) _

end Go.Proofs.YtkcchcnljanloaaGreat

namespace Go.Proofs.YtkcchcnljanloaaGreat
open Go Go.RowKit Go.Bl

theorem fcAt_get {fs : List Fc} {k : Nat} (h : k < fs.length) : fcAt fs k = fs[k] := by unfold fcAt; rw [List.getD_eq_getElem?_getD, List.getElem?_eq_getElem h, Option.getD_some]

theorem comp_closed {fs : List Fc} (hc : ClosedS fs) (i : Nat) : ClosedS ((compF fs i).map (fcAt fs)) := by
  intro s hs
  obtain ⟨f, hf, h1⟩ := List.mem_flatMap.1 hs
  obtain ⟨k, hk, rfl⟩ := List.mem_map.1 hf
  have hkr := mem_comp.1 hk
  have hkl := hkr.lt.2
  have hm : s ∈ allS fs := List.mem_flatMap.2 ⟨_, List.getElem_mem hkl, by rw [← fcAt_get hkl]; exact h1⟩
  obtain ⟨f2, hf2, h2⟩ := List.mem_flatMap.1 (hc s hm)
  obtain ⟨j, hj, rfl⟩ := List.getElem_of_mem hf2
  rw [← fcAt_get hj] at h2
  have ha : adjF fs k j := by
    have hk2 : ∀ {f : Fc} {s : Sd}, s ∈ sdsOf f → uSide s.u s.v ∈ keysF f := fun {f s} h => by
      simp only [sdsOf, List.mem_cons, List.not_mem_nil, or_false] at h
      simp only [keysF, List.mem_cons, List.not_mem_nil, or_false]
      rcases h with rfl | rfl | rfl
      · exact .inl rfl
      · exact .inr (.inl rfl)
      · exact .inr (.inr rfl)
    refine ⟨uSide s.u s.v, hk2 h1, ?_⟩
    have := hk2 h2
    rwa [show uSide (rvS s).u (rvS s).v = uSide s.u s.v by unfold uSide rvS; simp only [Int.min_comm, Int.max_comm]] at this
  exact List.mem_flatMap.2 ⟨_, List.mem_map.2 ⟨j, mem_comp.2 (.step hkr hj ha), rfl⟩, h2⟩

theorem allS_sub {a b : List Fc} (h : a.Sublist b) : (allS a).Sublist (allS b) := by
  induction h with
  | slnil => exact .slnil
  | cons x _ ih => exact ih.trans (List.sublist_append_right _ _)
  | cons_cons x _ ih => exact (List.Sublist.refl (sdsOf x)).append ih

theorem allS_sub_nodup {fs : List Fc} (hn : (allS fs).Nodup) {g : List Nat} (hg : ∀ k ∈ g, k < fs.length) (hs : g.Pairwise (· < ·)) : (allS (g.map (fcAt fs))).Nodup := by
  have hsub : (g.map (fcAt fs)).Sublist fs := by
    have h1 : g.Sublist (List.range fs.length) := by
      have e : g = (List.range fs.length).filter (fun k => decide (k ∈ g)) := by
        refine List.Perm.eq_of_pairwise (le := fun a b : Nat => a ≤ b) (fun a b _ _ h1 h2 => Nat.le_antisymm h1 h2) (hs.imp fun h => Nat.le_of_lt h) ((List.pairwise_lt_range.filter _).imp fun h => Nat.le_of_lt h) ?_
        refine (List.perm_ext_iff_of_nodup (hs.imp fun h => Nat.ne_of_lt h) (List.nodup_range.filter _)).2 fun k => ?_
        rw [List.mem_filter, List.mem_range, decide_eq_true_eq]
        exact ⟨fun h => ⟨hg k h, h⟩, fun h => h.2⟩
      rw [e]
      exact List.filter_sublist
    have h2 := h1.map (fcAt fs)
    have e : (List.range fs.length).map (fcAt fs) = fs := by
      apply List.ext_getElem
      · simp
      · intro k h1 h2
        simp only [List.getElem_map, List.getElem_range]
        exact fcAt_get h2
    rwa [e] at h2
  have : (allS (g.map (fcAt fs))).Sublist (allS fs) := by
    exact allS_sub hsub
  exact hn.sublist this

end Go.Proofs.YtkcchcnljanloaaGreat

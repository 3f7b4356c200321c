/- Contracts of functions that this seat's laws reach, each: what one call returns and what it leaves in memory; no condition beyond each theorem's own hypotheses. -/
import Derived.Test.YtkcchcnljanloaaGreatZqMeasD
import Derived.Test.YtkcchcnljanloaaGreatZqMeshOr
import Derived.Test.YtkcchcnljanloaaGreatZqNormalM
import Derived.BigQuiet
set_option linter.unusedVariables false
set_option linter.unusedSimpArgs false
namespace Go.Proofs.YtkcchcnljanloaaGreat
open Go Go.RowKit Go.Bl

theorem srtS_pw {l : List Sd} (h : SrtS l) : l.Pairwise fun a b => a.u < b.u ∨ (a.u = b.u ∧ a.v ≤ b.v) :=
  List.pairwise_iff_getElem.2 fun i j hi hj hij => by have := h i j hi hj hij; omega

theorem srtS_uniq {l m k : List Sd} (h1 : l.Perm k) (h2 : m.Perm k) (hl : SrtS l) (hm : SrtS m) : l = m :=
  List.Perm.eq_of_pairwise (fun a b _ _ q1 q2 => by cases a; cases b; simp only [Sd.mk.injEq] at *; omega) (srtS_pw hl) (srtS_pw hm) (h1.trans h2.symm)

set_option maxHeartbeats 1000000 in
theorem openBad_any (A : Option Addr) (c : Nat) (vs : List V3) (B : Option Addr) (d : Nat) (fs : List Fc) (w : World) (hl : Sl w 0 A vs) (hfs : Sl w 0 B fs) (hM : meshF ⟨vs, fs⟩ ≠ 0) :
    Calls Tryz.prog 7 #[.agg #[.slice A vs.length c, .slice B fs.length d]] w fun e w' => e = .returned (.tuple #[.slice none 0 0, .int .i64 (meshF ⟨vs, fs⟩)]) ∧ w.grownBy w' none := by
  have hg0 := gr_alloc (World.grownBy.refl w none) (.cells #[.slice A vs.length c, .slice B fs.length d] 29)
  have hCM := checkMesh_any A c vs B d fs _ (hl.pure hg0) (hfs.pure hg0)
  generalize meshF ⟨vs, fs⟩ = F at *
  have hb : (F != 0) = true := by simpa using hM
  replace hCM := hide hCM
  go_enter Tryz.func7, Tryz.ntmps7
  go_wp2_with fail
  refine hCM.out.mono ?_
  rintro e w1 ⟨rfl, hg1⟩
  clear hCM
  go_wp2_with fail
  exact bodyPost_ret (v := .tuple #[.slice none 0 0, .int .i64 F]) (by simp [results, Tryz.results7, go_sem]) rfl ⟨rfl, gr_trans hg0 hg1⟩

theorem when_any (b : Bool) (F : Int) (w : World) : Calls Tryz.prog 17 #[.bool b, .int .i64 F] w fun e w' => e = .returned (.int .i64 (if b then F else 0)) ∧ w = w' := by
  cases b
  · go_enter Tryz.func17, Tryz.ntmps17
    go_wp2_with fail
    go_ret
    exact ⟨rfl, rfl⟩
  · go_enter Tryz.func17, Tryz.ntmps17
    go_wp2_with fail
    go_ret
    exact ⟨rfl, rfl⟩

set_option maxHeartbeats 1000000 in
theorem normalBad_any (A : Option Addr) (c : Nat) (vs : List V3) (B : Option Addr) (d : Nat) (fs : List Fc) (i : Int) (w : World) (hl : Sl w 0 A vs) (hfs : Sl w 0 B fs) (hM : meshF ⟨vs, fs⟩ ≠ 0) :
    Calls Tryz.prog 10 #[.agg #[.slice A vs.length c, .slice B fs.length d], .int .i64 i] w fun e w' => e = .returned (.tuple #[.agg #[.int .i64 0, .int .i64 0, .int .i64 0], .int .i64 (meshF ⟨vs, fs⟩)]) ∧ w.grownBy w' none := by
  obtain ⟨W, hW⟩ : ∃ W, W = (w.alloc (.cells #[.slice A vs.length c, .slice B fs.length d] 29)).alloc (.cells #[.int .i64 0, .int .i64 0, .int .i64 0] 38) := ⟨_, rfl⟩
  have hgW : w.grownBy W none := by rw [hW]; exact (by repeat (first | exact World.grownBy.refl _ _ | assumption | refine gr_alloc ?_ _ | (apply gr_tail; assumption) | refine gr_drewN ?_ _ | refine gr_drew ?_))
  have hWs : W.heap.size = w.heap.size + 1 + 1 := by rw [hW]; simp
  have b0 : W.cell? ⟨w.heap.size, 0, none⟩ = some (.slice A vs.length c) := by rw [hW]; go_simp
  have b1 : W.cell? ⟨w.heap.size, 1, none⟩ = some (.slice B fs.length d) := by rw [hW]; go_simp
  have hL : Box3 W (w.heap.size + 1) ⟨0, 0, 0⟩ := by rw [hW]; exact ⟨⟨by go_simp, by go_simp⟩, ⟨by go_simp, by go_simp⟩, ⟨by go_simp, by go_simp⟩⟩
  have hCM := checkMesh_any A c vs B d fs W (hl.pure hgW) (hfs.pure hgW)
  generalize meshF ⟨vs, fs⟩ = F at *
  have hb : (F != 0) = true := by simpa using hM
  replace hCM := hide hCM
  go_enter Tryz.func10, Tryz.ntmps10
  go_upto_region 1 with fail
  rw [← hW]
  clear hW
  obtain ⟨x2, hx2⟩ : ∃ x, x = w.heap.size + 1 := ⟨_, rfl⟩
  have hw2 : w.heap.size ≤ x2 := by omega
  rw [← hx2] at hL ⊢
  clear hx2
  go_wp2_with fail
  refine hCM.out.mono ?_
  rintro e w1 ⟨rfl, hg1⟩
  clear hCM
  replace hL := hL.gr hg1 (by simp)
  replace b1 := hg1.k b1
  have hg := gr_trans hgW hg1
  have hL' := hL
  obtain ⟨⟨k0, f0⟩, ⟨k1, f1⟩, ⟨k2, f2⟩⟩ := hL'
  go_wp2_with fail
  clear k0 f0 k1 f1 k2 f2
  have s2 := gr_set3 (w := w1) x2 (.int .i64 0) (.int .i64 0) (.int .i64 0)
  have hL2 := hL.set ⟨0, 0, 0⟩
  have hg2 := gr_new hg s2 hw2
  simp only at hL2
  generalize ((w1.setCell ⟨x2, 0, none⟩ (.int .i64 0)).setCell ⟨x2, 1, none⟩ (.int .i64 0)).setCell ⟨x2, 2, none⟩ (.int .i64 0) = w2 at *
  obtain ⟨⟨k0, f0⟩, ⟨k1, f1⟩, ⟨k2, f2⟩⟩ := hL2
  exact bodyPost_ret (v := .tuple #[.agg #[.int .i64 0, .int .i64 0, .int .i64 0], .int .i64 (F)]) (by simp [results, Tryz.results10, go_sem, k0, k1, k2, f0, f1, f2]) rfl ⟨rfl, hg2⟩

set_option maxHeartbeats 1000000 in
theorem normalNone_any (A : Option Addr) (c : Nat) (vs : List V3) (B : Option Addr) (d : Nat) (fs : List Fc) (i : Int) (w : World) (hl : Sl w 0 A vs) (hfs : Sl w 0 B fs) (hM : meshF ⟨vs, fs⟩ = 0) (hi : i < 0 ∨ (fs.length : Int) ≤ i) :
    Calls Tryz.prog 10 #[.agg #[.slice A vs.length c, .slice B fs.length d], .int .i64 i] w fun e w' => e = .returned (.tuple #[.agg #[.int .i64 0, .int .i64 0, .int .i64 0], .int .i64 8]) ∧ w.grownBy w' none := by
  obtain ⟨W, hW⟩ : ∃ W, W = (w.alloc (.cells #[.slice A vs.length c, .slice B fs.length d] 29)).alloc (.cells #[.int .i64 0, .int .i64 0, .int .i64 0] 38) := ⟨_, rfl⟩
  have hgW : w.grownBy W none := by rw [hW]; exact (by repeat (first | exact World.grownBy.refl _ _ | assumption | refine gr_alloc ?_ _ | (apply gr_tail; assumption) | refine gr_drewN ?_ _ | refine gr_drew ?_))
  have hWs : W.heap.size = w.heap.size + 1 + 1 := by rw [hW]; simp
  have b0 : W.cell? ⟨w.heap.size, 0, none⟩ = some (.slice A vs.length c) := by rw [hW]; go_simp
  have b1 : W.cell? ⟨w.heap.size, 1, none⟩ = some (.slice B fs.length d) := by rw [hW]; go_simp
  have hL : Box3 W (w.heap.size + 1) ⟨0, 0, 0⟩ := by rw [hW]; exact ⟨⟨by go_simp, by go_simp⟩, ⟨by go_simp, by go_simp⟩, ⟨by go_simp, by go_simp⟩⟩
  have hCM := checkMesh_any A c vs B d fs W (hl.pure hgW) (hfs.pure hgW)
  rw [hM] at hCM
  clear hM
  replace hCM := hide hCM
  by_cases h0 : i < 0
  · clear hi
    go_enter Tryz.func10, Tryz.ntmps10
    go_upto_region 1 with fail
    rw [← hW]
    clear hW
    obtain ⟨x2, hx2⟩ : ∃ x, x = w.heap.size + 1 := ⟨_, rfl⟩
    have hw2 : w.heap.size ≤ x2 := by omega
    rw [← hx2] at hL ⊢
    clear hx2
    go_wp2_with fail
    refine hCM.out.mono ?_
    rintro e w1 ⟨rfl, hg1⟩
    clear hCM
    replace hL := hL.gr hg1 (by simp)
    replace b1 := hg1.k b1
    have hg := gr_trans hgW hg1
    have hL' := hL
    obtain ⟨⟨k0, f0⟩, ⟨k1, f1⟩, ⟨k2, f2⟩⟩ := hL'
    go_wp2_with fail
    clear k0 f0 k1 f1 k2 f2
    have s2 := gr_set3 (w := w1) x2 (.int .i64 0) (.int .i64 0) (.int .i64 0)
    have hL2 := hL.set ⟨0, 0, 0⟩
    have hg2 := gr_new hg s2 hw2
    simp only at hL2
    generalize ((w1.setCell ⟨x2, 0, none⟩ (.int .i64 0)).setCell ⟨x2, 1, none⟩ (.int .i64 0)).setCell ⟨x2, 2, none⟩ (.int .i64 0) = w2 at *
    obtain ⟨⟨k0, f0⟩, ⟨k1, f1⟩, ⟨k2, f2⟩⟩ := hL2
    exact bodyPost_ret (v := .tuple #[.agg #[.int .i64 0, .int .i64 0, .int .i64 0], .int .i64 (8)]) (by simp [results, Tryz.results10, go_sem, k0, k1, k2, f0, f1, f2]) rfl ⟨rfl, hg2⟩
  · have h1 : (fs.length : Int) ≤ i := by omega
    clear hi
    go_enter Tryz.func10, Tryz.ntmps10
    go_upto_region 1 with fail
    rw [← hW]
    clear hW
    obtain ⟨x2, hx2⟩ : ∃ x, x = w.heap.size + 1 := ⟨_, rfl⟩
    have hw2 : w.heap.size ≤ x2 := by omega
    rw [← hx2] at hL ⊢
    clear hx2
    go_wp2_with fail
    refine hCM.out.mono ?_
    rintro e w1 ⟨rfl, hg1⟩
    clear hCM
    replace hL := hL.gr hg1 (by simp)
    replace b1 := hg1.k b1
    have hg := gr_trans hgW hg1
    have hL' := hL
    obtain ⟨⟨k0, f0⟩, ⟨k1, f1⟩, ⟨k2, f2⟩⟩ := hL'
    go_wp2_with fail
    clear k0 f0 k1 f1 k2 f2
    have s2 := gr_set3 (w := w1) x2 (.int .i64 0) (.int .i64 0) (.int .i64 0)
    have hL2 := hL.set ⟨0, 0, 0⟩
    have hg2 := gr_new hg s2 hw2
    simp only at hL2
    generalize ((w1.setCell ⟨x2, 0, none⟩ (.int .i64 0)).setCell ⟨x2, 1, none⟩ (.int .i64 0)).setCell ⟨x2, 2, none⟩ (.int .i64 0) = w2 at *
    obtain ⟨⟨k0, f0⟩, ⟨k1, f1⟩, ⟨k2, f2⟩⟩ := hL2
    exact bodyPost_ret (v := .tuple #[.agg #[.int .i64 0, .int .i64 0, .int .i64 0], .int .i64 (8)]) (by simp [results, Tryz.results10, go_sem, k0, k1, k2, f0, f1, f2]) rfl ⟨rfl, hg2⟩

set_option maxHeartbeats 1600000 in
theorem sameSides_any (A : Option Addr) (c : Nat) (l : List Sd) (B : Option Addr) (d : Nat) (w : World) (hl : Sl w 0 A l) (hm : Sl w 0 B l) :
    Calls Tryz.prog 21 #[.slice A l.length c, .slice B l.length d] w fun e w' => e = .returned (.bool true) ∧ w.grownBy w' none := by
  have hm1 := hl.1
  unfold maxLen at hm1
  go_enter Tryz.func21, Tryz.ntmps21
  go_wp2
  go_loopw [13] (fun i wr => ∃ k : Nat, k ≤ l.length ∧ i = .int .i64 k ∧ w.grownBy wr none) (fun i _ => l.length - (intOf i).toNat)
  case atStart => exact ⟨0, Nat.zero_le _, rfl, World.grownBy.refl _ _⟩
  case round =>
    obtain ⟨k, hk, rfl, hg⟩ := hrel
    by_cases hlt : k < l.length
    · obtain ⟨g, o, cx, rfl, hb0, hb1, rfl, hc⟩ := (hl.pure hg).at_ (by decide) hlt
      have c0 : wr.cell? ⟨g, o + k * 2, none⟩ = some (.int .i64 l[k].u) := hc 0 _ rfl
      have c1 : wr.cell? ⟨g, o + k * 2 + 1, none⟩ = some (.int .i64 l[k].v) := hc 1 _ rfl
      clear hc
      obtain ⟨g', o', cx, rfl, hb0', hb1', rfl, hc⟩ := (hm.pure hg).at_ (by decide) hlt
      have c0' : wr.cell? ⟨g', o' + k * 2, none⟩ = some (.int .i64 l[k].u) := hc 0 _ rfl
      have c1' : wr.cell? ⟨g', o' + k * 2 + 1, none⟩ = some (.int .i64 l[k].v) := hc 1 _ rfl
      clear hc
      have hi0 : (0 : Int) ≤ (k : Int) ∧ (k : Int) < l.length := by omega
      go_wp2_with fail
      go_quiet (fail)
      go_wp2
      (go_roundw; (case rel => exact ⟨k + 1, by omega, by go_num, gr_drewN hg _⟩); (case measure => simp [intOf]; omega))
    · go_wp2
      go_ret
      exact ⟨rfl, hg⟩

set_option maxHeartbeats 1600000 in
theorem eqRows_any (A : Option Addr) (c : Nat) (l : List (List Int)) (B : Option Addr) (d : Nat) (w : World) (hl : Sl w 0 A l) (hm : Sl w 0 B l) :
    Calls Tryz.prog 22 #[.slice A l.length c, .slice B l.length d, .func (.func 24) #[] #[]] w fun e w' => e = .returned (.bool true) ∧ w.grownBy w' none := by
  have hm1 := hl.1
  unfold maxLen at hm1
  go_enter Tryz.func22, Tryz.ntmps22
  go_wp2
  go_loopw [17] (fun i wr => ∃ k : Nat, k ≤ l.length ∧ i = .int .i64 k ∧ w.grownBy wr none) (fun i _ => l.length - (intOf i).toNat)
  case atStart => exact ⟨0, Nat.zero_le _, rfl, World.grownBy.refl _ _⟩
  case round =>
    obtain ⟨k, hk, rfl, hg⟩ := hrel
    by_cases hlt : k < l.length
    · obtain ⟨g, o, c1, rfl, hb0, hb1, ⟨A', c', rfl, hcp, hp⟩, hc⟩ := (hl.pure hg).at_ (by decide) hlt
      have c0 := hc 0 _ rfl
      rw [show Enc.sz (List Int) = 1 from rfl, Nat.mul_one, Nat.add_zero] at c0
      clear hc
      obtain ⟨g2, o2, c2, rfl, hb2, hb3, ⟨A2, c2', rfl, hcp2, hp2⟩, hc⟩ := (hm.pure hg).at_ (by decide) hlt
      have d0 := hc 0 _ rfl
      rw [show Enc.sz (List Int) = 1 from rfl, Nat.mul_one, Nat.add_zero] at d0
      clear hc
      have hi0 : (0 : Int) ≤ (k : Int) ∧ (k : Int) < l.length := by omega
      have hE := equalInts_any A' A2 c' c2' l[k] l[k] wr hp hp2
      rw [eqB_refl] at hE
      replace hcp := hide hcp
      replace hcp2 := hide hcp2
      generalize l[k] = q at *
      go_wp2_with fail
      refine hE.mono ?_
      rintro e w10 ⟨rfl, hg10⟩
      go_wp2_with fail
      (go_roundw; (case rel => exact ⟨k + 1, by omega, by go_num, hg.t hg10⟩); (case measure => simp [intOf]; omega))
    · go_wp2
      go_ret
      exact ⟨rfl, hg⟩

end Go.Proofs.YtkcchcnljanloaaGreat

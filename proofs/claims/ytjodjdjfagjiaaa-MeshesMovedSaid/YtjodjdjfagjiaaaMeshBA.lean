/- Contracts of functions that this seat's laws reach, each: what one call returns and what it leaves in memory; no condition beyond each theorem's own hypotheses. -/
import Derived.Test.YtjodjdjfagjiaaaMeshL
import Derived.Test.YtjodjdjfagjiaaaKit3
set_option linter.unusedVariables false
set_option linter.unusedSimpArgs false
namespace Go.Proofs.Ytjodjdjfagjiaaa
open Go.RowKit Go.Bl

set_option maxHeartbeats 400000 in
theorem cloneV3_any (A : Option Addr) (c : Nat) (l : List V3) (w : World) (hl : Sl w 0 A l) (hlen : l.length ≤ 1000000) :
    Calls Try.prog 73 #[.slice A l.length c] w fun e w' => ∃ A' c', e = .returned (.slice A' l.length c') ∧ Own w' w.heap.size 49 A' c' l ∧ w.grownBy w' none := by
  obtain ⟨i0, hi, hz, h1, h2⟩ := info_parts info_v3
  have hq := fun W => Lib.run_eql_slice_nil (P := Try.prog) W 26 49 A l.length c 0 0 Try.underlying26
  rcases A with _ | ad
  · have hl0 : l = [] := by
      rcases Nat.eq_zero_or_pos l.length with h | h
      · exact List.eq_nil_of_length_eq_zero h
      · obtain ⟨g, o, cx, e, _⟩ := hl.at_ (by decide) h
        cases e
    subst hl0
    simp only [List.length_nil] at hq
    go_enter Try.func73, Try.ntmps73
    go_wp2_with fail
    go_ret
    exact ⟨none, 0, rfl, Own.nil _ _ _, World.grownBy.refl _ _⟩
  · go_enter Try.func73, Try.ntmps73
    go_wp2_with (at_builtin; refine wpList_push _ rfl (.tmp 5) (.tmp 6) _ rfl w.heap.size 49 i0 _ 24 Try.underlying26 hi hz h1 h2 rfl _ _ _ [] rfl rfl (by exact Own.empty _ _ _ (Nat.le_refl _)) 0 ad _ c l rfl rfl (by exact hl.pure (gr_alloc (World.grownBy.refl _ _) _)) ?c2 ?c3 ?c4 ?_)
    case c2 => simp; omega
    case c3 => simp [maxLen]; omega
    case c4 => simp
    intro A2 c2 w2 hown hup
    go_wp2
    go_ret
    exact ⟨A2, c2, rfl, hown, hup.gr (Nat.le_refl _) (gr_alloc (World.grownBy.refl _ _) _)⟩

set_option maxHeartbeats 400000 in
theorem cloneFc_any (A : Option Addr) (c : Nat) (l : List Fc) (w : World) (hl : Sl w 0 A l) (hlen : l.length ≤ 1000000) :
    Calls Try.prog 79 #[.slice A l.length c] w fun e w' => ∃ A' c', e = .returned (.slice A' l.length c') ∧ Own w' w.heap.size 67 A' c' l ∧ w.grownBy w' none := by
  obtain ⟨i0, hi, hz, h1, h2⟩ := info_parts info_face
  have hq := fun W => Lib.run_eql_slice_nil (P := Try.prog) W 27 67 A l.length c 0 0 Try.underlying27
  rcases A with _ | ad
  · have hl0 : l = [] := by
      rcases Nat.eq_zero_or_pos l.length with h | h
      · exact List.eq_nil_of_length_eq_zero h
      · obtain ⟨g, o, cx, e, _⟩ := hl.at_ (by decide) h
        cases e
    subst hl0
    simp only [List.length_nil] at hq
    go_enter Try.func79, Try.ntmps79
    go_wp2_with fail
    go_ret
    exact ⟨none, 0, rfl, Own.nil _ _ _, World.grownBy.refl _ _⟩
  · go_enter Try.func79, Try.ntmps79
    go_wp2_with (at_builtin; refine wpList_push _ rfl (.tmp 5) (.tmp 6) _ rfl w.heap.size 67 i0 _ 24 Try.underlying27 hi hz h1 h2 rfl _ _ _ [] rfl rfl (by exact Own.empty _ _ _ (Nat.le_refl _)) 0 ad _ c l rfl rfl (by exact hl.pure (gr_alloc (World.grownBy.refl _ _) _)) ?c2 ?c3 ?c4 ?_)
    case c2 => simp; omega
    case c3 => simp [maxLen]; omega
    case c4 => simp
    intro A2 c2 w2 hown hup
    go_wp2
    go_ret
    exact ⟨A2, c2, rfl, hown, hup.gr (Nat.le_refl _) (gr_alloc (World.grownBy.refl _ _) _)⟩

theorem v3_ext {a b : V3} (h1 : a.x = b.x) (h2 : a.y = b.y) (h3 : a.z = b.z) : a = b := by cases a; cases b; simp_all
theorem fc_ext {a b : Fc} (h1 : a.a = b.a) (h2 : a.b = b.b) (h3 : a.c = b.c) : a = b := by cases a; cases b; simp_all

set_option maxHeartbeats 1600000 in
theorem equalV3_any (A : Option Addr) (c : Nat) (l : List V3) (B : Option Addr) (d : Nat) (m : List V3) (w : World) (hl : Sl w 0 A l) (hm : Sl w 0 B m) :
    Calls Try.prog 75 #[.slice A l.length c, .slice B m.length d] w fun e w' => e = .returned (.bool (eqB l m)) ∧ w.grownBy w' none := by
  have hm1 := hl.1
  have hm2 := hm.1
  unfold maxLen at hm1 hm2
  by_cases hlen : l.length = m.length
  · have hb : (l.length != m.length) = false := by simp [hlen]
    have hb2 : ((l.length : Int) != m.length) = false := by simp [hlen]
    replace hlen := hide hlen
    go_enter Try.func75, Try.ntmps75
    go_wp2
    go_loopw [13] (fun i wr => ∃ k : Nat, k ≤ l.length ∧ i = .int .i64 k ∧ w.grownBy wr none ∧ Hid (l.take k = m.take k)) (fun i _ => l.length - (intOf i).toNat)
    case atStart => exact ⟨0, Nat.zero_le _, rfl, World.grownBy.refl _ _, rfl⟩
    case round =>
      obtain ⟨k, hk, rfl, hg, hq⟩ := hrel
      by_cases hlt : k < l.length
      · have hlt2 : k < m.length := by rw [← hlen.out]; exact hlt
        obtain ⟨g, o, cx, rfl, hb0, hb1, rfl, hc⟩ := (hl.pure hg).at_ (by decide) hlt
        have c0 : wr.cell? ⟨g, o + k * 3, none⟩ = some (.int .i64 l[k].x) := hc 0 _ rfl
        have c1 : wr.cell? ⟨g, o + k * 3 + 1, none⟩ = some (.int .i64 l[k].y) := hc 1 _ rfl
        have c2 : wr.cell? ⟨g, o + k * 3 + 2, none⟩ = some (.int .i64 l[k].z) := hc 2 _ rfl
        clear hc
        obtain ⟨g', o', cx, rfl, hb0', hb1', rfl, hc⟩ := (hm.pure hg).at_ (by decide) hlt2
        have c0' : wr.cell? ⟨g', o' + k * 3, none⟩ = some (.int .i64 m[k].x) := hc 0 _ rfl
        have c1' : wr.cell? ⟨g', o' + k * 3 + 1, none⟩ = some (.int .i64 m[k].y) := hc 1 _ rfl
        have c2' : wr.cell? ⟨g', o' + k * 3 + 2, none⟩ = some (.int .i64 m[k].z) := hc 2 _ rfl
        clear hc
        have HS : Hid (l[k] = m[k] → l.take (k + 1) = m.take (k + 1)) := fun h => by rw [take_snoc hlt, take_snoc hlt2, hq.out, h]
        have HN : Hid (l[k] ≠ m[k] → eqB l m = false) := fun h => eqB_ne hlt hlt2 h
        go_wp2_with fail
        refine wp_region_fix 8 ((fun wx => wr.grownBy wx none)) (by kernel_rfl) (by kernel_rfl) (gr_drew (World.grownBy.refl _ _)) ?_
        simp only [List.take_succ_cons, List.take_zero, List.drop_succ_cons, List.drop_zero]
        iterate 3 ((refine fix_b (fun K hK => ?_); apply Exists.intro; refine ⟨fun wx hC K' hK' => ?_, ?_⟩; (focus (replace hK' := hide hK'; skip; go_wp2_with fail; exact hK'.out _ hC)); go_simp; refine hK _ ?_; clear hK K))
        (refine fix_b (fun K hK => ?_); apply Exists.intro; refine ⟨fun wx hC K' hK' => ?_, ?_⟩; (focus (replace hK' := hide hK'; (have b0 := hC.k c0; have b1 := hC.k c1; have b2 := hC.k c2); go_wp2_with fail; exact hK'.out _ hC)); go_simp; refine hK _ ?_; clear hK K)
        iterate 3 ((refine fix_b (fun K hK => ?_); apply Exists.intro; refine ⟨fun wx hC K' hK' => ?_, ?_⟩; (focus (replace hK' := hide hK'; skip; go_wp2_with fail; exact hK'.out _ hC)); go_simp; refine hK _ ?_; clear hK K))
        (refine fix_b (fun K hK => ?_); apply Exists.intro; refine ⟨fun wx hC K' hK' => ?_, ?_⟩; (focus (replace hK' := hide hK'; (have b0 := hC.k c0'; have b1 := hC.k c1'; have b2 := hC.k c2'); go_wp2_with fail; exact hK'.out _ hC)); go_simp; refine hK _ ?_; clear hK K)
        refine fix_nil ?_
        intro wz hC
        go_wp2_with fail
        all_goals first
          | (go_ret; exact ⟨ret_bool (HN.out (fun h => by simp_all)).symm, (by repeat (first | exact World.grownBy.refl _ _ | assumption | refine gr_alloc ?_ _ | (apply gr_tail; assumption) | refine gr_drewN ?_ _ | refine gr_drew ?_))⟩)
          | (go_roundw; (case rel => exact ⟨k + 1, by omega, by go_num, (by repeat (first | exact World.grownBy.refl _ _ | assumption | refine gr_alloc ?_ _ | (apply gr_tail; assumption) | refine gr_drewN ?_ _ | refine gr_drew ?_)), HS.out (v3_ext ‹_› ‹_› ‹_›)⟩); (case measure => simp [intOf]; omega))
          | (go_roundw; (case rel => exact ⟨k + 1, by omega, by go_num, (by repeat (first | exact World.grownBy.refl _ _ | assumption | refine gr_alloc ?_ _ | (apply gr_tail; assumption) | refine gr_drewN ?_ _ | refine gr_drew ?_)), HS.out (by apply v3_ext <;> simp_all)⟩); (case measure => simp [intOf]; omega))
      · have HB : Hid (eqB l m = true) := eqB_all hlen.out (by have := hq.out; rwa [show k = l.length by omega] at this)
        go_wp2
        go_ret
        exact ⟨ret_bool HB.out.symm, hg⟩
  · have hb : (l.length != m.length) = true := by simp [hlen]
    have hb2 : ((l.length : Int) != m.length) = true := by simp; omega
    have HB := hide (eqB_len hlen)
    clear hlen
    go_enter Try.func75, Try.ntmps75
    go_wp2
    go_ret
    exact ⟨ret_bool HB.out.symm, World.grownBy.refl _ _⟩

set_option maxHeartbeats 1600000 in
theorem equalFc_any (A : Option Addr) (c : Nat) (l : List Fc) (B : Option Addr) (d : Nat) (m : List Fc) (w : World) (hl : Sl w 0 A l) (hm : Sl w 0 B m) :
    Calls Try.prog 76 #[.slice A l.length c, .slice B m.length d] w fun e w' => e = .returned (.bool (eqB l m)) ∧ w.grownBy w' none := by
  have hm1 := hl.1
  have hm2 := hm.1
  unfold maxLen at hm1 hm2
  by_cases hlen : l.length = m.length
  · have hb : (l.length != m.length) = false := by simp [hlen]
    have hb2 : ((l.length : Int) != m.length) = false := by simp [hlen]
    replace hlen := hide hlen
    go_enter Try.func76, Try.ntmps76
    go_wp2
    go_loopw [13] (fun i wr => ∃ k : Nat, k ≤ l.length ∧ i = .int .i64 k ∧ w.grownBy wr none ∧ Hid (l.take k = m.take k)) (fun i _ => l.length - (intOf i).toNat)
    case atStart => exact ⟨0, Nat.zero_le _, rfl, World.grownBy.refl _ _, rfl⟩
    case round =>
      obtain ⟨k, hk, rfl, hg, hq⟩ := hrel
      by_cases hlt : k < l.length
      · have hlt2 : k < m.length := by rw [← hlen.out]; exact hlt
        obtain ⟨g, o, cx, rfl, hb0, hb1, rfl, hc⟩ := (hl.pure hg).at_ (by decide) hlt
        have c0 : wr.cell? ⟨g, o + k * 3, none⟩ = some (.int .i64 l[k].a) := hc 0 _ rfl
        have c1 : wr.cell? ⟨g, o + k * 3 + 1, none⟩ = some (.int .i64 l[k].b) := hc 1 _ rfl
        have c2 : wr.cell? ⟨g, o + k * 3 + 2, none⟩ = some (.int .i64 l[k].c) := hc 2 _ rfl
        clear hc
        obtain ⟨g', o', cx, rfl, hb0', hb1', rfl, hc⟩ := (hm.pure hg).at_ (by decide) hlt2
        have c0' : wr.cell? ⟨g', o' + k * 3, none⟩ = some (.int .i64 m[k].a) := hc 0 _ rfl
        have c1' : wr.cell? ⟨g', o' + k * 3 + 1, none⟩ = some (.int .i64 m[k].b) := hc 1 _ rfl
        have c2' : wr.cell? ⟨g', o' + k * 3 + 2, none⟩ = some (.int .i64 m[k].c) := hc 2 _ rfl
        clear hc
        have HS : Hid (l[k] = m[k] → l.take (k + 1) = m.take (k + 1)) := fun h => by rw [take_snoc hlt, take_snoc hlt2, hq.out, h]
        have HN : Hid (l[k] ≠ m[k] → eqB l m = false) := fun h => eqB_ne hlt hlt2 h
        go_wp2_with fail
        refine wp_region_fix 8 ((fun wx => wr.grownBy wx none)) (by kernel_rfl) (by kernel_rfl) (gr_drew (World.grownBy.refl _ _)) ?_
        simp only [List.take_succ_cons, List.take_zero, List.drop_succ_cons, List.drop_zero]
        iterate 3 ((refine fix_b (fun K hK => ?_); apply Exists.intro; refine ⟨fun wx hC K' hK' => ?_, ?_⟩; (focus (replace hK' := hide hK'; skip; go_wp2_with fail; exact hK'.out _ hC)); go_simp; refine hK _ ?_; clear hK K))
        (refine fix_b (fun K hK => ?_); apply Exists.intro; refine ⟨fun wx hC K' hK' => ?_, ?_⟩; (focus (replace hK' := hide hK'; (have b0 := hC.k c0; have b1 := hC.k c1; have b2 := hC.k c2); go_wp2_with fail; exact hK'.out _ hC)); go_simp; refine hK _ ?_; clear hK K)
        iterate 3 ((refine fix_b (fun K hK => ?_); apply Exists.intro; refine ⟨fun wx hC K' hK' => ?_, ?_⟩; (focus (replace hK' := hide hK'; skip; go_wp2_with fail; exact hK'.out _ hC)); go_simp; refine hK _ ?_; clear hK K))
        (refine fix_b (fun K hK => ?_); apply Exists.intro; refine ⟨fun wx hC K' hK' => ?_, ?_⟩; (focus (replace hK' := hide hK'; (have b0 := hC.k c0'; have b1 := hC.k c1'; have b2 := hC.k c2'); go_wp2_with fail; exact hK'.out _ hC)); go_simp; refine hK _ ?_; clear hK K)
        refine fix_nil ?_
        intro wz hC
        go_wp2_with fail
        all_goals first
          | (go_ret; exact ⟨ret_bool (HN.out (fun h => by simp_all)).symm, (by repeat (first | exact World.grownBy.refl _ _ | assumption | refine gr_alloc ?_ _ | (apply gr_tail; assumption) | refine gr_drewN ?_ _ | refine gr_drew ?_))⟩)
          | (go_roundw; (case rel => exact ⟨k + 1, by omega, by go_num, (by repeat (first | exact World.grownBy.refl _ _ | assumption | refine gr_alloc ?_ _ | (apply gr_tail; assumption) | refine gr_drewN ?_ _ | refine gr_drew ?_)), HS.out (fc_ext ‹_› ‹_› ‹_›)⟩); (case measure => simp [intOf]; omega))
          | (go_roundw; (case rel => exact ⟨k + 1, by omega, by go_num, (by repeat (first | exact World.grownBy.refl _ _ | assumption | refine gr_alloc ?_ _ | (apply gr_tail; assumption) | refine gr_drewN ?_ _ | refine gr_drew ?_)), HS.out (by apply fc_ext <;> simp_all)⟩); (case measure => simp [intOf]; omega))
      · have HB : Hid (eqB l m = true) := eqB_all hlen.out (by have := hq.out; rwa [show k = l.length by omega] at this)
        go_wp2
        go_ret
        exact ⟨ret_bool HB.out.symm, hg⟩
  · have hb : (l.length != m.length) = true := by simp [hlen]
    have hb2 : ((l.length : Int) != m.length) = true := by simp; omega
    have HB := hide (eqB_len hlen)
    clear hlen
    go_enter Try.func76, Try.ntmps76
    go_wp2
    go_ret
    exact ⟨ret_bool HB.out.symm, World.grownBy.refl _ _⟩

theorem sameMesh_any (A : Option Addr) (c : Nat) (vs : List V3) (B : Option Addr) (d : Nat) (fs : List Fc) (A2 : Option Addr) (c2 : Nat) (B2 : Option Addr) (d2 : Nat) (w : World) (h1 : Sl w 0 A vs) (h2 : Sl w 0 B fs) (h3 : Sl w 0 A2 vs) (h4 : Sl w 0 B2 fs) :
    Calls Try.prog 26 #[.agg #[.slice A vs.length c, .slice B fs.length d], .agg #[.slice A2 vs.length c2, .slice B2 fs.length d2]] w fun e w' => e = .returned (.bool true) ∧ w.grownBy w' none := by
  obtain ⟨W, hW⟩ : ∃ W, W = (w.alloc (.cells #[.slice A vs.length c, .slice B fs.length d] 29)).alloc (.cells #[.slice A2 vs.length c2, .slice B2 fs.length d2] 29) := ⟨_, rfl⟩
  have hlt0 : w.heap.size < w.heap.size + 1 := Nat.lt_succ_self _
  have hg0 : w.grownBy W none := by rw [hW]; exact (by repeat (first | exact World.grownBy.refl _ _ | assumption | refine gr_alloc ?_ _ | (apply gr_tail; assumption) | refine gr_drewN ?_ _ | refine gr_drew ?_))
  have b1 : W.cell? ⟨w.heap.size, 1, none⟩ = some (.slice B fs.length d) := by rw [hW]; go_simp
  have b3 : W.cell? ⟨w.heap.size + 1, 1, none⟩ = some (.slice B2 fs.length d2) := by rw [hW]; go_simp
  replace hW := hide hW.symm
  go_enter Try.func26, Try.ntmps26
  go_wp2_with fail
  rw [hW.out]
  refine (equalV3_any A c vs A2 c2 vs _ (h1.pure hg0) (h3.pure hg0)).mono ?_
  rintro e w1 ⟨rfl, hg1⟩
  rw [eqB_refl]
  replace b1 := hg1.k b1
  replace b3 := hg1.k b3
  have hg2 := gr_trans hg0 hg1
  clear hg1 hW
  go_wp2_with fail
  refine (equalFc_any B d fs B2 d2 fs _ (h2.pure hg2) (h4.pure hg2)).mono ?_
  rintro e w2 ⟨rfl, hg3⟩
  rw [eqB_refl]
  go_wp2_with fail
  go_ret
  exact ⟨rfl, gr_trans hg2 hg3⟩

end Go.Proofs.Ytjodjdjfagjiaaa

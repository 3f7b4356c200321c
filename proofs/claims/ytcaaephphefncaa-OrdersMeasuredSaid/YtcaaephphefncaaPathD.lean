/- Contracts of functions that this seat's laws reach, each: what one call returns and what it leaves in memory; no condition beyond each theorem's own hypotheses. -/
import Derived.Test.YtcaaephphefncaaPathC
set_option linter.unusedVariables false
set_option linter.unusedSimpArgs false
namespace Go.Proofs.Ytcaaephphefncaa
open Go.RowKit Go.Bl

set_option maxHeartbeats 800000 in
theorem pathsFaultRef_any (A : Option Addr) (c : Nat) (l : List PathV) (w : World) (hl : Sl w 0 A l) :
    Calls Try.prog 24 #[.slice A l.length c] w fun e w' => e = .returned (.int .i64 (pathsF l)) ∧ w.grownBy w' none := by
  have hm := hl.1
  unfold maxLen at hm
  by_cases h0 : 200 < l.length
  · have HP : Hid (pathsF l = 2) := by simp [Hid, pathsF, h0]
    go_enter Try.func24, Try.ntmps24
    go_wp2
    go_ret
    exact ⟨ret_int HP.out.symm, (by repeat (first | exact World.grownBy.refl _ _ | assumption | refine gr_alloc ?_ _ | (apply gr_tail; assumption) | refine gr_drewN ?_ _ | refine gr_drew ?_))⟩
  · have HP : Hid (orL ((l.map pathF).drop 0) = pathsF l) := by simp only [Hid, pathsF]; rw [if_neg h0]; rfl
    go_enter Try.func24, Try.ntmps24
    go_wp2
    go_loopw [11] (fun i wr => ∃ k : Nat, k ≤ l.length ∧ i = .int .i64 k ∧ w.grownBy wr none ∧ Hid (orL ((l.map pathF).drop k) = pathsF l)) (fun i _ => l.length - (intOf i).toNat)
    case atStart => exact ⟨0, Nat.zero_le _, rfl, World.grownBy.refl _ _, HP⟩
    case round =>
      obtain ⟨k, hk, rfl, hg, hd⟩ := hrel
      by_cases hlt : k < l.length
      · obtain ⟨g, o, cx, rfl, hb0, hb1, ⟨A', c', rfl, hcp, hpts⟩, hc⟩ := (hl.pure hg).at_ (by decide) hlt
        have c0 : wr.cell? ⟨g, o + k * 2, none⟩ = some (.slice A' l[k].pts.length c') := hc 0 _ rfl
        have c1 : wr.cell? ⟨g, o + k * 2 + 1, none⟩ = some (.bool l[k].cl) := hc 1 _ rfl
        clear hc
        have HS := hide (orL_map_drop pathF hlt)
        go_wp2_with fail
        refine (pathFaultRef_any _ _ l[k] _ (hpts.pure (gr_alloc (World.grownBy.refl _ _) _))).mono ?_
        rintro e w' ⟨rfl, hg'⟩
        by_cases hz : pathF l[k] = 0
        · have hb : (pathF l[k] != 0) = false := by simp [hz]
          have HT : Hid (orL ((l.map pathF).drop (k + 1)) = pathsF l) := by rw [Hid, ← hd.out, HS.out, if_neg (by simp [hz])]
          clear hz
          go_wp2_with fail
          (go_roundw; (case rel => exact ⟨k + 1, by omega, by go_num, (by repeat (first | exact World.grownBy.refl _ _ | assumption | refine gr_alloc ?_ _ | (apply gr_tail; assumption) | refine gr_drewN ?_ _ | refine gr_drew ?_)), HT⟩); (case measure => simp [intOf]; omega))
        · have hb : (pathF l[k] != 0) = true := by simp [hz]
          have HT : Hid (pathF l[k] = pathsF l) := by rw [Hid, ← hd.out, HS.out, if_pos hz]
          clear hz
          go_wp2_with fail
          go_ret
          exact ⟨ret_int HT.out, (by repeat (first | exact World.grownBy.refl _ _ | assumption | refine gr_alloc ?_ _ | (apply gr_tail; assumption) | refine gr_drewN ?_ _ | refine gr_drew ?_))⟩
      · have HB : Hid (0 = pathsF l) := by rw [Hid, ← hd.out, List.drop_of_length_le (by simp; omega)]; rfl
        go_wp2
        go_ret
        exact ⟨ret_int HB.out, (by repeat (first | exact World.grownBy.refl _ _ | assumption | refine gr_alloc ?_ _ | (apply gr_tail; assumption) | refine gr_drewN ?_ _ | refine gr_drew ?_))⟩

set_option maxHeartbeats 800000 in
theorem checkPaths_any (A : Option Addr) (c : Nat) (l : List PathV) (w : World) (hl : Sl w 0 A l) :
    Calls Try.prog 43 #[.slice A l.length c] w fun e w' => e = .returned (.int .i64 (pathsF l)) ∧ w.grownBy w' none := by
  have hm := hl.1
  unfold maxLen at hm
  by_cases h0 : 200 < l.length
  · have HP : Hid (pathsF l = 2) := by simp [Hid, pathsF, h0]
    go_enter Try.func43, Try.ntmps43
    go_wp2
    go_ret
    exact ⟨ret_int HP.out.symm, (by repeat (first | exact World.grownBy.refl _ _ | assumption | refine gr_alloc ?_ _ | (apply gr_tail; assumption) | refine gr_drewN ?_ _ | refine gr_drew ?_))⟩
  · have HP : Hid (orL ((l.map pathF).drop 0) = pathsF l) := by simp only [Hid, pathsF]; rw [if_neg h0]; rfl
    go_enter Try.func43, Try.ntmps43
    go_wp2
    go_loopw [11] (fun i wr => ∃ k : Nat, k ≤ l.length ∧ i = .int .i64 k ∧ w.grownBy wr none ∧ Hid (orL ((l.map pathF).drop k) = pathsF l)) (fun i _ => l.length - (intOf i).toNat)
    case atStart => exact ⟨0, Nat.zero_le _, rfl, World.grownBy.refl _ _, HP⟩
    case round =>
      obtain ⟨k, hk, rfl, hg, hd⟩ := hrel
      by_cases hlt : k < l.length
      · obtain ⟨g, o, cx, rfl, hb0, hb1, ⟨A', c', rfl, hcp, hpts⟩, hc⟩ := (hl.pure hg).at_ (by decide) hlt
        have c0 : wr.cell? ⟨g, o + k * 2, none⟩ = some (.slice A' l[k].pts.length c') := hc 0 _ rfl
        have c1 : wr.cell? ⟨g, o + k * 2 + 1, none⟩ = some (.bool l[k].cl) := hc 1 _ rfl
        clear hc
        have HS := hide (orL_map_drop pathF hlt)
        go_wp2_with fail
        refine (pathFault_any _ _ l[k] _ (hpts.pure (gr_alloc (World.grownBy.refl _ _) _))).mono ?_
        rintro e w' ⟨rfl, hg'⟩
        by_cases hz : pathF l[k] = 0
        · have hb : (pathF l[k] != 0) = false := by simp [hz]
          have HT : Hid (orL ((l.map pathF).drop (k + 1)) = pathsF l) := by rw [Hid, ← hd.out, HS.out, if_neg (by simp [hz])]
          clear hz
          go_wp2_with fail
          (go_roundw; (case rel => exact ⟨k + 1, by omega, by go_num, (by repeat (first | exact World.grownBy.refl _ _ | assumption | refine gr_alloc ?_ _ | (apply gr_tail; assumption) | refine gr_drewN ?_ _ | refine gr_drew ?_)), HT⟩); (case measure => simp [intOf]; omega))
        · have hb : (pathF l[k] != 0) = true := by simp [hz]
          have HT : Hid (pathF l[k] = pathsF l) := by rw [Hid, ← hd.out, HS.out, if_pos hz]
          clear hz
          go_wp2_with fail
          go_ret
          exact ⟨ret_int HT.out, (by repeat (first | exact World.grownBy.refl _ _ | assumption | refine gr_alloc ?_ _ | (apply gr_tail; assumption) | refine gr_drewN ?_ _ | refine gr_drew ?_))⟩
      · have HB : Hid (0 = pathsF l) := by rw [Hid, ← hd.out, List.drop_of_length_le (by simp; omega)]; rfl
        go_wp2
        go_ret
        exact ⟨ret_int HB.out, (by repeat (first | exact World.grownBy.refl _ _ | assumption | refine gr_alloc ?_ _ | (apply gr_tail; assumption) | refine gr_drewN ?_ _ | refine gr_drew ?_))⟩

set_option maxHeartbeats 400000 in
theorem samePath_any (v : Vis) (p : Int) (gc : Nat) (w : World) (hp : w.cell? ⟨gc, 0, none⟩ = some (.int .i64 p)) :
    Calls Try.prog 73 #[.agg #[.int .i64 v.path, .int .i64 v.start, .bool v.back], .pointer (some ⟨gc, 0, none⟩)] w fun e w' => e = .returned (.bool (v.path == p)) ∧ w.grownBy w' none := by
  have hlt := cell_lt hp
  simp only at hlt
  have hne : gc ≠ w.heap.size := by omega
  go_enter Try.func73, Try.ntmps73
  go_wp2
  go_ret
  exact ⟨rfl, (by repeat (first | exact World.grownBy.refl _ _ | assumption | refine gr_alloc ?_ _ | (apply gr_tail; assumption) | refine gr_drewN ?_ _ | refine gr_drew ?_))⟩

set_option maxHeartbeats 800000 in
theorem indexPath_any (A : Option Addr) (c : Nat) (l : List Vis) (p : Int) (gc : Nat) (w : World) (hl : Sl w 0 A l) (hp : w.cell? ⟨gc, 0, none⟩ = some (.int .i64 p)) :
    Calls Try.prog 87 #[.slice A l.length c, .func (.func 73) #[] #[.pointer (some ⟨gc, 0, none⟩)]] w fun e w' => ∃ r : Int, e = .returned (.int .i64 r) ∧ decide (0 ≤ r) = hasP l p ∧ w.grownBy w' none := by
  have hm := hl.1
  unfold maxLen at hm
  go_enter Try.func87, Try.ntmps87
  go_wp2
  go_loopw [8] (fun i wr => ∃ k : Nat, k ≤ l.length ∧ i = .int .i64 k ∧ w.grownBy wr none ∧ Hid (hasP (l.take k) p = false)) (fun i _ => l.length - (intOf i).toNat)
  case atStart => exact ⟨0, Nat.zero_le _, rfl, World.grownBy.refl _ _, by simp [Hid, hasP]⟩
  case round =>
    obtain ⟨k, hk, rfl, hg, hall⟩ := hrel
    by_cases hlt : k < l.length
    · obtain ⟨g, o, cx, rfl, hb0, hb1, rfl, hc⟩ := (hl.pure hg).at_ (by decide) hlt
      have v0 : wr.cell? ⟨g, o + k * 3, none⟩ = some (.int .i64 l[k].path) := hc 0 _ rfl
      have v1 : wr.cell? ⟨g, o + k * 3 + 1, none⟩ = some (.int .i64 l[k].start) := hc 1 _ rfl
      have v2 : wr.cell? ⟨g, o + k * 3 + 2, none⟩ = some (.bool l[k].back) := hc 2 _ rfl
      clear hc
      have hp' := hg.k hp
      have HS := hide (hasP_snoc hlt p)
      have HA : Hid ((l[k].path == p) = true → hasP l p = true) := fun h => List.any_eq_true.2 ⟨_, List.getElem_mem _, h⟩
      go_wp2_with fail
      refine (samePath_any l[k] p gc _ hp').mono ?_
      rintro e w' ⟨rfl, hg'⟩
      rcases hf : (l[k].path == p) with _ | _
      · go_wp2_with fail
        (go_roundw; (case rel => exact ⟨k + 1, by omega, by go_num, (by repeat (first | exact World.grownBy.refl _ _ | assumption | refine gr_alloc ?_ _ | (apply gr_tail; assumption) | refine gr_drewN ?_ _ | refine gr_drew ?_)), by simp only [Hid]; rw [HS.out, hall.out, hf]; rfl⟩); (case measure => simp [intOf]; omega))
      · have HB := hide (HA.out hf)
        go_wp2_with fail
        go_ret
        exact ⟨k, rfl, by rw [HB.out]; simp, (by repeat (first | exact World.grownBy.refl _ _ | assumption | refine gr_alloc ?_ _ | (apply gr_tail; assumption) | refine gr_drewN ?_ _ | refine gr_drew ?_))⟩
    · have HB : Hid (hasP l p = false) := by have := hall.out; rwa [List.take_of_length_le (by omega)] at this
      go_wp2
      go_ret
      exact ⟨-1, rfl, by rw [HB.out]; rfl, hg⟩

set_option maxHeartbeats 400000 in
theorem containsPath_any (A : Option Addr) (c : Nat) (l : List Vis) (p : Int) (gc : Nat) (w : World) (hl : Sl w 0 A l) (hp : w.cell? ⟨gc, 0, none⟩ = some (.int .i64 p)) :
    Calls Try.prog 72 #[.slice A l.length c, .func (.func 73) #[] #[.pointer (some ⟨gc, 0, none⟩)]] w fun e w' => e = .returned (.bool (hasP l p)) ∧ w.grownBy w' none := by
  go_enter Try.func72, Try.ntmps72
  go_wp2_with fail
  refine (indexPath_any _ _ _ p gc _ hl hp).mono ?_
  rintro e w1 ⟨r, rfl, hr, hg⟩
  replace hr := hide hr
  go_wp2_with fail
  go_ret
  exact ⟨ret_bool hr.out, hg⟩

theorem form_guard (cl back : Bool) (start : Int) : (cl && back || !cl && start != 0) = true ∨ (cl && back || !cl && start != 0) = false := by cases (cl && back || !cl && start != 0) <;> simp

set_option maxHeartbeats 2000000 in
theorem visitFaultRef_any (A : Option Addr) (c : Nat) (l : List PathV) (B : Option Addr) (d : Nat) (b : List Vis) (v : Vis) (w : World) (hl : Sl w 0 A l) (hb : Sl w 0 B b) :
    Calls Try.prog 42 #[.slice A l.length c, .slice B b.length d, .agg #[.int .i64 v.path, .int .i64 v.start, .bool v.back]] w fun e w' => e = .returned (.int .i64 (visitF l b v)) ∧ w.grownBy w' none := by
  have hm := hl.1
  unfold maxLen at hm
  obtain ⟨vp, vs, vb⟩ := v
  simp only
  have HV : Hid (visitF l b ⟨vp, vs, vb⟩ = if inB vp 0 (l.length - 1) = false then 1 else if hasP b vp then 6 else formF (l.getD vp.toNat default) ⟨vp, vs, vb⟩) := rfl
  rcases hin : inB vp 0 ((l.length : Int) - 1) with _ | _
  · have HT : Hid (1 = visitF l b ⟨vp, vs, vb⟩) := by rw [Hid, HV.out, if_pos hin]
    go_enter Try.func42, Try.ntmps42
    go_wp2_with (go_at_call 51; refine (in_any _ _ _ _).mono ?_; rintro e w' ⟨rfl, rfl⟩)
    go_ret
    exact ⟨ret_int HT.out, (by repeat (first | exact World.grownBy.refl _ _ | assumption | refine gr_alloc ?_ _ | (apply gr_tail; assumption) | refine gr_drewN ?_ _ | refine gr_drew ?_))⟩
  · have hin2 : 0 ≤ vp ∧ vp ≤ l.length - 1 := by simpa [inB] using hin
    obtain ⟨k, rfl⟩ := Int.eq_ofNat_of_zero_le hin2.1
    have hlt : k < l.length := by omega
    obtain ⟨g, o, cx, rfl, hb0, hb1, ⟨A', c', rfl, hcp, hpts⟩, hc⟩ := hl.at_ (by decide) hlt
    have c0 : w.cell? ⟨g, o + k * 2, none⟩ = some (.slice A' l[k].pts.length c') := hc 0 _ rfl
    have c1 : w.cell? ⟨g, o + k * 2 + 1, none⟩ = some (.bool l[k].cl) := hc 1 _ rfl
    clear hc
    have hpm := hpts.1
    unfold maxLen at hpm
    have HV2 : Hid (visitF l b ⟨k, vs, vb⟩ = if hasP b k then 6 else formF l[k] ⟨k, vs, vb⟩) := by
      rw [Hid, HV.out, if_neg (by simp [hin])]
      simp [List.getD, hlt]
    have HFm := hide (formF_eq l[k] ⟨k, vs, vb⟩)
    have hgne : g ≠ w.heap.size ∧ g ≠ w.heap.size + 1 := by omega
    go_enter Try.func42, Try.ntmps42
    go_wp2_with (go_at_call 51; refine (in_any _ _ _ _).mono ?_; rintro e w' ⟨rfl, rfl⟩)
    refine (containsPath_any _ _ _ k w.heap.size _ (hb.pure (by repeat (first | exact World.grownBy.refl _ _ | assumption | refine gr_alloc ?_ _ | refine gr_drewN ?_ _ | refine gr_drew ?_))) (by go_simp)).mono ?_
    rintro e w2 ⟨rfl, hg2⟩
    have b0 := (hg2).k (p := ⟨w.heap.size, 0, none⟩) (v := .int .i64 k) (by go_simp)
    have b1 := (hg2).k (p := ⟨w.heap.size, 1, none⟩) (v := .int .i64 vs) (by go_simp)
    have b2 := (hg2).k (p := ⟨w.heap.size, 2, none⟩) (v := .bool vb) (by go_simp)
    have d0 := (hg2).k (p := ⟨w.heap.size + 1, 0, none⟩) (v := .slice A' l[k].pts.length c') (by go_simp)
    have d1 := (hg2).k (p := ⟨w.heap.size + 1, 1, none⟩) (v := .bool l[k].cl) (by go_simp)
    rcases hh : hasP b k with _ | _
    · have HV3 : Hid (visitF l b ⟨k, vs, vb⟩ = if (l[k].cl && vb || !l[k].cl && vs != 0) = true then 3 else spanF vs 0 (l[k].pts.length - 1)) := by rw [Hid, HV2.out, if_neg (by simp [hh]), HFm.out]
      generalize l[k] = p at *
      obtain ⟨pts, cl⟩ := p
      cases cl <;> cases vb <;> go_wp2_with (go_at_call 74; refine (spanFault_any _ _ _ _).mono ?_; rintro e w' ⟨rfl, rfl⟩)
      all_goals (go_ret; exact ⟨ret_int (by rw [HV3.out]; simp_all), (by repeat (first | exact World.grownBy.refl _ _ | assumption | refine gr_alloc ?_ _ | (apply gr_tail; assumption) | refine gr_drewN ?_ _ | refine gr_drew ?_))⟩)
    · have HT : Hid (6 = visitF l b ⟨k, vs, vb⟩) := by rw [Hid, HV2.out, if_pos hh]
      go_wp2_with fail
      go_ret
      exact ⟨ret_int HT.out, (by repeat (first | exact World.grownBy.refl _ _ | assumption | refine gr_alloc ?_ _ | (apply gr_tail; assumption) | refine gr_drewN ?_ _ | refine gr_drew ?_))⟩

set_option maxHeartbeats 2000000 in
theorem visitForm_any (A : Option Addr) (c : Nat) (l : List PathV) (v : Vis) (w : World) (hl : Sl w 0 A l) (h0 : 0 ≤ v.path) (h1 : v.path < l.length) :
    Calls Try.prog 76 #[.slice A l.length c, .agg #[.int .i64 v.path, .int .i64 v.start, .bool v.back]] w fun e w' => e = .returned (.int .i64 (formF (l.getD v.path.toNat default) v)) ∧ w.grownBy w' none := by
  have hm := hl.1
  unfold maxLen at hm
  obtain ⟨vp, vs, vb⟩ := v
  simp only at h0 h1 ⊢
  obtain ⟨k, rfl⟩ := Int.eq_ofNat_of_zero_le h0
  have hlt : k < l.length := by omega
  obtain ⟨g, o, cx, rfl, hb0, hb1, ⟨A', c', rfl, hcp, hpts⟩, hc⟩ := hl.at_ (by decide) hlt
  have c0 : w.cell? ⟨g, o + k * 2, none⟩ = some (.slice A' l[k].pts.length c') := hc 0 _ rfl
  have c1 : w.cell? ⟨g, o + k * 2 + 1, none⟩ = some (.bool l[k].cl) := hc 1 _ rfl
  clear hc
  have hpm := hpts.1
  unfold maxLen at hpm
  obtain ⟨F, hF⟩ : ∃ F : Int, F = formF (l.getD (k : Int).toNat default) ⟨k, vs, vb⟩ := ⟨_, rfl⟩
  rw [← hF]
  have HFm : Hid (F = if (l[k].cl && vb || !l[k].cl && vs != 0) = true then 3 else spanF vs 0 (l[k].pts.length - 1)) := by
    rw [Hid, hF, ← formF_eq l[k] ⟨k, vs, vb⟩]; simp [List.getD, hlt]
  clear hF
  have hgne : g ≠ w.heap.size := by omega
  generalize l[k] = p at *
  obtain ⟨pts, cl⟩ := p
  go_enter Try.func76, Try.ntmps76
  cases cl <;> cases vb <;> go_wp2_with fail
  all_goals (go_ret; exact ⟨ret_int (by rw [HFm.out]; unfold spanF outB; simp_all; try omega), (by repeat (first | exact World.grownBy.refl _ _ | assumption | refine gr_alloc ?_ _ | (apply gr_tail; assumption) | refine gr_drewN ?_ _ | refine gr_drew ?_))⟩)

set_option maxHeartbeats 800000 in
theorem oneFaultRef_any (A : Option Addr) (c : Nat) (l : List PathV) (v : Vis) (w : World) (hl : Sl w 0 A l) :
    Calls Try.prog 11 #[.slice A l.length c, .agg #[.int .i64 v.path, .int .i64 v.start, .bool v.back]] w fun e w' => e = .returned (.int .i64 (oneF l v)) ∧ w.grownBy w' none := by
  have H2 := hide (show orL [pathsF l, visitF l [] v] = oneF l v from orL_two _ _)
  go_enter Try.func11, Try.ntmps11
  go_wp2_with fail
  refine wp_region_fix 5 ((fun wx => (w.alloc (.cells #[.int .i64 v.path, .int .i64 v.start, .bool v.back] 34)).grownBy wx none)) (by kernel_rfl) (by kernel_rfl) (gr_drew (World.grownBy.refl _ _)) ?_
  simp only [List.take_succ_cons, List.take_zero, List.drop_succ_cons, List.drop_zero]
  (refine fix_b (fun K hK => ?_); apply Exists.intro; refine ⟨fun wx hC K' hK' => ?_, ?_⟩; (focus (replace hK' := hide hK'; skip; go_wp2_with fail; exact hK'.out _ hC)); go_simp; refine hK _ ?_; clear hK K)
  (refine fix_b (fun K hK => ?_); apply Exists.intro; refine ⟨fun wx hC K' hK' => ?_, ?_⟩; (focus (replace hK' := hide hK'; skip; go_wp2_with fail; (refine (pathsFaultRef_any _ _ l _ ((hl.pure (gr_alloc (World.grownBy.refl _ _) _)).pure hC)).mono ?_; rintro e w' ⟨rfl, hg'⟩; go_wp2_with fail; exact hK'.out _ (gr_trans hC hg')))); go_simp; refine hK _ ?_; clear hK K)
  (refine fix_b (fun K hK => ?_); apply Exists.intro; refine ⟨fun wx hC K' hK' => ?_, ?_⟩; (focus (replace hK' := hide hK'; skip; go_wp2_with fail; exact hK'.out _ hC)); go_simp; refine hK _ ?_; clear hK K)
  (refine fix_b (fun K hK => ?_); apply Exists.intro; refine ⟨fun wx hC K' hK' => ?_, ?_⟩; (focus (replace hK' := hide hK'; (have b0 := hC.k (p := ⟨w.heap.size, 0, none⟩) (v := .int .i64 v.path) (by go_simp); have b1 := hC.k (p := ⟨w.heap.size, 1, none⟩) (v := .int .i64 v.start) (by go_simp); have b2 := hC.k (p := ⟨w.heap.size, 2, none⟩) (v := .bool v.back) (by go_simp)); go_wp2_with fail; exact hK'.out _ hC)); go_simp; refine hK _ ?_; clear hK K)
  (refine fix_b (fun K hK => ?_); apply Exists.intro; refine ⟨fun wx hC K' hK' => ?_, ?_⟩; (focus (replace hK' := hide hK'; skip; go_wp2_with fail; (refine (visitFaultRef_any _ _ l none 0 [] v _ ((hl.pure (gr_alloc (World.grownBy.refl _ _) _)).pure hC) Sl.nil).mono ?_; rintro e w' ⟨rfl, hg'⟩; go_wp2_with fail; exact hK'.out _ (gr_trans hC hg')))); go_simp; refine hK _ ?_; clear hK K)
  refine fix_nil ?_
  intro wz hC
  go_wp2_with fail
  refine (or_any _ _ _ [pathsF l, visitF l [] v] _ (sl_ints _ _ _ _ (Nat.zero_le _) (by simp [maxLen])) rfl).mono ?_
  rintro e w3 ⟨rfl, rfl⟩
  rw [H2.out]
  go_wp2_with fail
  go_ret
  exact ⟨rfl, (by repeat (first | exact World.grownBy.refl _ _ | assumption | refine gr_alloc ?_ _ | (apply gr_tail; assumption) | refine gr_drewN ?_ _ | refine gr_drew ?_))⟩

end Go.Proofs.Ytcaaephphefncaa

/- Contracts of functions that this seat's laws reach, each: what one call returns and what it leaves in memory; no condition beyond each theorem's own hypotheses. -/
import Derived.Test.YtcaaephphefncaaPathO
import Derived.Test.YtcaaephphefncaaPathM
set_option linter.unusedVariables false
set_option linter.unusedSimpArgs false
namespace Go.Proofs.Ytcaaephphefncaa
open Go.RowKit Go.Bl

theorem _root_.Go.Bl.Cell.setB {w : World} {g o : Nat} {v : Value} (h : Cell w g o v) (g' o' : Nat) (u : Value) (hne : g' ≠ g) : Cell (w.setCell ⟨g', o', none⟩ u) g o v :=
  h.gr (gr_set (r := some g') (World.grownBy.refl w _) (.inl rfl) u) (by simpa using hne)
theorem pointFaultN_any (A : Option Addr) (n c : Nat) (l : List Pt) (hn : l.length = n) (w : World) (hl : Sl w 0 A l) :
    Calls Try.prog 19 #[.slice A n c] w fun e w' => e = .returned (.int .i64 (pointsF l)) ∧ w.grownBy w' none := by
  subst hn
  exact pointFault_any A c l w hl
theorem printedV_any (A : Option Addr) (c : Nat) (l : List PathV) (v : Vis) (w : World) (hl : Sl w 0 A l) (hv : VisOk l v) :
    Calls Try.prog 17 #[.slice A l.length c, .agg #[.int .i64 v.path, .int .i64 v.start, .bool v.back]] w fun e w' => ∃ A' c', e = .returned (.slice A' (tP l v).length c') ∧ Own w' w.heap.size 27 A' c' (tP l v) ∧ w.grownBy w' none := by
  obtain ⟨k, s, hk, h1, h2, h3⟩ := hv
  obtain ⟨vp, vs, b⟩ := v
  simp only at h1 h2 h3
  subst h1; subst h2
  rw [tP_of hk]
  exact printedBy_any A c l k s b w hl hk h3

set_option maxHeartbeats 2000000 in
set_option maxRecDepth 100000 in
theorem orders_law (A : Option Addr) (n c : Nat) (L : List Int) (w : World) (hL : Sl w 0 A L) (hn : L.length = n) :
    Calls Try.prog 3 #[.slice A n c] w fun e w' => e = .returned (.bool true) ∧ w.grownBy w' none := by
  have hs0 := strm_new (c := c) 25 hL hn
  have hg0 := gr_alloc (World.grownBy.refl w none) (.cells #[.slice A n c, .int .i64 0] 25)
  have hS0 := SOut.refl hs0
  go_enter Try.func3, Try.ntmps3
  go_wp2_with fail
  refine (aPoint_any _ 0 _ hs0 (by omega)).mono ?_
  rintro e w1 ⟨st, rfl, ho1⟩
  go_wp2_with fail
  refine (pathList_any _ _ 5 _ ho1.2 (by omega) (by omega)).mono ?_
  rintro e w2 ⟨l, A2, c2, rfl, hl, hl5, hlp, ho2⟩
  have hS2 := ho1.trans ho2
  have P0 := Cell.new w2 [.int .i64 st.x, .int .i64 st.y] 27 0 _ rfl _ rfl
  have P1 := Cell.new w2 [.int .i64 st.x, .int .i64 st.y] 27 1 _ rfl _ rfl
  have hz1 := ho1.size
  have hz2 := ho2.size
  simp at hz1
  replace hl := (hl.mono (show w.heap.size + 1 ≤ w1.heap.size by omega)).pure (gr_alloc (World.grownBy.refl _ _) (.cells #[.int .i64 st.x, .int .i64 st.y] 27))
  have hSA := hS2.al (.cells #[.int .i64 st.x, .int .i64 st.y] 27)
  clear ho1 ho2 hS2 hS0 hs0
  have hzA := hSA.size
  go_upto_region 3 with fail
  go_cut [6, 7] (fun s6 s7 wx => ∃ (o : List Vis) (A3 : Option Addr) (c3 : Nat) (v : Vis) (g7 : Nat), s6 = .slice A3 o.length c3 ∧ s7 = .pointer (some ⟨g7, 0, none⟩) ∧ o.length ≤ c3 ∧ Sl wx (w.heap.size + 1) A3 o ∧ o.length ≤ 6 ∧ Cell wx g7 0 (.int .i64 v.path) ∧ Cell wx g7 1 (.int .i64 v.start) ∧ Cell wx g7 2 (.bool v.back) ∧ SOut w.heap.size 100000 (w2.alloc (.cells #[.int .i64 st.x, .int .i64 st.y] 27)) wx)
  case first =>
    go_wp2_with fail
    refine (anOrder_any _ _ _ _ l _ hSA.2 (by omega) hl (by omega)).mono ?_
    rintro e w3 ⟨o, A3, c3, rfl, ho, hol, ho3⟩
    have hl3 := hl.s ho3 (by simp)
    have hcp := ho.cap
    have hos := ho.sl.mono (show w.heap.size + 1 ≤ _ by simp; omega)
    clear ho P0 P1
    go_wp2_with fail
    all_goals
      refine (next_any _ _ _ _ ho3.2 (by omega) (by omega)).mono ?_
      rintro e w4 ⟨i, rfl, _, ho4⟩
      have hS4 := ho3.trans ho4
      go_wp2_with fail
      refine (aVisit_any _ _ _ _ l i _ hS4.2 (by omega) (hl3.s ho4 (by simp))).mono ?_
      rintro e w5 ⟨v, rfl, ho5⟩
      have hS5 := hS4.trans ho5
      have hos5 := (hos.s ho4 (by simp)).s ho5 (by simp)
      go_wp2_with fail
      go_meet
      exact ⟨o, A3, c3, v, w5.heap.size, rfl, rfl, hcp, hos5.pure (gr_alloc (World.grownBy.refl _ _) _), by omega, Cell.new w5 [.int .i64 v.path, .int .i64 v.start, .bool v.back] 34 0 _ rfl _ rfl, Cell.new w5 [.int .i64 v.path, .int .i64 v.start, .bool v.back] 34 1 _ rfl _ rfl, Cell.new w5 [.int .i64 v.path, .int .i64 v.start, .bool v.back] 34 2 _ rfl _ rfl, (hS5.mono (by omega)).al _⟩
  case rest =>
  obtain ⟨o, A3, c3, v, g7, rfl, rfl, hcp, ho, ho6, V0, V1, V2, hSW⟩ := hcut
  rename World => W
  have hlW := ((hl.s hSW (by simp)).mono (Nat.zero_le _))
  have hoW := ho.mono (Nat.zero_le _)
  replace P0 := P0.gr hSW.1 (by simp; omega)
  replace P1 := P1.gr hSW.1 (by simp; omega)
  have hgT : Hid (w.grownBy W none) := gr_new hg0 (hSA.trans hSW).1 (Nat.le_refl _)
  clear hSW hSA hl ho hg0 hlp hz1 hz2 hzA hL
  go_wp2_with fail
  refine wp_region_fix 6 ((fun wx => W.grownBy wx none)) (by kernel_rfl) (by kernel_rfl) (gr_drew (World.grownBy.refl _ _)) ?_
  simp only [List.take_succ_cons, List.take_zero, List.drop_succ_cons, List.drop_zero]
  (refine fix_b (fun K hK => ?_); apply Exists.intro; refine ⟨fun wx hC K' hK' => ?_, ?_⟩; (focus (replace hK' := hide hK'; skip; go_wp2_with fail; exact hK'.out _ hC)); go_simp; refine hK _ ?_; clear hK K)
  (refine fix_b (fun K hK => ?_); apply Exists.intro; refine ⟨fun wx hC K' hK' => ?_, ?_⟩; (focus (replace hK' := hide hK'; skip; go_wp2_with fail; exact hK'.out _ hC)); go_simp; refine hK _ ?_; clear hK K)
  (refine fix_b (fun K hK => ?_); apply Exists.intro; refine ⟨fun wx hC K' hK' => ?_, ?_⟩; (focus (replace hK' := hide hK'; skip; go_wp2_with fail; (refine (orderFaultRef_any _ _ l _ _ o _ (hlW.pure hC) (hoW.pure hC) hcp).mono ?_; rintro e w' ⟨rfl, hg'⟩; go_wp2_with fail; exact hK'.out _ (gr_trans hC hg')))); go_simp; refine hK _ ?_; clear hK K)
  (refine fix_b (fun K hK => ?_); apply Exists.intro; refine ⟨fun wx hC K' hK' => ?_, ?_⟩; (focus (replace hK' := hide hK'; skip; go_wp2_with fail; exact hK'.out _ hC)); go_simp; refine hK _ ?_; clear hK K)
  (refine fix_b (fun K hK => ?_); apply Exists.intro; refine ⟨fun wx hC K' hK' => ?_, ?_⟩; (focus (replace hK' := hide hK'; (have b0 := hC.k V0.1; have b1 := hC.k V1.1; have b2 := hC.k V2.1); go_wp2_with fail; exact hK'.out _ hC)); go_simp; refine hK _ ?_; clear hK K)
  (refine fix_b (fun K hK => ?_); apply Exists.intro; refine ⟨fun wx hC K' hK' => ?_, ?_⟩; (focus (replace hK' := hide hK'; skip; go_wp2_with fail; (refine (oneFaultRef_any _ _ l v _ (hlW.pure hC)).mono ?_; rintro e w' ⟨rfl, hg'⟩; go_wp2_with fail; exact hK'.out _ (gr_trans hC hg')))); go_simp; refine hK _ ?_; clear hK K)
  refine fix_nil ?_
  intro wz hC
  obtain ⟨W4, hW4⟩ : ∃ W4 : World, W4 = wz := ⟨_, rfl⟩
  subst hW4
  have gA : W.grownBy W4 none := hC
  clear hC
  go_wp2_with fail
  refine (checkOrder_any _ _ l _ _ o _ (hlW.pure gA) (hoW.pure gA)).mono ?_
  rintro e w5 ⟨rfl, hg5⟩
  have g5 := gr_trans gA hg5
  have b0 := g5.k V0.1
  have b1 := g5.k V1.1
  have b2 := g5.k V2.1
  go_wp2_with fail
  refine (endsGo_any _ _ l v _ (hlW.pure g5)).mono ?_
  rintro e w6 ⟨rfl, hg6⟩
  have gX := gr_alloc (gr_alloc (r := none) (World.grownBy.refl w6 none) (.cells #[.int .i64 (eAO l v).x, .int .i64 (eAO l v).y] 27)) (.cells #[.int .i64 (eBO l v).x, .int .i64 (eBO l v).y] 27)
  have X0 := (Cell.new w6 [.int .i64 (eAO l v).x, .int .i64 (eAO l v).y] 27 0 _ rfl _ rfl).gr (gr_alloc (r := none) (World.grownBy.refl _ _) (.cells #[.int .i64 (eBO l v).x, .int .i64 (eBO l v).y] 27)) (by simp)
  have X1 := (Cell.new w6 [.int .i64 (eAO l v).x, .int .i64 (eAO l v).y] 27 1 _ rfl _ rfl).gr (gr_alloc (r := none) (World.grownBy.refl _ _) (.cells #[.int .i64 (eBO l v).x, .int .i64 (eBO l v).y] 27)) (by simp)
  have Y0 := Cell.new (w6.alloc (.cells #[.int .i64 (eAO l v).x, .int .i64 (eAO l v).y] 27)) [.int .i64 (eBO l v).x, .int .i64 (eBO l v).y] 27 0 _ rfl (w6.heap.size + 1) (by simp)
  have Y1 := Cell.new (w6.alloc (.cells #[.int .i64 (eAO l v).x, .int .i64 (eAO l v).y] 27)) [.int .i64 (eBO l v).x, .int .i64 (eBO l v).y] 27 1 _ rfl (w6.heap.size + 1) (by simp)
  have g6 := gr_trans (gr_trans g5 hg6) gX
  have d0 := g6.k V0.1
  have d1 := g6.k V1.1
  have d2 := g6.k V2.1
  clear b0 b1 b2 gA hg5 g5 hg6 gX
  go_wp2_with fail
  refine (points_any _ _ l v _ (hlW.pure g6)).mono ?_
  rintro e w7 ⟨A7, c7, rfl, hO7, hg7⟩
  have g7 := gr_trans g6 hg7
  replace X0 := X0.gr hg7 (by simp)
  replace X1 := X1.gr hg7 (by simp)
  replace Y0 := Y0.gr hg7 (by simp)
  replace Y1 := Y1.gr hg7 (by simp)
  have p0 := g7.k P0.1
  have p1 := g7.k P1.1
  have h13 := hO7.sl.mono (Nat.zero_le _)
  clear d0 d1 d2 hg7 g6 hO7
  go_wp2_with fail
  refine (travelGo_any _ _ l _ _ o st _ (hlW.pure g7) (hoW.pure g7)).mono ?_
  rintro e w8 ⟨rfl, hg8⟩
  have g8 := gr_trans g7 hg8
  replace X0 := X0.gr hg8 (by simp)
  replace X1 := X1.gr hg8 (by simp)
  replace Y0 := Y0.gr hg8 (by simp)
  replace Y1 := Y1.gr hg8 (by simp)
  replace h13 := h13.pure hg8
  have gZ := gr_alloc (gr_alloc (r := none) (World.grownBy.refl w8 none) (.cells #[.int .i64 0, .int .i64 0] 27)) (.cells #[.int .i64 0, .int .i64 0] 27)
  have Z0 := (Cell.new w8 [.int .i64 0, .int .i64 0] 27 0 _ rfl _ rfl).gr (gr_alloc (r := none) (World.grownBy.refl _ _) (.cells #[.int .i64 0, .int .i64 0] 27)) (by simp)
  have Z1 := (Cell.new w8 [.int .i64 0, .int .i64 0] 27 1 _ rfl _ rfl).gr (gr_alloc (r := none) (World.grownBy.refl _ _) (.cells #[.int .i64 0, .int .i64 0] 27)) (by simp)
  have U0 := Cell.new (w8.alloc (.cells #[.int .i64 0, .int .i64 0] 27)) [.int .i64 0, .int .i64 0] 27 0 _ rfl (w8.heap.size + 1) (by simp)
  have U1 := Cell.new (w8.alloc (.cells #[.int .i64 0, .int .i64 0] 27)) [.int .i64 0, .int .i64 0] 27 1 _ rfl (w8.heap.size + 1) (by simp)
  have g9 := gr_trans g8 gZ
  have d0 := g9.k V0.1
  have d1 := g9.k V1.1
  have d2 := g9.k V2.1
  clear p0 p1 g7 hg8
  go_upto_if 72 with fail
  go_cut [19] (fun s19 wx => ∃ (A9 : Option Addr) (c9 : Nat), s19 = .slice A9 (tPO l v).length c9 ∧ Sl wx 0 A9 (tPO l v) ∧ w8.grownBy wx none ∧ Cell wx w8.heap.size 0 (.int .i64 (eAO l v).x) ∧ Cell wx w8.heap.size 1 (.int .i64 (eAO l v).y) ∧ Cell wx (w8.heap.size + 1) 0 (.int .i64 (eBO l v).x) ∧ Cell wx (w8.heap.size + 1) 1 (.int .i64 (eBO l v).y))
  case first =>
    by_cases hz : oneF l v = 0
    · have hb : (oneF l v == 0) = true := by simp [hz]
      have hv := oneF_zero hz
      have HT : Hid (tPO l v = tP l v) := by rw [Hid]; unfold tPO; rw [if_pos hz]
      have HA : Hid (eAO l v = eA l v) := by rw [Hid]; unfold eAO; rw [if_pos hz]
      have HB : Hid (eBO l v = eB l v) := by rw [Hid]; unfold eBO; rw [if_pos hz]
      clear hz
      go_wp2_with fail
      refine (endsRef_any _ _ l v _ (hlW.pure g9) hv).mono ?_
      rintro e wa ⟨rfl, hga⟩
      have ga := gr_trans g9 hga
      replace Z0 := Z0.gr hga (by simp)
      replace Z1 := Z1.gr hga (by simp)
      replace U0 := U0.gr hga (by simp)
      replace U1 := U1.gr hga (by simp)
      have zz := U0.lt
      obtain ⟨z0, zf0⟩ := id Z0
      obtain ⟨z1, zf1⟩ := id Z1
      obtain ⟨u0, uf0⟩ := id U0
      obtain ⟨u1, uf1⟩ := id U1
      have gw := gr_trans gZ hga
      have g1 := gr_set (r := some w8.heap.size) (p := ⟨w8.heap.size, 0, none⟩) (World.grownBy.refl wa _) (.inl rfl) (.int .i64 (eA l v).x)
      have gs : w8.grownBy ((((wa.setCell ⟨w8.heap.size, 0, none⟩ (.int .i64 (eA l v).x)).setCell ⟨w8.heap.size, 1, none⟩ (.int .i64 (eA l v).y)).setCell ⟨w8.heap.size + 1, 0, none⟩ (.int .i64 (eB l v).x)).setCell ⟨w8.heap.size + 1, 1, none⟩ (.int .i64 (eB l v).y)) none := gr_set (gr_set (gr_set (gr_set gw (.inr (Nat.le_refl _)) _) (.inr (Nat.le_refl _)) _) (.inr (Nat.le_succ _)) _) (.inr (Nat.le_succ _)) _
      have E0 := g9.k V0.1
      have e0 := (gr_trans g8 gs).k V0.1
      have e1 := (gr_trans g8 gs).k V1.1
      have e2 := (gr_trans g8 gs).k V2.1
      have R0 := (((Z0.set_ (.int .i64 (eA l v).x)).set_ne (o' := 1) (.int .i64 (eA l v).y) (by decide)).setB (w8.heap.size + 1) 0 (.int .i64 (eB l v).x) (by simp)).setB (w8.heap.size + 1) 1 (.int .i64 (eB l v).y) (by simp)
      have R1 := (((Z1.set_ne (o' := 0) (.int .i64 (eA l v).x) (by decide)).set_ (.int .i64 (eA l v).y)).setB (w8.heap.size + 1) 0 (.int .i64 (eB l v).x) (by simp)).setB (w8.heap.size + 1) 1 (.int .i64 (eB l v).y) (by simp)
      have R2 := (((U0.setB w8.heap.size 0 (.int .i64 (eA l v).x) (by simp)).setB w8.heap.size 1 (.int .i64 (eA l v).y) (by simp)).set_ (.int .i64 (eB l v).x)).set_ne (o' := 1) (.int .i64 (eB l v).y) (by decide)
      have R3 := (((U1.setB w8.heap.size 0 (.int .i64 (eA l v).x) (by simp)).setB w8.heap.size 1 (.int .i64 (eA l v).y) (by simp)).set_ne (o' := 0) (.int .i64 (eB l v).x) (by decide)).set_ (.int .i64 (eB l v).y)
      clear d0 d1 d2 E0 g1 Z0 Z1 U0 U1
      go_wp2_with fail
      obtain ⟨k, s, hk, hk1, hk2, hk3⟩ := id hv
      refine (printedV_any _ _ l v _ (hlW.pure (gr_trans g8 gs)) hv).mono ?_
      rintro e wb ⟨A9, c9, rfl, hO9, hgb⟩
      go_wp2_with fail
      go_meet
      exact ⟨A9, c9, by rw [HT.out], by rw [HT.out]; exact hO9.sl.mono (Nat.zero_le _), gr_trans gs hgb, by rw [HA.out]; exact R0.gr hgb (by simp), by rw [HA.out]; exact R1.gr hgb (by simp), by rw [HB.out]; exact R2.gr hgb (by simp), by rw [HB.out]; exact R3.gr hgb (by simp)⟩
    · have hb : (oneF l v == 0) = false := by simp [hz]
      have HT : Hid (tPO l v = []) := by rw [Hid]; unfold tPO; rw [if_neg hz]
      have HA : Hid (eAO l v = ⟨0, 0⟩) := by rw [Hid]; unfold eAO; rw [if_neg hz]
      have HB : Hid (eBO l v = ⟨0, 0⟩) := by rw [Hid]; unfold eBO; rw [if_neg hz]
      clear hz
      go_wp2_with fail
      go_meet
      exact ⟨none, 0, by rw [HT.out]; rfl, by rw [HT.out]; exact Sl.nil, gZ, by rw [HA.out]; exact Z0, by rw [HA.out]; exact Z1, by rw [HB.out]; exact U0, by rw [HB.out]; exact U1⟩
  case rest =>
  obtain ⟨A9, c9, rfl, h19, gC, R0, R1, R2, R3⟩ := hcut
  rename World => wc
  have gw := gr_trans g8 gC
  replace X0 := X0.gr gC (by simp)
  replace X1 := X1.gr gC (by simp)
  replace Y0 := Y0.gr gC (by simp)
  replace Y1 := Y1.gr gC (by simp)
  replace h13 := h13.pure gC
  have p0 := gw.k P0.1
  have p1 := gw.k P1.1
  have H2 := hide (show orL [pointsF [st], orderF l o] = twoF st l o from orL_two _ _)
  clear d0 d1 d2 Z0 Z1 U0 U1 g9 gZ gC
  go_wp2_with fail
  refine (pointFaultN_any _ 1 1 [st] rfl _ (sl_lit _ 0 [.int .i64 st.x, .int .i64 st.y] _ [st] (Nat.zero_le _) (by simp [maxLen]) ⟨_, [], rfl, rfl, rfl⟩)).mono ?_
  rintro e wd ⟨rfl, hgd⟩
  have gd := gr_trans (gr_alloc (r := none) (World.grownBy.refl wc none) _) hgd
  go_wp2_with fail
  refine (or_any _ _ _ [pointsF [st], orderF l o] _ (sl_ints _ _ _ _ (Nat.zero_le _) (by simp [maxLen])) rfl).mono ?_
  rintro e w10 ⟨rfl, rfl⟩
  rw [H2.out]
  have ge := gr_alloc gd (.cells #[.int .i64 (pointsF [st]), .int .i64 (orderF l o)] 37)
  replace X0 := X0.gr ge (by simp)
  replace X1 := X1.gr ge (by simp)
  replace Y0 := Y0.gr ge (by simp)
  replace Y1 := Y1.gr ge (by simp)
  replace R0 := R0.gr ge (by simp)
  replace R1 := R1.gr ge (by simp)
  replace R2 := R2.gr ge (by simp)
  replace R3 := R3.gr ge (by simp)
  replace h13 := h13.pure ge
  replace h19 := h19.pure ge
  have gx := gr_trans gw ge
  have q0 := gx.k P0.1
  have q1 := gx.k P1.1
  clear p0 p1 H2 hgd gd ge gw
  go_upto_if 89 with fail
  go_cut [21] (fun s21 wx => s21 = .int .i64 (travO st l o) ∧ (wd.alloc (.cells #[.int .i64 (pointsF [st]), .int .i64 (orderF l o)] 37)).grownBy wx none)
  case first =>
    by_cases hz : twoF st l o = 0
    · have hb : (twoF st l o == 0) = true := by simp [hz]
      obtain ⟨h1, h2, h3⟩ := twoF_zero hz
      have HT : Hid ((travS l st o).2 = travO st l o) := by rw [Hid]; unfold travO; rw [if_pos hz]
      clear hz
      go_wp2_with fail
      refine (travelRef_any _ _ l _ _ o st _ (hlW.pure gx) (hoW.pure gx) h1 h3 (by omega)).mono ?_
      rintro e wf ⟨rfl, hgf⟩
      rw [HT.out]
      go_wp2_with fail
      go_meet
      exact ⟨rfl, hgf⟩
    · have hb : (twoF st l o == 0) = false := by simp [hz]
      have HT : Hid (0 = travO st l o) := by rw [Hid]; unfold travO; rw [if_neg hz]
      clear hz
      go_wp2_with fail
      go_meet
      exact ⟨by rw [← HT.out], World.grownBy.refl _ _⟩
  case rest =>
  obtain ⟨rfl, gF⟩ := hcut
  rename World => wf
  have x0 := (X0.gr gF (by simp)).1
  have x1 := (X1.gr gF (by simp)).1
  have y0 := (Y0.gr gF (by simp)).1
  have y1 := (Y1.gr gF (by simp)).1
  have r0 := (R0.gr gF (by simp)).1
  have r1 := (R1.gr gF (by simp)).1
  have r2 := (R2.gr gF (by simp)).1
  have r3 := (R3.gr gF (by simp)).1
  have gz := gr_trans gx gF
  have HE := hide (eqB_refl (tPO l v))
  go_wp2_with fail
  refine (equalPt_any _ _ (tPO l v) _ _ (tPO l v) _ (h13.pure gF) (h19.pure gF)).mono ?_
  rintro e wg ⟨rfl, hgg⟩
  rw [HE.out]
  go_wp2_with fail
  refine (pathed_any _).mono ?_
  rintro e wh ⟨rfl, hgh⟩
  go_wp2_with fail
  go_ret
  exact ⟨rfl, gr_trans hgT.out (gr_trans gz (gr_trans hgg hgh))⟩

end Go.Proofs.Ytcaaephphefncaa

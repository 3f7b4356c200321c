/- Contracts of functions that this seat's laws reach, each: what one call returns and what it leaves in memory; no condition beyond each theorem's own hypotheses. -/
import Derived.Test.YtkcchcnljanloaaGreatZqMeasP
import Derived.Test.YtkcchcnljanloaaGreatZqMeshCB
import Derived.Test.YtkcchcnljanloaaGreatZqTree
set_option linter.unusedVariables false
set_option linter.unusedSimpArgs false
namespace Go.Proofs.YtkcchcnljanloaaGreat
open Go Go.RowKit Go.Bl

/-- the box of a list of points -/
def BX (K : List V3) (L H : V3) : Prop := LeastI (K.map V3.x) L.x ∧ LeastI (K.map V3.y) L.y ∧ LeastI (K.map V3.z) L.z ∧ MostI (K.map V3.x) H.x ∧ MostI (K.map V3.y) H.y ∧ MostI (K.map V3.z) H.z

theorem BX.one (v : V3) : BX [v] v v := ⟨LeastI.one _, LeastI.one _, LeastI.one _, MostI.one _, MostI.one _, MostI.one _⟩

theorem BX.snoc {K : List V3} {L H v : V3} (h : BX K L H) : BX (K ++ [v]) ⟨min L.x v.x, min L.y v.y, min L.z v.z⟩ ⟨max H.x v.x, max H.y v.y, max H.z v.z⟩ := by
  obtain ⟨h1, h2, h3, h4, h5, h6⟩ := h
  unfold BX
  simp only [List.map_append, List.map_cons, List.map_nil]
  exact ⟨h1.snoc, h2.snoc, h3.snoc, h4.snoc, h5.snoc, h6.snoc⟩

theorem BX.uniq {K K' : List V3} {L H L' H' : V3} (h : BX K L H) (k : BX K' L' H') (e : ∀ v, v ∈ K ↔ v ∈ K') : L = L' ∧ H = H' := by
  obtain ⟨h1, h2, h3, h4, h5, h6⟩ := h
  obtain ⟨k1, k2, k3, k4, k5, k6⟩ := k
  have em : ∀ (f : V3 → Int) x, x ∈ K.map f ↔ x ∈ K'.map f := fun f x => by
    simp only [List.mem_map]
    exact ⟨fun ⟨v, hv, q⟩ => ⟨v, (e v).1 hv, q⟩, fun ⟨v, hv, q⟩ => ⟨v, (e v).2 hv, q⟩⟩
  cases L; cases H; cases L'; cases H'
  simp only [V3.mk.injEq]
  exact ⟨⟨h1.uniq k1 (em _), h2.uniq k2 (em _), h3.uniq k3 (em _)⟩, h4.uniq k4 (em _), h5.uniq k5 (em _), h6.uniq k6 (em _)⟩

set_option maxHeartbeats 4000000 in
set_option maxRecDepth 100000 in
theorem boxOf_any (A : Option Addr) (c : Nat) (vs : List V3) (B : Option Addr) (d : Nat) (fs : List Fc) (w : World) (hl : Sl w 0 A vs) (hfs : Sl w 0 B fs) (hin : ∀ f ∈ fs, inF vs.length f = true) (hvl : vs.length ≤ 1000) (hfl : fs.length ≤ 1000) (hne : keepTo vs (useL vs.length fs) vs.length ≠ []) :
    Calls Tryz.prog 39 #[.agg #[.slice A vs.length c, .slice B fs.length d]] w fun e w' => ∃ L H : V3, e = .returned (.tuple #[.agg #[.int .i64 L.x, .int .i64 L.y, .int .i64 L.z], .agg #[.int .i64 H.x, .int .i64 H.y, .int .i64 H.z]]) ∧ BX (keepTo vs (useL vs.length fs) vs.length) L H ∧ w.grownBy w' none := by
  obtain ⟨W, hW⟩ : ∃ W, W = ((w.alloc (.cells #[.slice A vs.length c, .slice B fs.length d] 29)).alloc (.cells #[.int .i64 0, .int .i64 0, .int .i64 0] 38)).alloc (.cells #[.int .i64 0, .int .i64 0, .int .i64 0] 38) := ⟨_, rfl⟩
  have hgW : w.grownBy W none := by rw [hW]; exact (by repeat (first | exact World.grownBy.refl _ _ | assumption | refine gr_alloc ?_ _ | (apply gr_tail; assumption) | refine gr_drewN ?_ _ | refine gr_drew ?_))
  have z0 : W.cell? ⟨w.heap.size, 0, none⟩ = some (.slice A vs.length c) := by rw [hW]; go_simp
  have z1 : W.cell? ⟨w.heap.size, 1, none⟩ = some (.slice B fs.length d) := by rw [hW]; go_simp
  have hL0 : Box3 W (w.heap.size + 1) ⟨0, 0, 0⟩ := by rw [hW]; exact ⟨⟨by go_simp, by go_simp⟩, ⟨by go_simp, by go_simp⟩, ⟨by go_simp, by go_simp⟩⟩
  have hH0 : Box3 W (w.heap.size + 1 + 1) ⟨0, 0, 0⟩ := by rw [hW]; exact ⟨⟨by go_simp, by go_simp⟩, ⟨by go_simp, by go_simp⟩, ⟨by go_simp, by go_simp⟩⟩
  have hWs : W.heap.size = w.heap.size + 1 + 1 + 1 := by rw [hW]; simp
  have hUs := usedGo_any A c vs.length B d fs W (hfs.pure hgW) hin hvl (by omega)
  have hUl := hide (useL_len vs.length fs)
  have hz0 : keepTo vs (useL vs.length fs) 0 = [] := rfl
  generalize useL vs.length fs = U at *
  replace hUs := hide hUs
  go_enter Tryz.func39, Tryz.ntmps39
  go_upto_region 2 with fail
  rw [← hW]
  clear hW
  obtain ⟨x1, hx1⟩ : ∃ x, x = w.heap.size := ⟨_, rfl⟩
  obtain ⟨x2, hx2⟩ : ∃ x, x = w.heap.size + 1 := ⟨_, rfl⟩
  obtain ⟨x3, hx3⟩ : ∃ x, x = w.heap.size + 1 + 1 := ⟨_, rfl⟩
  have h12 : x1 < x2 := by omega
  have h23 : x2 < x3 := by omega
  have h3W : x3 < W.heap.size := by omega
  have hw2 : w.heap.size ≤ x2 := by omega
  rw [← hx3] at hH0 ⊢
  rw [← hx2] at hL0 ⊢
  rw [← hx1] at z0 z1 ⊢
  clear hx1 hx2 hx3 hWs
  go_wp2_with fail
  refine hUs.out.mono ?_
  rintro e w1 ⟨gu, rfl, hU, hg1⟩
  have hgu := (hU.blk_lt (g := gu) rfl).1
  replace hU := hU.lower (Nat.zero_le _)
  have b0 := hg1.k z0
  replace hL0 := hL0.gr hg1 (by simp)
  replace hH0 := hH0.gr hg1 (by simp)
  have hgw := gr_trans hgW hg1
  clear hUs z0 z1 hg1 hgW
  go_wp2_with fail
  go_loopw [4, 11] (fun f i wr => ∃ (k : Nat) (L H : V3), k ≤ vs.length ∧ i = .int .i64 k ∧ ((f = .bool true ∧ Hid (keepTo vs U k = [])) ∨ (f = .bool false ∧ BX (keepTo vs U k) L H)) ∧ Box3 wr x2 L ∧ Box3 wr x3 H ∧ Own wr 0 4 (some ⟨gu, 0, none⟩) vs.length U ∧ wr.cell? ⟨x1, 0, none⟩ = some (.slice A vs.length c) ∧ x3 < wr.heap.size ∧ w.grownBy wr none) (fun _ i _ => vs.length - (intOf i).toNat)
  case atStart => exact ⟨0, _, _, Nat.zero_le _, rfl, .inl ⟨rfl, rfl⟩, hL0, hH0, hU, b0, by have := hgw.size; have := cell_lt hH0.1.1; simp only at *; omega, hgw⟩
  case round =>
    clear hL0 hH0 hU b0 hgw
    obtain ⟨k, L, H, hk, rfl, hB, hL, hH, hU, b0, h3, hg⟩ := hrel
    by_cases hlt : k < vs.length
    · have hku : k < U.length := by rw [hUl.out]; exact hlt
      have u0 := hU.cell_bool hku
      obtain ⟨gv, ov, cx, rfl, hb0, hb1, rfl, hc⟩ := (hl.pure hg).at_ (by decide) hlt
      have v0 : wr.cell? ⟨gv, ov + k * 3, none⟩ = some (.int .i64 vs[k].x) := hc 0 _ rfl
      have v1 : wr.cell? ⟨gv, ov + k * 3 + 1, none⟩ = some (.int .i64 vs[k].y) := hc 1 _ rfl
      have v2 : wr.cell? ⟨gv, ov + k * 3 + 2, none⟩ = some (.int .i64 vs[k].z) := hc 2 _ rfl
      clear hc
      have hal := gr_alloc (World.grownBy.refl wr none) (.cells #[.int .i64 vs[k].x, .int .i64 vs[k].y, .int .i64 vs[k].z] 38)
      rcases hub : U[k] with _ | _
      · rw [hub] at u0
        have hK := hide (keepTo_no (vs := vs) hku hub)
        generalize vs[k] = v at *
        go_wp2_with fail
        (go_roundw; (case rel => exact ⟨k + 1, L, H, by omega, by go_num, by rw [hK.out]; exact hB, hL.gr hal (by simp), hH.gr hal (by simp), hU.pure hal, hal.k b0, by have := hal.size; omega, gr_trans hg hal⟩); (case measure => simp [intOf]; omega))
      · rw [hub] at u0
        have hK := hide (keepTo_yes hlt hku hub)
        have hx0 : (wr.alloc (.cells #[.int .i64 vs[k].x, .int .i64 vs[k].y, .int .i64 vs[k].z] 38)).cell? ⟨wr.heap.size, 0, none⟩ = some (.int .i64 vs[k].x) := by go_simp
        have hx1 : (wr.alloc (.cells #[.int .i64 vs[k].x, .int .i64 vs[k].y, .int .i64 vs[k].z] 38)).cell? ⟨wr.heap.size, 1, none⟩ = some (.int .i64 vs[k].y) := by go_simp
        have hx2 : (wr.alloc (.cells #[.int .i64 vs[k].x, .int .i64 vs[k].y, .int .i64 vs[k].z] 38)).cell? ⟨wr.heap.size, 2, none⟩ = some (.int .i64 vs[k].z) := by go_simp
        generalize vs[k] = v at *
        have b0' := hal.k b0
        replace hL := hL.gr hal (by simp)
        replace hH := hH.gr hal (by simp)
        replace hU := hU.pure hal
        have hgX := gr_trans hg hal
        have hgun : gu ≠ x2 ∧ gu ≠ x3 := by omega
        have h3X : x3 < (wr.alloc (.cells #[.int .i64 v.x, .int .i64 v.y, .int .i64 v.z] 38)).heap.size := Nat.lt_of_lt_of_le h3 hal.size
        rcases hB with ⟨rfl, hK0⟩ | ⟨rfl, hBX⟩
        · go_upto_region 10 with fail
          clear v0 v1 v2 b0 u0 hal hg
          generalize wr.heap.size = y at *
          generalize wr.alloc (.cells #[.int .i64 v.x, .int .i64 v.y, .int .i64 v.z] 38) = WX at *
          refine wp_region_tree (fun wx => wx.cell? ⟨y, 0, none⟩ = some (.int .i64 v.x) ∧ wx.cell? ⟨y, 1, none⟩ = some (.int .i64 v.y) ∧ wx.cell? ⟨y, 2, none⟩ = some (.int .i64 v.z)) [1, 1, 0, 0, 2] (.bl 0 (.bl 1 (.ef 2 (.ef 3 (.bl 4 .done))))) (by kernel_rfl) (by kernel_rfl) (⟨(gr_drew (World.grownBy.refl _ none)).k hx0, (gr_drew (World.grownBy.refl _ none)).k hx1, (gr_drew (World.grownBy.refl _ none)).k hx2⟩) ?_
          obtain ⟨W1, hW1⟩ : ∃ x, x = (WX).drew := ⟨_, rfl⟩
          rw [← hW1]
          have hgW1 : (WX).grownBy W1 none := by rw [hW1]; exact gr_drew (World.grownBy.refl _ _)
          clear hW1
          replace hL := hL.gr hgW1 (by simp)
          replace hH := hH.gr hgW1 (by simp)
          replace hU := hU.pure hgW1
          replace b0' := hgW1.k b0'
          replace hgX := gr_trans hgX hgW1
          replace h3X := Nat.lt_of_lt_of_le h3X hgW1.size
          refine tree_b rfl rfl rfl rfl _ rfl (by simp) (fun K hK => ?_)
          apply Exists.intro
          refine ⟨fun wq hq K' hK' => ?_, ?_⟩
          · obtain ⟨q0, q1, q2⟩ := hq
            go_wp2_with fail
            exact hK'
          go_simp
          refine hK _ ?_
          clear hK K
          refine tree_b rfl rfl rfl rfl _ rfl (by simp) (fun K hK => ?_)
          apply Exists.intro
          refine ⟨fun wq hq K' hK' => ?_, ?_⟩
          · obtain ⟨q0, q1, q2⟩ := hq
            go_wp2_with fail
            exact hK'
          go_simp
          refine hK _ ?_
          clear hK K
          refine tree_e rfl rfl (fun K hK => ?_)
          have hL' := hL
          obtain ⟨⟨k0, f0⟩, ⟨k1, f1⟩, ⟨k2, f2⟩⟩ := hL'
          go_wp2_with fail
          try go_simp
          refine hK _ _ (⟨gr_cell (gr_set3 _ _ _ _) (hgW1.k hx0) (by simp; omega), gr_cell (gr_set3 _ _ _ _) (hgW1.k hx1) (by simp; omega), gr_cell (gr_set3 _ _ _ _) (hgW1.k hx2) (by simp; omega)⟩) ?_
          clear hK K
          clear k0 f0 k1 f1 k2 f2
          obtain ⟨w2, hw2'⟩ : ∃ x, x = ((W1.setCell ⟨x2, 0, none⟩ (.int .i64 v.x)).setCell ⟨x2, 1, none⟩ (.int .i64 v.y)).setCell ⟨x2, 2, none⟩ (.int .i64 v.z) := ⟨_, rfl⟩
          have hs2 : W1.grownBy w2 (some x2) := by rw [hw2']; exact gr_set3 _ _ _ _
          replace hL := hL.set v
          rw [← hw2'] at hL
          rw [← hw2']
          clear hw2'
          replace hH := hH.gr hs2 (by intro e; injection e; omega)
          replace hU := hU.ne hs2 (fun b hb e => by have h1 : gu = b := by simpa [blk] using hb
                                                    injection e; omega)
          replace b0' := gr_cell hs2 b0' (by simp; omega)
          replace hgX := gr_new hgX hs2 hw2
          replace h3X := Nat.lt_of_lt_of_le h3X hs2.size
          refine tree_e0 (by kernel_rfl) rfl rfl (fun K hK => ?_)
          have hH' := hH
          obtain ⟨⟨k0, f0⟩, ⟨k1, f1⟩, ⟨k2, f2⟩⟩ := hH'
          go_wp2_with fail
          try go_simp
          refine hK _ _ trivial ?_
          clear hK K
          clear k0 f0 k1 f1 k2 f2
          obtain ⟨w3, hw3'⟩ : ∃ x, x = ((w2.setCell ⟨x3, 0, none⟩ (.int .i64 v.x)).setCell ⟨x3, 1, none⟩ (.int .i64 v.y)).setCell ⟨x3, 2, none⟩ (.int .i64 v.z) := ⟨_, rfl⟩
          have hs3 : w2.grownBy w3 (some x3) := by rw [hw3']; exact gr_set3 _ _ _ _
          replace hH := hH.set v
          rw [← hw3'] at hH
          rw [← hw3']
          clear hw3'
          replace hL := hL.gr hs3 (by intro e; injection e; omega)
          replace hU := hU.ne hs3 (fun b hb e => by have h1 : gu = b := by simpa [blk] using hb
                                                    injection e; omega)
          replace b0' := gr_cell hs3 b0' (by simp; omega)
          replace hgX := gr_new hgX hs3 (by omega)
          replace h3X := Nat.lt_of_lt_of_le h3X hs3.size
          refine tree_p rfl rfl rfl rfl _ rfl (by simp) (fun K hK => ?_)
          apply Exists.intro
          refine ⟨fun wq K' hK' => ?_, ?_⟩
          · go_wp2_with fail
            exact hK'
          go_simp
          refine hK _ ?_
          clear hK K
          refine tree_done ?_
          go_wp2_with fail
          (go_roundw; (case rel => exact ⟨k + 1, v, v, by omega, by go_num, .inr ⟨rfl, by rw [hK.out, hK0.out]; exact BX.one v⟩, hL, hH, hU, b0', h3X, hgX⟩); (case measure => simp [intOf]; omega))
        · have hL' := hL
          obtain ⟨⟨k0, f0⟩, ⟨k1, f1⟩, ⟨k2, f2⟩⟩ := hL'
          have hH' := hH
          obtain ⟨⟨j0, e0⟩, ⟨j1, e1⟩, ⟨j2, e2⟩⟩ := hH'
          go_upto_region 6 with fail
          clear v0 v1 v2 b0 u0 hal hg
          generalize wr.heap.size = y at *
          generalize wr.alloc (.cells #[.int .i64 v.x, .int .i64 v.y, .int .i64 v.z] 38) = WX at *
          clear j0 e0 j1 e1 j2 e2
          go_upto_region 7 with fail
          clear k0 f0 k1 f1 k2 f2
          obtain ⟨w2, hw2'⟩ : ∃ x, x = ((WX.setCell ⟨x2, 0, none⟩ (.int .i64 (min L.x v.x))).setCell ⟨x2, 1, none⟩ (.int .i64 (min L.y v.y))).setCell ⟨x2, 2, none⟩ (.int .i64 (min L.z v.z)) := ⟨_, rfl⟩
          have hs2 : WX.grownBy w2 (some x2) := by rw [hw2']; exact gr_set3 _ _ _ _
          replace hL := hL.set ⟨min L.x v.x, min L.y v.y, min L.z v.z⟩
          rw [← hw2'] at hL
          rw [← hw2']
          clear hw2'
          replace hH := hH.gr hs2 (by intro e; injection e; omega)
          replace hU := hU.ne hs2 (fun b hb e => by have h1 : gu = b := by simpa [blk] using hb
                                                    injection e; omega)
          replace b0' := gr_cell hs2 b0' (by simp; omega)
          replace hx0 := gr_cell hs2 hx0 (by simp; omega)
          replace hx1 := gr_cell hs2 hx1 (by simp; omega)
          replace hx2 := gr_cell hs2 hx2 (by simp; omega)
          replace hgX := gr_new hgX hs2 hw2
          replace h3X := Nat.lt_of_lt_of_le h3X hs2.size
          have hH' := hH
          obtain ⟨⟨j0, e0⟩, ⟨j1, e1⟩, ⟨j2, e2⟩⟩ := hH'
          go_wp2_with fail
          clear j0 e0 j1 e1 j2 e2
          obtain ⟨w3, hw3'⟩ : ∃ x, x = ((w2.setCell ⟨x3, 0, none⟩ (.int .i64 (max H.x v.x))).setCell ⟨x3, 1, none⟩ (.int .i64 (max H.y v.y))).setCell ⟨x3, 2, none⟩ (.int .i64 (max H.z v.z)) := ⟨_, rfl⟩
          have hs3 : w2.grownBy w3 (some x3) := by rw [hw3']; exact gr_set3 _ _ _ _
          replace hH := hH.set ⟨max H.x v.x, max H.y v.y, max H.z v.z⟩
          rw [← hw3'] at hH
          rw [← hw3']
          clear hw3'
          replace hL := hL.gr hs3 (by intro e; injection e; omega)
          replace hU := hU.ne hs3 (fun b hb e => by have h1 : gu = b := by simpa [blk] using hb
                                                    injection e; omega)
          replace b0' := gr_cell hs3 b0' (by simp; omega)
          replace hgX := gr_new hgX hs3 (by omega)
          replace h3X := Nat.lt_of_lt_of_le h3X hs3.size
          (go_roundw; (case rel => exact ⟨k + 1, _, _, by omega, by go_num, .inr ⟨rfl, by rw [hK.out]; exact hBX.snoc⟩, hL, hH, hU, b0', h3X, hgX⟩); (case measure => simp [intOf]; omega))
    · have hke : k = vs.length := by omega
      subst hke
      rcases hB with ⟨rfl, hK0⟩ | ⟨rfl, hBX⟩
      · exact absurd hK0 hne
      · clear hU b0
        go_upto_region 12 with fail
        refine wp_region_tree (fun wx => Box3 wx x2 L ∧ Box3 wx x3 H) [1, 1, 0, 0] (.bl 0 (.bl 1 (.ef 2 (.ef 3 .done)))) (by kernel_rfl) (by kernel_rfl) (⟨hL.gr (gr_drew (World.grownBy.refl _ none)) (by simp), hH.gr (gr_drew (World.grownBy.refl _ none)) (by simp)⟩) ?_
        obtain ⟨W1, hW1⟩ : ∃ x, x = (wr).drew := ⟨_, rfl⟩
        rw [← hW1]
        have hgW1 : (wr).grownBy W1 none := by rw [hW1]; exact gr_drew (World.grownBy.refl _ _)
        clear hW1
        replace hL := hL.gr hgW1 (by simp)
        replace hH := hH.gr hgW1 (by simp)
        replace hg := gr_trans hg hgW1
        refine tree_b rfl rfl rfl rfl _ rfl (by simp) (fun K hK => ?_)
        apply Exists.intro
        refine ⟨fun wq hq K' hK' => ?_, ?_⟩
        · obtain ⟨⟨⟨q0, -⟩, ⟨q1, -⟩, ⟨q2, -⟩⟩, ⟨⟨q3, -⟩, ⟨q4, -⟩, ⟨q5, -⟩⟩⟩ := hq
          go_wp2_with fail
          exact hK'
        go_simp
        refine hK _ ?_
        clear hK K
        refine tree_b rfl rfl rfl rfl _ rfl (by simp) (fun K hK => ?_)
        apply Exists.intro
        refine ⟨fun wq hq K' hK' => ?_, ?_⟩
        · obtain ⟨⟨⟨q0, -⟩, ⟨q1, -⟩, ⟨q2, -⟩⟩, ⟨⟨q3, -⟩, ⟨q4, -⟩, ⟨q5, -⟩⟩⟩ := hq
          go_wp2_with fail
          exact hK'
        go_simp
        refine hK _ ?_
        clear hK K
        refine tree_e rfl rfl (fun K hK => ?_)
        have hL' := hL
        obtain ⟨⟨k0, f0⟩, ⟨k1, f1⟩, ⟨k2, f2⟩⟩ := hL'
        go_wp2_with fail
        try go_simp
        refine hK _ _ (⟨hL.set L, hH.gr (gr_set3 _ _ _ _) (by intro e; injection e; omega)⟩) ?_
        clear hK K
        clear k0 f0 k1 f1 k2 f2
        obtain ⟨w2, hw2'⟩ : ∃ x, x = ((W1.setCell ⟨x2, 0, none⟩ (.int .i64 L.x)).setCell ⟨x2, 1, none⟩ (.int .i64 L.y)).setCell ⟨x2, 2, none⟩ (.int .i64 L.z) := ⟨_, rfl⟩
        have hs2 : W1.grownBy w2 (some x2) := by rw [hw2']; exact gr_set3 _ _ _ _
        replace hL := hL.set L
        rw [← hw2'] at hL
        rw [← hw2']
        clear hw2'
        replace hH := hH.gr hs2 (by intro e; injection e; omega)
        replace hg := gr_new hg hs2 hw2
        refine tree_e0 (by kernel_rfl) rfl rfl (fun K hK => ?_)
        have hH' := hH
        obtain ⟨⟨k0, f0⟩, ⟨k1, f1⟩, ⟨k2, f2⟩⟩ := hH'
        go_wp2_with fail
        try go_simp
        refine hK _ _ trivial ?_
        clear hK K
        clear k0 f0 k1 f1 k2 f2
        obtain ⟨w3, hw3'⟩ : ∃ x, x = ((w2.setCell ⟨x3, 0, none⟩ (.int .i64 H.x)).setCell ⟨x3, 1, none⟩ (.int .i64 H.y)).setCell ⟨x3, 2, none⟩ (.int .i64 H.z) := ⟨_, rfl⟩
        have hs3 : w2.grownBy w3 (some x3) := by rw [hw3']; exact gr_set3 _ _ _ _
        replace hH := hH.set H
        rw [← hw3'] at hH
        rw [← hw3']
        clear hw3'
        replace hL := hL.gr hs3 (by intro e; injection e; omega)
        replace hg := gr_new hg hs3 (by omega)
        refine tree_done ?_
        obtain ⟨⟨k0, f0⟩, ⟨k1, f1⟩, ⟨k2, f2⟩⟩ := hL
        obtain ⟨⟨j0, e0⟩, ⟨j1, e1⟩, ⟨j2, e2⟩⟩ := hH
        go_wp2_with fail
        exact bodyPost_ret (v := .tuple #[.agg #[.int .i64 L.x, .int .i64 L.y, .int .i64 L.z], .agg #[.int .i64 H.x, .int .i64 H.y, .int .i64 H.z]]) (by simp [results, Tryz.results39, go_sem, k0, k1, k2, j0, j1, j2, f0, f1, f2, e0, e1, e2]) rfl ⟨L, H, rfl, hBX, hg⟩

end Go.Proofs.YtkcchcnljanloaaGreat

namespace Go.Proofs.YtkcchcnljanloaaGreat
open Go Go.RowKit Go.Bl

theorem used_ne {vs : List V3} {fs : List Fc} (hM : meshF ⟨vs, fs⟩ = 0) : keepTo vs (useL vs.length fs) vs.length ≠ [] := by
  have hok := meshOk.1 hM
  obtain ⟨f, r, rfl⟩ := List.exists_cons_of_ne_nil hok.some
  have hin : ∀ g ∈ f :: r, inF vs.length g = true := fun g hg => faceF_in (hok.face g hg)
  exact List.ne_nil_of_mem ((used_corn hin (atV vs f.a)).2 (by simp [cornV]))

set_option maxHeartbeats 2000000 in
set_option maxRecDepth 100000 in
theorem boxBad_any (A : Option Addr) (c : Nat) (vs : List V3) (B : Option Addr) (d : Nat) (fs : List Fc) (w : World) (hl : Sl w 0 A vs) (hfs : Sl w 0 B fs) (hM : meshF ⟨vs, fs⟩ ≠ 0) :
    Calls Tryz.prog 8 #[.agg #[.slice A vs.length c, .slice B fs.length d]] w fun e w' => e = .returned (.tuple #[.agg #[.int .i64 0, .int .i64 0, .int .i64 0], .agg #[.int .i64 0, .int .i64 0, .int .i64 0], .int .i64 (meshF ⟨vs, fs⟩)]) ∧ w.grownBy w' none := by
  obtain ⟨W, hW⟩ : ∃ W, W = ((w.alloc (.cells #[.slice A vs.length c, .slice B fs.length d] 29)).alloc (.cells #[.int .i64 0, .int .i64 0, .int .i64 0] 38)).alloc (.cells #[.int .i64 0, .int .i64 0, .int .i64 0] 38) := ⟨_, rfl⟩
  have hgW : w.grownBy W none := by rw [hW]; exact (by repeat (first | exact World.grownBy.refl _ _ | assumption | refine gr_alloc ?_ _ | (apply gr_tail; assumption) | refine gr_drewN ?_ _ | refine gr_drew ?_))
  have z0 : W.cell? ⟨w.heap.size, 0, none⟩ = some (.slice A vs.length c) := by rw [hW]; go_simp
  have z1 : W.cell? ⟨w.heap.size, 1, none⟩ = some (.slice B fs.length d) := by rw [hW]; go_simp
  have hL : Box3 W (w.heap.size + 1) ⟨0, 0, 0⟩ := by rw [hW]; exact ⟨⟨by go_simp, by go_simp⟩, ⟨by go_simp, by go_simp⟩, ⟨by go_simp, by go_simp⟩⟩
  have hH : Box3 W (w.heap.size + 1 + 1) ⟨0, 0, 0⟩ := by rw [hW]; exact ⟨⟨by go_simp, by go_simp⟩, ⟨by go_simp, by go_simp⟩, ⟨by go_simp, by go_simp⟩⟩
  have hWs : W.heap.size = w.heap.size + 1 + 1 + 1 := by rw [hW]; simp
  have hCM := checkMesh_any A c vs B d fs W (hl.pure hgW) (hfs.pure hgW)
  generalize meshF ⟨vs, fs⟩ = F at *
  have hb : (F != 0) = true := by simpa using hM
  replace hCM := hide hCM
  go_enter Tryz.func8, Tryz.ntmps8
  go_upto_region 1 with fail
  rw [← hW]
  clear hW
  obtain ⟨x1, hx1⟩ : ∃ x, x = w.heap.size := ⟨_, rfl⟩
  obtain ⟨x2, hx2⟩ : ∃ x, x = w.heap.size + 1 := ⟨_, rfl⟩
  obtain ⟨x3, hx3⟩ : ∃ x, x = w.heap.size + 1 + 1 := ⟨_, rfl⟩
  have h12 : x1 < x2 := by omega
  have h23 : x2 < x3 := by omega
  have h3W : x3 < W.heap.size := by omega
  have hw2 : w.heap.size ≤ x2 := by omega
  rw [← hx3] at hH ⊢
  rw [← hx2] at hL ⊢
  rw [← hx1] at z0 z1 ⊢
  clear hx1 hx2 hx3 hWs
  go_wp2_with fail
  refine hCM.out.mono ?_
  rintro e w1 ⟨rfl, hg1⟩
  replace hL := hL.gr hg1 (by simp)
  replace hH := hH.gr hg1 (by simp)
  have hg := gr_trans hgW hg1
  clear hCM
  have hL' := hL
  have hH' := hH
  obtain ⟨⟨k0, f0⟩, ⟨k1, f1⟩, ⟨k2, f2⟩⟩ := hL'
  obtain ⟨⟨j0, e0⟩, ⟨j1, e1⟩, ⟨j2, e2⟩⟩ := hH'
  go_wp2_with fail
  clear k0 f0 k1 f1 k2 f2 j0 e0 j1 e1 j2 e2
  have s2 := gr_set3 (w := w1) x2 (.int .i64 0) (.int .i64 0) (.int .i64 0)
  have hL2 := hL.set ⟨0, 0, 0⟩
  have hH2 := hH.gr s2 (by intro e; injection e; omega)
  have hg2 := gr_new hg s2 hw2
  simp only at hL2
  generalize ((w1.setCell ⟨x2, 0, none⟩ (.int .i64 0)).setCell ⟨x2, 1, none⟩ (.int .i64 0)).setCell ⟨x2, 2, none⟩ (.int .i64 0) = w2 at *
  have s3 := gr_set3 (w := w2) x3 (.int .i64 0) (.int .i64 0) (.int .i64 0)
  have hH3 := hH2.set ⟨0, 0, 0⟩
  have hL3 := hL2.gr s3 (by intro e; injection e; omega)
  have hg3 := gr_new hg2 s3 (by omega)
  simp only at hH3
  generalize ((w2.setCell ⟨x3, 0, none⟩ (.int .i64 0)).setCell ⟨x3, 1, none⟩ (.int .i64 0)).setCell ⟨x3, 2, none⟩ (.int .i64 0) = w3 at *
  obtain ⟨⟨k0, f0⟩, ⟨k1, f1⟩, ⟨k2, f2⟩⟩ := hL3
  obtain ⟨⟨j0, e0⟩, ⟨j1, e1⟩, ⟨j2, e2⟩⟩ := hH3
  exact bodyPost_ret (v := .tuple #[.agg #[.int .i64 0, .int .i64 0, .int .i64 0], .agg #[.int .i64 0, .int .i64 0, .int .i64 0], .int .i64 F]) (by simp [results, Tryz.results8, go_sem, k0, k1, k2, j0, j1, j2, f0, f1, f2, e0, e1, e2]) rfl ⟨rfl, hg3⟩

set_option maxHeartbeats 2000000 in
set_option maxRecDepth 100000 in
theorem boxGo_any (A : Option Addr) (c : Nat) (vs : List V3) (B : Option Addr) (d : Nat) (fs : List Fc) (w : World) (hl : Sl w 0 A vs) (hfs : Sl w 0 B fs) (hM : meshF ⟨vs, fs⟩ = 0) :
    Calls Tryz.prog 8 #[.agg #[.slice A vs.length c, .slice B fs.length d]] w fun e w' => ∃ L H : V3, e = .returned (.tuple #[.agg #[.int .i64 L.x, .int .i64 L.y, .int .i64 L.z], .agg #[.int .i64 H.x, .int .i64 H.y, .int .i64 H.z], .int .i64 0]) ∧ BX (keepTo vs (useL vs.length fs) vs.length) L H ∧ w.grownBy w' none := by
  obtain ⟨W, hW⟩ : ∃ W, W = ((w.alloc (.cells #[.slice A vs.length c, .slice B fs.length d] 29)).alloc (.cells #[.int .i64 0, .int .i64 0, .int .i64 0] 38)).alloc (.cells #[.int .i64 0, .int .i64 0, .int .i64 0] 38) := ⟨_, rfl⟩
  have hgW : w.grownBy W none := by rw [hW]; exact (by repeat (first | exact World.grownBy.refl _ _ | assumption | refine gr_alloc ?_ _ | (apply gr_tail; assumption) | refine gr_drewN ?_ _ | refine gr_drew ?_))
  have z0 : W.cell? ⟨w.heap.size, 0, none⟩ = some (.slice A vs.length c) := by rw [hW]; go_simp
  have z1 : W.cell? ⟨w.heap.size, 1, none⟩ = some (.slice B fs.length d) := by rw [hW]; go_simp
  have hL : Box3 W (w.heap.size + 1) ⟨0, 0, 0⟩ := by rw [hW]; exact ⟨⟨by go_simp, by go_simp⟩, ⟨by go_simp, by go_simp⟩, ⟨by go_simp, by go_simp⟩⟩
  have hH : Box3 W (w.heap.size + 1 + 1) ⟨0, 0, 0⟩ := by rw [hW]; exact ⟨⟨by go_simp, by go_simp⟩, ⟨by go_simp, by go_simp⟩, ⟨by go_simp, by go_simp⟩⟩
  have hWs : W.heap.size = w.heap.size + 1 + 1 + 1 := by rw [hW]; simp
  have hok := meshOk.1 hM
  have hCM := checkMesh_any A c vs B d fs W (hl.pure hgW) (hfs.pure hgW)
  have hBo := fun W h1 h2 => boxOf_any A c vs B d fs W h1 h2 (fun f hf => faceF_in (hok.face f hf)) hok.vl hok.fl (used_ne hM)
  rw [hM] at hCM
  clear hM hok
  generalize keepTo vs (useL vs.length fs) vs.length = K at *
  replace hCM := hide hCM
  replace hBo := hide hBo
  go_enter Tryz.func8, Tryz.ntmps8
  go_upto_region 1 with fail
  rw [← hW]
  clear hW
  obtain ⟨x1, hx1⟩ : ∃ x, x = w.heap.size := ⟨_, rfl⟩
  obtain ⟨x2, hx2⟩ : ∃ x, x = w.heap.size + 1 := ⟨_, rfl⟩
  obtain ⟨x3, hx3⟩ : ∃ x, x = w.heap.size + 1 + 1 := ⟨_, rfl⟩
  have h12 : x1 < x2 := by omega
  have h23 : x2 < x3 := by omega
  have h3W : x3 < W.heap.size := by omega
  have hw2 : w.heap.size ≤ x2 := by omega
  rw [← hx3] at hH ⊢
  rw [← hx2] at hL ⊢
  rw [← hx1] at z0 z1 ⊢
  clear hx1 hx2 hx3 hWs
  go_wp2_with fail
  refine hCM.out.mono ?_
  rintro e w1 ⟨rfl, hg1⟩
  replace hL := hL.gr hg1 (by simp)
  replace hH := hH.gr hg1 (by simp)
  replace z0 := hg1.k z0
  replace z1 := hg1.k z1
  have hg := gr_trans hgW hg1
  clear hCM hg1
  go_wp2_with fail
  refine (hBo.out _ (hl.pure hg) (hfs.pure hg)).mono ?_
  rintro e w4 ⟨L, H, rfl, hBX, hg4⟩
  replace hL := hL.gr hg4 (by simp)
  replace hH := hH.gr hg4 (by simp)
  replace hg := gr_trans hg hg4
  clear hBo z0 z1 hg4
  have hx3 := cell_lt hH.1.1
  simp only at hx3
  obtain ⟨WX, hWX⟩ : ∃ x, x = (w4.alloc (.cells #[.int .i64 L.x, .int .i64 L.y, .int .i64 L.z] 38)).alloc (.cells #[.int .i64 H.x, .int .i64 H.y, .int .i64 H.z] 38) := ⟨_, rfl⟩
  have hal : w4.grownBy WX none := by rw [hWX]; exact (by repeat (first | exact World.grownBy.refl _ _ | assumption | refine gr_alloc ?_ _ | (apply gr_tail; assumption) | refine gr_drewN ?_ _ | refine gr_drew ?_))
  have u0 : Box3 WX w4.heap.size L := by rw [hWX]; exact ⟨⟨by go_simp, by go_simp⟩, ⟨by go_simp, by go_simp⟩, ⟨by go_simp, by go_simp⟩⟩
  have u1 : Box3 WX (w4.heap.size + 1) H := by rw [hWX]; exact ⟨⟨by go_simp, by go_simp⟩, ⟨by go_simp, by go_simp⟩, ⟨by go_simp, by go_simp⟩⟩
  go_upto_region 5 with fail
  rw [← hWX]
  clear hWX
  have hy : x3 < w4.heap.size := hx3
  obtain ⟨y, hyd⟩ : ∃ y, y = w4.heap.size := ⟨_, rfl⟩
  rw [← hyd] at u0 u1 hy ⊢
  clear hyd hx3
  replace hL := hL.gr hal (by simp)
  replace hH := hH.gr hal (by simp)
  replace hg := gr_trans hg hal
  clear hal
  refine wp_region_tree (fun wx => Box3 wx y L ∧ Box3 wx (y + 1) H) [1, 1, 0, 0, 2] (.bl 0 (.bl 1 (.ef 2 (.ef 3 (.bl 4 .done))))) (by kernel_rfl) (by kernel_rfl) (⟨u0.gr (gr_drew (World.grownBy.refl _ none)) (by simp), u1.gr (gr_drew (World.grownBy.refl _ none)) (by simp)⟩) ?_
  obtain ⟨W1, hW1⟩ : ∃ x, x = (WX).drew := ⟨_, rfl⟩
  rw [← hW1]
  have hgW1 : (WX).grownBy W1 none := by rw [hW1]; exact gr_drew (World.grownBy.refl _ _)
  clear hW1
  replace hL := hL.gr hgW1 (by simp)
  replace hH := hH.gr hgW1 (by simp)
  replace hg := gr_trans hg hgW1
  refine tree_b rfl rfl rfl rfl _ rfl (by simp) (fun K hK => ?_)
  apply Exists.intro
  refine ⟨fun wq hq K' hK' => ?_, ?_⟩
  · obtain ⟨⟨⟨q0, -⟩, ⟨q1, -⟩, ⟨q2, -⟩⟩, ⟨⟨q3, -⟩, ⟨q4, -⟩, ⟨q5, -⟩⟩⟩ := hq
    go_wp2_with fail
    exact hK'
  go_simp
  refine hK _ ?_
  clear hK K
  refine tree_b rfl rfl rfl rfl _ rfl (by simp) (fun K hK => ?_)
  apply Exists.intro
  refine ⟨fun wq hq K' hK' => ?_, ?_⟩
  · obtain ⟨⟨⟨q0, -⟩, ⟨q1, -⟩, ⟨q2, -⟩⟩, ⟨⟨q3, -⟩, ⟨q4, -⟩, ⟨q5, -⟩⟩⟩ := hq
    go_wp2_with fail
    exact hK'
  go_simp
  refine hK _ ?_
  clear hK K
  refine tree_e rfl rfl (fun K hK => ?_)
  have hL' := hL
  obtain ⟨⟨k0, f0⟩, ⟨k1, f1⟩, ⟨k2, f2⟩⟩ := hL'
  go_wp2_with fail
  try go_simp
  refine hK _ _ (⟨(u0.gr hgW1 (by simp)).gr (gr_set3 _ _ _ _) (by intro e; injection e; omega), (u1.gr hgW1 (by simp)).gr (gr_set3 _ _ _ _) (by intro e; injection e; omega)⟩) ?_
  clear hK K
  clear k0 f0 k1 f1 k2 f2
  obtain ⟨w2, hw2'⟩ : ∃ x, x = ((W1.setCell ⟨x2, 0, none⟩ (.int .i64 L.x)).setCell ⟨x2, 1, none⟩ (.int .i64 L.y)).setCell ⟨x2, 2, none⟩ (.int .i64 L.z) := ⟨_, rfl⟩
  have hs2 : W1.grownBy w2 (some x2) := by rw [hw2']; exact gr_set3 _ _ _ _
  replace hL := hL.set L
  rw [← hw2'] at hL
  rw [← hw2']
  clear hw2'
  replace hH := hH.gr hs2 (by intro e; injection e; omega)
  replace hg := gr_new hg hs2 hw2
  refine tree_e0 (by kernel_rfl) rfl rfl (fun K hK => ?_)
  have hH' := hH
  obtain ⟨⟨k0, f0⟩, ⟨k1, f1⟩, ⟨k2, f2⟩⟩ := hH'
  go_wp2_with fail
  try go_simp
  refine hK _ _ trivial ?_
  clear hK K
  clear k0 f0 k1 f1 k2 f2
  obtain ⟨w3, hw3'⟩ : ∃ x, x = ((w2.setCell ⟨x3, 0, none⟩ (.int .i64 H.x)).setCell ⟨x3, 1, none⟩ (.int .i64 H.y)).setCell ⟨x3, 2, none⟩ (.int .i64 H.z) := ⟨_, rfl⟩
  have hs3 : w2.grownBy w3 (some x3) := by rw [hw3']; exact gr_set3 _ _ _ _
  replace hH := hH.set H
  rw [← hw3'] at hH
  rw [← hw3']
  clear hw3'
  replace hL := hL.gr hs3 (by intro e; injection e; omega)
  replace hg := gr_new hg hs3 (by omega)
  refine tree_p rfl rfl rfl rfl _ rfl (by simp) (fun K hK => ?_)
  apply Exists.intro
  refine ⟨fun wq K' hK' => ?_, ?_⟩
  · go_wp2_with fail
    exact hK'
  go_simp
  refine hK _ ?_
  clear hK K
  refine tree_done ?_
  obtain ⟨⟨k0, f0⟩, ⟨k1, f1⟩, ⟨k2, f2⟩⟩ := hL
  obtain ⟨⟨j0, e0⟩, ⟨j1, e1⟩, ⟨j2, e2⟩⟩ := hH
  go_wp2_with fail
  exact bodyPost_ret (v := .tuple #[.agg #[.int .i64 L.x, .int .i64 L.y, .int .i64 L.z], .agg #[.int .i64 H.x, .int .i64 H.y, .int .i64 H.z], .int .i64 0]) (by simp [results, Tryz.results8, go_sem, k0, k1, k2, j0, j1, j2, f0, f1, f2, e0, e1, e2]) rfl ⟨L, H, rfl, hBX, hg⟩

end Go.Proofs.YtkcchcnljanloaaGreat

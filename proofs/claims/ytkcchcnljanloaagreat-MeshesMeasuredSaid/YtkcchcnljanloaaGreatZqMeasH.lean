/- Contracts of functions that this seat's laws reach, each: what one call returns and what it leaves in memory; no condition beyond each theorem's own hypotheses. -/
import Derived.Test.YtkcchcnljanloaaGreatZqMeasG
import Derived.Test.YtkcchcnljanloaaGreatZqMeasF
set_option linter.unusedVariables false
set_option linter.unusedSimpArgs false
namespace Go.Proofs.YtkcchcnljanloaaGreat
open Go Go.RowKit Go.Bl

theorem cornK_zero (vs : List V3) (fs : List Fc) : cornK vs fs 0 0 = [] := by simp [cornK, cornV]

theorem cornK_next (vs : List V3) {fs : List Fc} {k : Nat} (h : k < fs.length) : cornK vs fs k 3 = cornK vs fs (k + 1) 0 := by
  unfold cornK cornV
  rw [take_snoc h, List.flatMap_append]
  simp [cor3, List.getD_eq_getElem?_getD, h]

theorem cornK_all (vs : List V3) (fs : List Fc) : cornK vs fs fs.length 0 = cornV vs fs := by simp [cornK]

theorem cornK_0 (vs : List V3) {fs : List Fc} {k : Nat} (h : k < fs.length) : cornK vs fs k (0 + 1) = cornK vs fs k 0 ++ [atV vs fs[k].a] := by simp [cornK, cor3, List.getD_eq_getElem?_getD, h]

theorem cornK_1 (vs : List V3) {fs : List Fc} {k : Nat} (h : k < fs.length) : cornK vs fs k (1 + 1) = cornK vs fs k 1 ++ [atV vs fs[k].b] := by simp [cornK, cor3, List.getD_eq_getElem?_getD, h]

theorem cornK_2 (vs : List V3) {fs : List Fc} {k : Nat} (h : k < fs.length) : cornK vs fs k (2 + 1) = cornK vs fs k 2 ++ [atV vs fs[k].c] := by simp [cornK, cor3, List.getD_eq_getElem?_getD, h]

/-- three lists of coordinates, each in a block of its own, none in X's -/
def TX (lo : Nat) (K : List V3) (N : Nat) (X : Option Addr) (a b c : Value) (w : World) : Prop :=
  ∃ (AX : Option Addr) (cX : Nat) (LX : List Int) (AY : Option Addr) (cY : Nat) (LY : List Int) (AZ : Option Addr) (cZ : Nat) (LZ : List Int),
    a = .slice AX LX.length cX ∧ b = .slice AY LY.length cY ∧ c = .slice AZ LZ.length cZ ∧ Hid (LX = K.map V3.x) ∧ Hid (LY = K.map V3.y) ∧ Hid (LZ = K.map V3.z) ∧ LX.length ≤ N ∧ LY.length ≤ N ∧ LZ.length ≤ N ∧
    Own w lo 3 AX cX LX ∧ Own w lo 3 AY cY LY ∧ Own w lo 3 AZ cZ LZ ∧ Dj AX AY ∧ Dj AX AZ ∧ Dj AY AZ ∧ Dj AX X ∧ Dj AY X ∧ Dj AZ X

theorem TX.pure {lo : Nat} {K : List V3} {N : Nat} {X : Option Addr} {a b c : Value} {w w' : World} (h : TX lo K N X a b c w) (hg : w.grownBy w' none) : TX lo K N X a b c w' :=
  let ⟨AX, cX, LX, AY, cY, LY, AZ, cZ, LZ, e1, e2, e3, h1, h2, h3, l1, l2, l3, o1, o2, o3, d1, d2, d3, d4, d5, d6⟩ := h
  ⟨AX, cX, LX, AY, cY, LY, AZ, cZ, LZ, e1, e2, e3, h1, h2, h3, l1, l2, l3, o1.pure hg, o2.pure hg, o3.pure hg, d1, d2, d3, d4, d5, d6⟩
/-- another block to keep away from: one that is new -/
theorem TX.away {lo : Nat} {K : List V3} {N : Nat} {X : Option Addr} {a b c : Value} {w : World} (h : TX lo K N X a b c w) {x : Nat} (hx : w.heap.size ≤ x) : TX lo K N (some ⟨x, 0, none⟩) a b c w :=
  let ⟨AX, cX, LX, AY, cY, LY, AZ, cZ, LZ, e1, e2, e3, h1, h2, h3, l1, l2, l3, o1, o2, o3, d1, d2, d3, _, _, _⟩ := h
  have key : ∀ {A : Option Addr} {c : Nat} {L : List Int}, Own w lo 3 A c L → Dj A (some ⟨x, 0, none⟩) := fun ho g hg e => by
    have h1 := (ho.blk_lt hg).2
    have h2 : x = g := by simpa [blk] using e
    omega
  ⟨AX, cX, LX, AY, cY, LY, AZ, cZ, LZ, e1, e2, e3, h1, h2, h3, l1, l2, l3, o1, o2, o3, d1, d2, d3, key o1, key o2, key o3⟩

theorem TX.none_ {lo : Nat} {K K' : List V3} {N N' : Nat} {X : Option Addr} {a b c : Value} {w : World} (h : TX lo K N X a b c w) (hK : K = K') (hN : N ≤ N') : TX lo K' N' none a b c w :=
  let ⟨AX, cX, LX, AY, cY, LY, AZ, cZ, LZ, e1, e2, e3, h1, h2, h3, l1, l2, l3, o1, o2, o3, d1, d2, d3, _, _, _⟩ := h
  ⟨AX, cX, LX, AY, cY, LY, AZ, cZ, LZ, e1, e2, e3, by rw [← hK]; exact h1, by rw [← hK]; exact h2, by rw [← hK]; exact h3, by omega, by omega, by omega, o1, o2, o3, d1, d2, d3, fun _ _ e => (by cases e), fun _ _ e => (by cases e), fun _ _ e => (by cases e)⟩

set_option maxHeartbeats 4000000 in
set_option maxRecDepth 100000 in
theorem boxRef_any (A : Option Addr) (c : Nat) (vs : List V3) (B : Option Addr) (d : Nat) (fs : List Fc) (w : World) (hl : Sl w 0 A vs) (hfs : Sl w 0 B fs) (hin : ∀ f ∈ fs, inF vs.length f = true) (hfl : fs.length ≤ 1000) (hne : cornV vs fs ≠ []) :
    Calls Tryz.prog 15 #[.agg #[.slice A vs.length c, .slice B fs.length d]] w fun e w' => ∃ L H : V3, e = .returned (.tuple #[.agg #[.int .i64 L.x, .int .i64 L.y, .int .i64 L.z], .agg #[.int .i64 H.x, .int .i64 H.y, .int .i64 H.z]]) ∧ BX (cornV vs fs) L H ∧ w.grownBy w' none := by
  obtain ⟨W, hW⟩ : ∃ W, W = ((w.alloc (.cells #[.slice A vs.length c, .slice B fs.length d] 29)).alloc (.cells #[.int .i64 0, .int .i64 0, .int .i64 0] 38)).alloc (.cells #[.int .i64 0, .int .i64 0, .int .i64 0] 38) := ⟨_, rfl⟩
  have hgW : w.grownBy W none := by rw [hW]; exact (by repeat (first | exact World.grownBy.refl _ _ | assumption | refine gr_alloc ?_ _ | (apply gr_tail; assumption) | refine gr_drewN ?_ _ | refine gr_drew ?_))
  have z0 : W.cell? ⟨w.heap.size, 0, none⟩ = some (.slice A vs.length c) := by rw [hW]; go_simp
  have z1 : W.cell? ⟨w.heap.size, 1, none⟩ = some (.slice B fs.length d) := by rw [hW]; go_simp
  have hL : Box3 W (w.heap.size + 1) ⟨0, 0, 0⟩ := by rw [hW]; exact ⟨⟨by go_simp, by go_simp⟩, ⟨by go_simp, by go_simp⟩, ⟨by go_simp, by go_simp⟩⟩
  have hH : Box3 W (w.heap.size + 1 + 1) ⟨0, 0, 0⟩ := by rw [hW]; exact ⟨⟨by go_simp, by go_simp⟩, ⟨by go_simp, by go_simp⟩, ⟨by go_simp, by go_simp⟩⟩
  have hWs : W.heap.size = w.heap.size + 1 + 1 + 1 := by rw [hW]; simp
  replace hne := hide hne
  replace hin := hide hin
  go_enter Tryz.func15, Tryz.ntmps15
  go_upto_region 1 with fail
  rw [← hW]
  clear hW
  obtain ⟨x1, hx1⟩ : ∃ x, x = w.heap.size := ⟨_, rfl⟩
  obtain ⟨x2, hx2⟩ : ∃ x, x = w.heap.size + 1 := ⟨_, rfl⟩
  obtain ⟨x3, hx3⟩ : ∃ x, x = w.heap.size + 1 + 1 := ⟨_, rfl⟩
  have h12 : x1 < x2 := by omega
  have h23 : x2 < x3 := by omega
  have h3W : x3 < W.heap.size := by omega
  have hw2 : w.heap.size ≤ x2 := by omega
  rw [← hx3] at hH ⊢
  rw [← hx2] at hL ⊢
  rw [← hx1] at z0 z1 ⊢
  clear hx1 hx2 hx3 hWs
  obtain ⟨lo, hlo⟩ : ∃ x, x = W.heap.size := ⟨_, rfl⟩
  have hWlo : W.heap.size ≤ lo := by omega
  have hlo1 : lo ≤ W.heap.size := by omega
  clear hlo
  go_wp2_with fail
  have hT0 : TX lo (cornK vs fs 0 0) (3 * 0) none (.slice none 0 0) (.slice none 0 0) (.slice none 0 0) W :=
    ⟨none, 0, [], none, 0, [], none, 0, [], rfl, rfl, rfl, by rw [Hid, cornK_zero]; rfl, by rw [Hid, cornK_zero]; rfl, by rw [Hid, cornK_zero]; rfl, by simp, by simp, by simp, Own.nil _ _ _, Own.nil _ _ _, Own.nil _ _ _, Dj.nil _, Dj.nil _, Dj.nil _, Dj.nil _, Dj.nil _, Dj.nil _⟩
  have hz := World.grownBy.refl W none
  go_loopw [4, 5, 6, 15] (fun a b c i wr => ∃ k : Nat, k ≤ fs.length ∧ i = .int .i64 k ∧ TX lo (cornK vs fs k 0) (3 * k) none a b c wr ∧ W.grownBy wr none) (fun _ _ _ i _ => fs.length - (intOf i).toNat)
  case atStart => exact ⟨0, Nat.zero_le _, rfl, hT0, hz⟩
  case round =>
    clear hT0 hz
    obtain ⟨k, hk, rfl, hT, hgx⟩ := hrel
    by_cases hlt : k < fs.length
    · have hK0 := hide (cornK_0 vs hlt)
      have hK1 := hide (cornK_1 vs hlt)
      have hK2 := hide (cornK_2 vs hlt)
      have hK3 := hide (cornK_next vs hlt)
      have hinf := hin.out _ (List.getElem_mem hlt)
      have hT' := hT
      obtain ⟨AX, cX, LX, AY, cY, LY, AZ, cZ, LZ, rfl, rfl, rfl, -, -, -, -, -, -, -, -, -, -, -, -, -, -, -⟩ := hT'
      obtain ⟨g, o, cx, rfl, hb0, hb1, rfl, hc⟩ := (hfs.pure (gr_trans hgW hgx)).at_ (by decide) hlt
      have v0 : wr.cell? ⟨g, o + k * 3, none⟩ = some (.int .i64 fs[k].a) := hc 0 _ rfl
      have v1 : wr.cell? ⟨g, o + k * 3 + 1, none⟩ = some (.int .i64 fs[k].b) := hc 1 _ rfl
      have v2 : wr.cell? ⟨g, o + k * 3 + 2, none⟩ = some (.int .i64 fs[k].c) := hc 2 _ rfl
      clear hc
      generalize fs[k] = f at *
      obtain ⟨ia, ib, ic, ha, hb, hcc, rfl, ea, eb, ec⟩ := inF_at hinf
      try simp only at v0 v1 v2 ea eb ec hK0 hK1 hK2
      replace ea := hide ea
      replace eb := hide eb
      replace ec := hide ec
      try simp only
      obtain ⟨WL, hWL⟩ : ∃ x, x = (wr.alloc (.cells #[.int .i64 (ia : Int), .int .i64 (ib : Int), .int .i64 (ic : Int)] 58)).alloc (.cells #[.int .i64 (ia : Int), .int .i64 (ib : Int), .int .i64 (ic : Int)] 3) := ⟨_, rfl⟩
      have hal : wr.grownBy WL none := by rw [hWL]; exact (by repeat (first | exact World.grownBy.refl _ _ | assumption | refine gr_alloc ?_ _ | (apply gr_tail; assumption) | refine gr_drewN ?_ _ | refine gr_drew ?_))
      have y0 : WL.cell? ⟨wr.heap.size + 1, 0, none⟩ = some (.int .i64 (ia : Int)) := by rw [hWL]; go_simp
      have y1 : WL.cell? ⟨wr.heap.size + 1, 1, none⟩ = some (.int .i64 (ib : Int)) := by rw [hWL]; go_simp
      have y2 : WL.cell? ⟨wr.heap.size + 1, 2, none⟩ = some (.int .i64 (ic : Int)) := by rw [hWL]; go_simp
      have hTL := (hT.away (x := wr.heap.size + 1) (by omega)).pure hal
      have hgL := gr_trans hgx hal
      go_upto_region 6 with fail
      rw [← hWL]
      clear hWL hal v0 v1 v2
      generalize wr.heap.size + 1 = xl at *
      go_loopw [4, 5, 6, 27] (fun a b c i wx => ∃ j : Nat, j ≤ 3 ∧ i = .int .i64 j ∧ TX lo (cornK vs fs k j) (3 * k + j) (some ⟨xl, 0, none⟩) a b c wx ∧ wx.cell? ⟨xl, 0, none⟩ = some (.int .i64 (ia : Int)) ∧ wx.cell? ⟨xl, 1, none⟩ = some (.int .i64 (ib : Int)) ∧ wx.cell? ⟨xl, 2, none⟩ = some (.int .i64 (ic : Int)) ∧ W.grownBy wx none) (fun _ _ _ i _ => 3 - (intOf i).toNat)
      case atStart => exact ⟨0, by omega, rfl, hTL, y0, y1, y2, hgL⟩
      case round =>
        clear hTL y0 y1 y2 hgL hT hgx
        obtain ⟨j, hj, rfl, hT, y0, y1, y2, hgx⟩ := hrel
        by_cases hjt : j < 3
        · obtain ⟨iv, hiv, yj, hKj⟩ : ∃ (iv : Nat) (hiv : iv < vs.length), wr.cell? ⟨xl, j, none⟩ = some (.int .i64 (iv : Int)) ∧ Hid (cornK vs fs k (j + 1) = cornK vs fs k j ++ [vs[iv]]) := by
            obtain rfl | rfl | rfl : j = 0 ∨ j = 1 ∨ j = 2 := by omega
            · exact ⟨ia, ha, y0, by rw [Hid, hK0.out, ea.out]⟩
            · exact ⟨ib, hb, y1, by rw [Hid, hK1.out, eb.out]⟩
            · exact ⟨ic, hcc, y2, by rw [Hid, hK2.out, ec.out]⟩
          have hjd : decide ((j : Int) < 3) = true := by simp; omega
          obtain ⟨AX, cX, LX, AY, cY, LY, AZ, cZ, LZ, rfl, rfl, rfl, hX, hY, hZ, nX, nY, nZ, oX, oY, oZ, dXY, dXZ, dYZ, dXl, dYl, dZl⟩ := hT
          have hwr := gr_trans hgW hgx
          obtain ⟨gv, ov, cx, rfl, hb0, hb1, rfl, hc⟩ := (hl.pure hwr).at_ (by decide) hiv
          have v0 : wr.cell? ⟨gv, ov + iv * 3, none⟩ = some (.int .i64 vs[iv].x) := hc 0 _ rfl
          have v1 : wr.cell? ⟨gv, ov + iv * 3 + 1, none⟩ = some (.int .i64 vs[iv].y) := hc 1 _ rfl
          have v2 : wr.cell? ⟨gv, ov + iv * 3 + 2, none⟩ = some (.int .i64 vs[iv].z) := hc 2 _ rfl
          clear hc
          have hKv : Hid (cornK vs fs k (j + 1) = cornK vs fs k j ++ [vs[iv]]) := hKj
          replace z0 := hgx.k z0
          generalize vs[iv] = v at *
          obtain ⟨WX, hWX⟩ : ∃ x, x = wr.alloc (.cells #[.int .i64 v.x, .int .i64 v.y, .int .i64 v.z] 38) := ⟨_, rfl⟩
          have hal : wr.grownBy WX none := by rw [hWX]; exact gr_alloc (World.grownBy.refl _ _) _
          have hbV : Box WX wr.heap.size 38 [.int .i64 v.x, .int .i64 v.y, .int .i64 v.z] := by rw [hWX]; exact Box.new _ _ _
          go_upto_region 9 with fail
          rw [← hWX]
          try simp only [hjd]
          clear hjd
          replace oX := oX.pure hal
          replace oY := oY.pure hal
          replace oZ := oZ.pure hal
          replace y0 := hal.k y0
          replace y1 := hal.k y1
          replace y2 := hal.k y2
          replace hgx := gr_trans hgx hal
          clear hWX hal v0 v1 v2 hb0 hb1 z0 hwr
          generalize wr.heap.size = yv at *
          obtain ⟨i0, hi0, hzz, hi1, hi2⟩ := info_parts info_int
          refine wp_region_tree (fun wx => Box wx yv 38 [.int .i64 v.x, .int .i64 v.y, .int .i64 v.z]) [2, 2, 1, 0, 0, 2, 2, 1, 0, 0, 2, 2, 1, 0, 0, 2, 2, 2] (.bl 0 (.bl 1 (.bl 2 (.bl 5 (.bl 6 (.bl 7 (.bl 10 (.bl 11 (.bl 12 (.alt (.ef 3 (.alt (.ef 4 (.alt (.ef 8 (.alt (.ef 9 (.ef 13 (.ef 14 (.bl 15 (.bl 16 (.bl 17 .done)))))) (.ef 13 (.ef 9 (.ef 14 (.bl 15 (.bl 16 (.bl 17 .done)))))))) (.ef 13 (.ef 8 (.ef 9 (.ef 14 (.bl 15 (.bl 16 (.bl 17 .done))))))))) (.alt (.ef 8 (.alt (.ef 4 (.alt (.ef 9 (.ef 13 (.ef 14 (.bl 15 (.bl 16 (.bl 17 .done)))))) (.ef 13 (.ef 9 (.ef 14 (.bl 15 (.bl 16 (.bl 17 .done)))))))) (.ef 13 (.ef 4 (.ef 9 (.ef 14 (.bl 15 (.bl 16 (.bl 17 .done))))))))) (.ef 13 (.alt (.ef 4 (.ef 8 (.ef 9 (.ef 14 (.bl 15 (.bl 16 (.bl 17 .done))))))) (.ef 8 (.ef 4 (.ef 9 (.ef 14 (.bl 15 (.bl 16 (.bl 17 .done)))))))))))) (.alt (.ef 8 (.alt (.ef 3 (.alt (.ef 4 (.alt (.ef 9 (.ef 13 (.ef 14 (.bl 15 (.bl 16 (.bl 17 .done)))))) (.ef 13 (.ef 9 (.ef 14 (.bl 15 (.bl 16 (.bl 17 .done)))))))) (.ef 13 (.ef 4 (.ef 9 (.ef 14 (.bl 15 (.bl 16 (.bl 17 .done))))))))) (.ef 13 (.ef 3 (.ef 4 (.ef 9 (.ef 14 (.bl 15 (.bl 16 (.bl 17 .done)))))))))) (.ef 13 (.alt (.ef 3 (.alt (.ef 4 (.ef 8 (.ef 9 (.ef 14 (.bl 15 (.bl 16 (.bl 17 .done))))))) (.ef 8 (.ef 4 (.ef 9 (.ef 14 (.bl 15 (.bl 16 (.bl 17 .done))))))))) (.ef 8 (.ef 3 (.ef 4 (.ef 9 (.ef 14 (.bl 15 (.bl 16 (.bl 17 .done))))))))))))))))))))) (by kernel_rfl) (by kernel_rfl) (hbV.pure (gr_drew (World.grownBy.refl _ _))) ?_
          obtain ⟨W1, hW1⟩ : ∃ x, x = (WX).drew := ⟨_, rfl⟩
          rw [← hW1]
          have hgW1 : (WX).grownBy W1 none := by rw [hW1]; exact gr_drew (World.grownBy.refl _ _)
          clear hW1
          replace oX := oX.pure hgW1
          replace oY := oY.pure hgW1
          replace oZ := oZ.pure hgW1
          replace y0 := hgW1.k y0
          replace y1 := hgW1.k y1
          replace y2 := hgW1.k y2
          replace hbV := hbV.pure hgW1
          have hcur := gr_trans hgx hgW1
          obtain ⟨s0, hs00⟩ : ∃ x, x = W1.heap.size := ⟨_, rfl⟩
          have hs0 : s0 ≤ W1.heap.size := by omega
          have bX : ∀ g, blk AX = some g → g < s0 := fun g e => by rw [hs00]; exact (oX.blk_lt e).2
          have bY : ∀ g, blk AY = some g → g < s0 := fun g e => by rw [hs00]; exact (oY.blk_lt e).2
          have bZ : ∀ g, blk AZ = some g → g < s0 := fun g e => by rw [hs00]; exact (oZ.blk_lt e).2
          have bl : xl < s0 := by rw [hs00]; exact cell_lt y0
          clear hs00
          refine tree_p rfl rfl rfl rfl _ rfl (by simp) (fun K hK => ?_)
          apply Exists.intro
          refine ⟨fun wq K' hK' => ?_, ?_⟩
          · go_wp2_with fail
            exact hK'
          go_simp
          refine hK _ ?_
          clear hK K
          refine tree_p rfl rfl rfl rfl _ rfl (by simp) (fun K hK => ?_)
          apply Exists.intro
          refine ⟨fun wq K' hK' => ?_, ?_⟩
          · go_wp2_with fail
            exact hK'
          go_simp
          refine hK _ ?_
          clear hK K
          refine tree_b rfl rfl rfl rfl _ rfl (by simp) (fun K hK => ?_)
          apply Exists.intro
          refine ⟨fun wq hq K' hK' => ?_, ?_⟩
          · have q0 := (hq.c 0 rfl).1
            have q1 := (hq.c 1 rfl).1
            have q2 := (hq.c 2 rfl).1
            go_wp2_with fail
            exact hK'
          go_simp
          refine hK _ ?_
          clear hK K
          refine tree_p rfl rfl rfl rfl _ rfl (by simp) (fun K hK => ?_)
          apply Exists.intro
          refine ⟨fun wq K' hK' => ?_, ?_⟩
          · go_wp2_with fail
            exact hK'
          go_simp
          refine hK _ ?_
          clear hK K
          refine tree_p rfl rfl rfl rfl _ rfl (by simp) (fun K hK => ?_)
          apply Exists.intro
          refine ⟨fun wq K' hK' => ?_, ?_⟩
          · go_wp2_with fail
            exact hK'
          go_simp
          refine hK _ ?_
          clear hK K
          refine tree_b rfl rfl rfl rfl _ rfl (by simp) (fun K hK => ?_)
          apply Exists.intro
          refine ⟨fun wq hq K' hK' => ?_, ?_⟩
          · have q0 := (hq.c 0 rfl).1
            have q1 := (hq.c 1 rfl).1
            have q2 := (hq.c 2 rfl).1
            go_wp2_with fail
            exact hK'
          go_simp
          refine hK _ ?_
          clear hK K
          refine tree_p rfl rfl rfl rfl _ rfl (by simp) (fun K hK => ?_)
          apply Exists.intro
          refine ⟨fun wq K' hK' => ?_, ?_⟩
          · go_wp2_with fail
            exact hK'
          go_simp
          refine hK _ ?_
          clear hK K
          refine tree_p rfl rfl rfl rfl _ rfl (by simp) (fun K hK => ?_)
          apply Exists.intro
          refine ⟨fun wq K' hK' => ?_, ?_⟩
          · go_wp2_with fail
            exact hK'
          go_simp
          refine hK _ ?_
          clear hK K
          refine tree_b rfl rfl rfl rfl _ rfl (by simp) (fun K hK => ?_)
          apply Exists.intro
          refine ⟨fun wq hq K' hK' => ?_, ?_⟩
          · have q0 := (hq.c 0 rfl).1
            have q1 := (hq.c 1 rfl).1
            have q2 := (hq.c 2 rfl).1
            go_wp2_with fail
            exact hK'
          go_simp
          refine hK _ ?_
          clear hK K
          refine tree_alt ?_ ?_
          · refine tree_e rfl rfl (fun K hK => ?_)
            go_wp2_with fail
            try go_simp
            refine hK _ _ (hbV.pure (gr_alloc (World.grownBy.refl _ _) _)) ?_
            clear hK K
            obtain ⟨w3, hw3⟩ : ∃ x, x = (W1).alloc (.cells #[.int .i64 (v.x)] 3) := ⟨_, rfl⟩
            have hgl3 : (W1).grownBy w3 none := by rw [hw3]; exact gr_alloc (World.grownBy.refl _ _) _
            have l3 : Sl w3 0 (some ⟨(W1).heap.size, 0, none⟩) [v.x] := by rw [hw3]; exact sl_int1 _ 3 (v.x) _ rfl
            rw [← hw3]
            clear hw3
            have hq3 := hs0
            obtain ⟨p3, hp3⟩ : ∃ x, x = (W1).heap.size := ⟨_, rfl⟩
            rw [← hp3] at l3 hq3 ⊢
            replace oX := oX.pure hgl3
            replace oY := oY.pure hgl3
            replace oZ := oZ.pure hgl3
            replace hbV := hbV.pure hgl3
            replace y0 := hgl3.k y0
            replace y1 := hgl3.k y1
            replace y2 := hgl3.k y2
            replace hcur := gr_trans hcur hgl3
            replace hs0 := Nat.le_trans hs0 hgl3.size
            clear hp3 hgl3
            refine tree_alt ?_ ?_
            · refine tree_e rfl rfl (fun K hK => ?_)
              refine wp_pushAt (α := Int) _ (.tmp 36) (.tmp 39) _ rfl lo 3 i0 _ 8 Tryz.underlying22 hi0 hzz hi1 hi2 rfl _ _ _ LX rfl rfl oX 0 ⟨p3, 0, none⟩ _ _ [v.x] rfl rfl l3 ?_ ?_ ?_ ?_
              · simp; omega
              · simp [maxLen]; omega
              · exact Nat.le_trans hlo1 hcur.size
              intro AX4 cX4 w4 oX4 hG4
              try go_simp
              refine hK _ _ (hbV.gr hG4.1 (hbV.ne_own oX (by decide))) ?_
              clear hK K
              have oY0 := oY
              have oZ0 := oZ
              replace hbV := hbV.gr hG4.1 (hbV.ne_own oX (by decide))
              replace y0 := gr_cell hG4.1 y0 (fun h2 => dXl _ h2 rfl)
              replace y1 := gr_cell hG4.1 y1 (fun h2 => dXl _ h2 rfl)
              replace y2 := gr_cell hG4.1 y2 (fun h2 => dXl _ h2 rfl)
              have hcur' := gr_row hcur hG4.1 (fun g h2 => Nat.le_trans hWlo (oX.blk_lt h2).1)
              replace oY := oY.ne hG4.1 (fun g h1 h2 => dXY g h2 h1)
              replace oZ := oZ.ne hG4.1 (fun g h1 h2 => dXZ g h2 h1)
              replace dXY := dXY.grew hG4 (fun g h => (oY0.blk_lt h).2)
              replace dXZ := dXZ.grew hG4 (fun g h => (oZ0.blk_lt h).2)
              replace dXl := dXl.grew hG4 (fun g h => by have h4 : xl = g := by simpa [blk] using h
                                                         omega)
              replace oX := oX4
              replace hcur := hcur'
              replace hs0 := Nat.le_trans hs0 hG4.1.size
              clear hcur' hG4 oX4 l3 oY0 oZ0
              refine tree_alt ?_ ?_
              · refine tree_e rfl rfl (fun K hK => ?_)
                go_wp2_with fail
                try go_simp
                refine hK _ _ (hbV.pure (gr_alloc (World.grownBy.refl _ _) _)) ?_
                clear hK K
                obtain ⟨w8, hw8⟩ : ∃ x, x = (w4).alloc (.cells #[.int .i64 (v.y)] 3) := ⟨_, rfl⟩
                have hgl8 : (w4).grownBy w8 none := by rw [hw8]; exact gr_alloc (World.grownBy.refl _ _) _
                have l8 : Sl w8 0 (some ⟨(w4).heap.size, 0, none⟩) [v.y] := by rw [hw8]; exact sl_int1 _ 3 (v.y) _ rfl
                rw [← hw8]
                clear hw8
                have hq8 := hs0
                obtain ⟨p8, hp8⟩ : ∃ x, x = (w4).heap.size := ⟨_, rfl⟩
                rw [← hp8] at l8 hq8 ⊢
                replace oX := oX.pure hgl8
                replace oY := oY.pure hgl8
                replace oZ := oZ.pure hgl8
                replace hbV := hbV.pure hgl8
                replace y0 := hgl8.k y0
                replace y1 := hgl8.k y1
                replace y2 := hgl8.k y2
                replace hcur := gr_trans hcur hgl8
                replace hs0 := Nat.le_trans hs0 hgl8.size
                clear hp8 hgl8
                refine tree_alt ?_ ?_
                · refine tree_e rfl rfl (fun K hK => ?_)
                  refine wp_pushAt (α := Int) _ (.tmp 41) (.tmp 44) _ rfl lo 3 i0 _ 8 Tryz.underlying22 hi0 hzz hi1 hi2 rfl _ _ _ LY rfl rfl oY 0 ⟨p8, 0, none⟩ _ _ [v.y] rfl rfl l8 ?_ ?_ ?_ ?_
                  · simp; omega
                  · simp [maxLen]; omega
                  · exact Nat.le_trans hlo1 hcur.size
                  intro AY9 cY9 w9 oY9 hG9
                  try go_simp
                  refine hK _ _ (hbV.gr hG9.1 (hbV.ne_own oY (by decide))) ?_
                  clear hK K
                  have oX0 := oX
                  have oZ0 := oZ
                  replace hbV := hbV.gr hG9.1 (hbV.ne_own oY (by decide))
                  replace y0 := gr_cell hG9.1 y0 (fun h2 => dYl _ h2 rfl)
                  replace y1 := gr_cell hG9.1 y1 (fun h2 => dYl _ h2 rfl)
                  replace y2 := gr_cell hG9.1 y2 (fun h2 => dYl _ h2 rfl)
                  have hcur' := gr_row hcur hG9.1 (fun g h2 => Nat.le_trans hWlo (oY.blk_lt h2).1)
                  replace oX := oX.ne hG9.1 (fun g h1 h2 => dXY g h1 h2)
                  replace oZ := oZ.ne hG9.1 (fun g h1 h2 => dYZ g h2 h1)
                  replace dXY := (dXY.symm.grew hG9 (fun g h => (oX0.blk_lt h).2)).symm
                  replace dYZ := dYZ.grew hG9 (fun g h => (oZ0.blk_lt h).2)
                  replace dYl := dYl.grew hG9 (fun g h => by have h4 : xl = g := by simpa [blk] using h
                                                             omega)
                  replace oY := oY9
                  replace hcur := hcur'
                  replace hs0 := Nat.le_trans hs0 hG9.1.size
                  clear hcur' hG9 oY9 l8 oX0 oZ0
                  refine tree_e rfl rfl (fun K hK => ?_)
                  go_wp2_with fail
                  try go_simp
                  refine hK _ _ (hbV.pure (gr_alloc (World.grownBy.refl _ _) _)) ?_
                  clear hK K
                  obtain ⟨w13, hw13⟩ : ∃ x, x = (w9).alloc (.cells #[.int .i64 (v.z)] 3) := ⟨_, rfl⟩
                  have hgl13 : (w9).grownBy w13 none := by rw [hw13]; exact gr_alloc (World.grownBy.refl _ _) _
                  have l13 : Sl w13 0 (some ⟨(w9).heap.size, 0, none⟩) [v.z] := by rw [hw13]; exact sl_int1 _ 3 (v.z) _ rfl
                  rw [← hw13]
                  clear hw13
                  have hq13 := hs0
                  obtain ⟨p13, hp13⟩ : ∃ x, x = (w9).heap.size := ⟨_, rfl⟩
                  rw [← hp13] at l13 hq13 ⊢
                  replace oX := oX.pure hgl13
                  replace oY := oY.pure hgl13
                  replace oZ := oZ.pure hgl13
                  replace hbV := hbV.pure hgl13
                  replace y0 := hgl13.k y0
                  replace y1 := hgl13.k y1
                  replace y2 := hgl13.k y2
                  replace hcur := gr_trans hcur hgl13
                  replace hs0 := Nat.le_trans hs0 hgl13.size
                  clear hp13 hgl13
                  refine tree_e0 (by kernel_rfl) rfl rfl (fun K hK => ?_)
                  refine wp_pushAt (α := Int) _ (.tmp 46) (.tmp 49) _ rfl lo 3 i0 _ 8 Tryz.underlying22 hi0 hzz hi1 hi2 rfl _ _ _ LZ rfl rfl oZ 0 ⟨p13, 0, none⟩ _ _ [v.z] rfl rfl l13 ?_ ?_ ?_ ?_
                  · simp; omega
                  · simp [maxLen]; omega
                  · exact Nat.le_trans hlo1 hcur.size
                  intro AZ14 cZ14 w14 oZ14 hG14
                  try go_simp
                  refine hK _ _ trivial ?_
                  clear hK K
                  have oX0 := oX
                  have oY0 := oY
                  replace hbV := hbV.gr hG14.1 (hbV.ne_own oZ (by decide))
                  replace y0 := gr_cell hG14.1 y0 (fun h2 => dZl _ h2 rfl)
                  replace y1 := gr_cell hG14.1 y1 (fun h2 => dZl _ h2 rfl)
                  replace y2 := gr_cell hG14.1 y2 (fun h2 => dZl _ h2 rfl)
                  have hcur' := gr_row hcur hG14.1 (fun g h2 => Nat.le_trans hWlo (oZ.blk_lt h2).1)
                  replace oX := oX.ne hG14.1 (fun g h1 h2 => dXZ g h1 h2)
                  replace oY := oY.ne hG14.1 (fun g h1 h2 => dYZ g h1 h2)
                  replace dXZ := (dXZ.symm.grew hG14 (fun g h => (oX0.blk_lt h).2)).symm
                  replace dYZ := (dYZ.symm.grew hG14 (fun g h => (oY0.blk_lt h).2)).symm
                  replace dZl := dZl.grew hG14 (fun g h => by have h4 : xl = g := by simpa [blk] using h
                                                              omega)
                  replace oZ := oZ14
                  replace hcur := hcur'
                  replace hs0 := Nat.le_trans hs0 hG14.1.size
                  clear hcur' hG14 oZ14 l13 oX0 oY0
                  refine tree_p rfl rfl rfl rfl _ rfl (by simp) (fun K hK => ?_)
                  apply Exists.intro
                  refine ⟨fun wq K' hK' => ?_, ?_⟩
                  · go_wp2_with fail
                    exact hK'
                  go_simp
                  refine hK _ ?_
                  clear hK K
                  refine tree_p rfl rfl rfl rfl _ rfl (by simp) (fun K hK => ?_)
                  apply Exists.intro
                  refine ⟨fun wq K' hK' => ?_, ?_⟩
                  · go_wp2_with fail
                    exact hK'
                  go_simp
                  refine hK _ ?_
                  clear hK K
                  refine tree_p rfl rfl rfl rfl _ rfl (by simp) (fun K hK => ?_)
                  apply Exists.intro
                  refine ⟨fun wq K' hK' => ?_, ?_⟩
                  · go_wp2_with fail
                    exact hK'
                  go_simp
                  refine hK _ ?_
                  clear hK K
                  refine tree_done ?_
                  have hX1 : Hid (LX ++ [v.x] = (cornK vs fs k (j + 1)).map V3.x) := by rw [Hid, hKv.out, List.map_append, ← hX.out]; rfl
                  have hY1 : Hid (LY ++ [v.y] = (cornK vs fs k (j + 1)).map V3.y) := by rw [Hid, hKv.out, List.map_append, ← hY.out]; rfl
                  have hZ1 : Hid (LZ ++ [v.z] = (cornK vs fs k (j + 1)).map V3.z) := by rw [Hid, hKv.out, List.map_append, ← hZ.out]; rfl
                  go_wp2_with fail
                  go_roundw
                  case rel => exact ⟨j + 1, by omega, by go_num, ⟨_, _, LX ++ [v.x], _, _, LY ++ [v.y], _, _, LZ ++ [v.z], by first | rfl | simp, by first | rfl | simp, by first | rfl | simp, hX1, hY1, hZ1, by simp; omega, by simp; omega, by simp; omega, oX, oY, oZ, dXY, dXZ, dYZ, dXl, dYl, dZl⟩, y0, y1, y2, hcur⟩
                  case measure => simp [intOf]; omega
                · refine tree_e rfl rfl (fun K hK => ?_)
                  go_wp2_with fail
                  try go_simp
                  refine hK _ _ (hbV.pure (gr_alloc (World.grownBy.refl _ _) _)) ?_
                  clear hK K
                  obtain ⟨w13, hw13⟩ : ∃ x, x = (w8).alloc (.cells #[.int .i64 (v.z)] 3) := ⟨_, rfl⟩
                  have hgl13 : (w8).grownBy w13 none := by rw [hw13]; exact gr_alloc (World.grownBy.refl _ _) _
                  have l13 : Sl w13 0 (some ⟨(w8).heap.size, 0, none⟩) [v.z] := by rw [hw13]; exact sl_int1 _ 3 (v.z) _ rfl
                  rw [← hw13]
                  clear hw13
                  have hq13 := hs0
                  obtain ⟨p13, hp13⟩ : ∃ x, x = (w8).heap.size := ⟨_, rfl⟩
                  rw [← hp13] at l13 hq13 ⊢
                  replace l8 := l8.pure hgl13
                  replace oX := oX.pure hgl13
                  replace oY := oY.pure hgl13
                  replace oZ := oZ.pure hgl13
                  replace hbV := hbV.pure hgl13
                  replace y0 := hgl13.k y0
                  replace y1 := hgl13.k y1
                  replace y2 := hgl13.k y2
                  replace hcur := gr_trans hcur hgl13
                  replace hs0 := Nat.le_trans hs0 hgl13.size
                  clear hp13 hgl13
                  refine tree_e rfl rfl (fun K hK => ?_)
                  refine wp_pushAt (α := Int) _ (.tmp 41) (.tmp 44) _ rfl lo 3 i0 _ 8 Tryz.underlying22 hi0 hzz hi1 hi2 rfl _ _ _ LY rfl rfl oY 0 ⟨p8, 0, none⟩ _ _ [v.y] rfl rfl l8 ?_ ?_ ?_ ?_
                  · simp; omega
                  · simp [maxLen]; omega
                  · exact Nat.le_trans hlo1 hcur.size
                  intro AY9 cY9 w9 oY9 hG9
                  try go_simp
                  refine hK _ _ (hbV.gr hG9.1 (hbV.ne_own oY (by decide))) ?_
                  clear hK K
                  have oX0 := oX
                  have oZ0 := oZ
                  replace hbV := hbV.gr hG9.1 (hbV.ne_own oY (by decide))
                  replace l13 := l13.ne hG9.1 (fun g h1 h2 => by have h3 := bY g h2; have h4 : p13 = g := (by simpa [blk] using h1); omega)
                  replace y0 := gr_cell hG9.1 y0 (fun h2 => dYl _ h2 rfl)
                  replace y1 := gr_cell hG9.1 y1 (fun h2 => dYl _ h2 rfl)
                  replace y2 := gr_cell hG9.1 y2 (fun h2 => dYl _ h2 rfl)
                  have hcur' := gr_row hcur hG9.1 (fun g h2 => Nat.le_trans hWlo (oY.blk_lt h2).1)
                  replace oX := oX.ne hG9.1 (fun g h1 h2 => dXY g h1 h2)
                  replace oZ := oZ.ne hG9.1 (fun g h1 h2 => dYZ g h2 h1)
                  replace dXY := (dXY.symm.grew hG9 (fun g h => (oX0.blk_lt h).2)).symm
                  replace dYZ := dYZ.grew hG9 (fun g h => (oZ0.blk_lt h).2)
                  replace dYl := dYl.grew hG9 (fun g h => by have h4 : xl = g := by simpa [blk] using h
                                                             omega)
                  replace oY := oY9
                  replace hcur := hcur'
                  replace hs0 := Nat.le_trans hs0 hG9.1.size
                  clear hcur' hG9 oY9 l8 oX0 oZ0
                  refine tree_e0 (by kernel_rfl) rfl rfl (fun K hK => ?_)
                  refine wp_pushAt (α := Int) _ (.tmp 46) (.tmp 49) _ rfl lo 3 i0 _ 8 Tryz.underlying22 hi0 hzz hi1 hi2 rfl _ _ _ LZ rfl rfl oZ 0 ⟨p13, 0, none⟩ _ _ [v.z] rfl rfl l13 ?_ ?_ ?_ ?_
                  · simp; omega
                  · simp [maxLen]; omega
                  · exact Nat.le_trans hlo1 hcur.size
                  intro AZ14 cZ14 w14 oZ14 hG14
                  try go_simp
                  refine hK _ _ trivial ?_
                  clear hK K
                  have oX0 := oX
                  have oY0 := oY
                  replace hbV := hbV.gr hG14.1 (hbV.ne_own oZ (by decide))
                  replace y0 := gr_cell hG14.1 y0 (fun h2 => dZl _ h2 rfl)
                  replace y1 := gr_cell hG14.1 y1 (fun h2 => dZl _ h2 rfl)
                  replace y2 := gr_cell hG14.1 y2 (fun h2 => dZl _ h2 rfl)
                  have hcur' := gr_row hcur hG14.1 (fun g h2 => Nat.le_trans hWlo (oZ.blk_lt h2).1)
                  replace oX := oX.ne hG14.1 (fun g h1 h2 => dXZ g h1 h2)
                  replace oY := oY.ne hG14.1 (fun g h1 h2 => dYZ g h1 h2)
                  replace dXZ := (dXZ.symm.grew hG14 (fun g h => (oX0.blk_lt h).2)).symm
                  replace dYZ := (dYZ.symm.grew hG14 (fun g h => (oY0.blk_lt h).2)).symm
                  replace dZl := dZl.grew hG14 (fun g h => by have h4 : xl = g := by simpa [blk] using h
                                                              omega)
                  replace oZ := oZ14
                  replace hcur := hcur'
                  replace hs0 := Nat.le_trans hs0 hG14.1.size
                  clear hcur' hG14 oZ14 l13 oX0 oY0
                  refine tree_p rfl rfl rfl rfl _ rfl (by simp) (fun K hK => ?_)
                  apply Exists.intro
                  refine ⟨fun wq K' hK' => ?_, ?_⟩
                  · go_wp2_with fail
                    exact hK'
                  go_simp
                  refine hK _ ?_
                  clear hK K
                  refine tree_p rfl rfl rfl rfl _ rfl (by simp) (fun K hK => ?_)
                  apply Exists.intro
                  refine ⟨fun wq K' hK' => ?_, ?_⟩
                  · go_wp2_with fail
                    exact hK'
                  go_simp
                  refine hK _ ?_
                  clear hK K
                  refine tree_p rfl rfl rfl rfl _ rfl (by simp) (fun K hK => ?_)
                  apply Exists.intro
                  refine ⟨fun wq K' hK' => ?_, ?_⟩
                  · go_wp2_with fail
                    exact hK'
                  go_simp
                  refine hK _ ?_
                  clear hK K
                  refine tree_done ?_
                  have hX1 : Hid (LX ++ [v.x] = (cornK vs fs k (j + 1)).map V3.x) := by rw [Hid, hKv.out, List.map_append, ← hX.out]; rfl
                  have hY1 : Hid (LY ++ [v.y] = (cornK vs fs k (j + 1)).map V3.y) := by rw [Hid, hKv.out, List.map_append, ← hY.out]; rfl
                  have hZ1 : Hid (LZ ++ [v.z] = (cornK vs fs k (j + 1)).map V3.z) := by rw [Hid, hKv.out, List.map_append, ← hZ.out]; rfl
                  go_wp2_with fail
                  go_roundw
                  case rel => exact ⟨j + 1, by omega, by go_num, ⟨_, _, LX ++ [v.x], _, _, LY ++ [v.y], _, _, LZ ++ [v.z], by first | rfl | simp, by first | rfl | simp, by first | rfl | simp, hX1, hY1, hZ1, by simp; omega, by simp; omega, by simp; omega, oX, oY, oZ, dXY, dXZ, dYZ, dXl, dYl, dZl⟩, y0, y1, y2, hcur⟩
                  case measure => simp [intOf]; omega
              · refine tree_e rfl rfl (fun K hK => ?_)
                go_wp2_with fail
                try go_simp
                refine hK _ _ (hbV.pure (gr_alloc (World.grownBy.refl _ _) _)) ?_
                clear hK K
                obtain ⟨w13, hw13⟩ : ∃ x, x = (w4).alloc (.cells #[.int .i64 (v.z)] 3) := ⟨_, rfl⟩
                have hgl13 : (w4).grownBy w13 none := by rw [hw13]; exact gr_alloc (World.grownBy.refl _ _) _
                have l13 : Sl w13 0 (some ⟨(w4).heap.size, 0, none⟩) [v.z] := by rw [hw13]; exact sl_int1 _ 3 (v.z) _ rfl
                rw [← hw13]
                clear hw13
                have hq13 := hs0
                obtain ⟨p13, hp13⟩ : ∃ x, x = (w4).heap.size := ⟨_, rfl⟩
                rw [← hp13] at l13 hq13 ⊢
                replace oX := oX.pure hgl13
                replace oY := oY.pure hgl13
                replace oZ := oZ.pure hgl13
                replace hbV := hbV.pure hgl13
                replace y0 := hgl13.k y0
                replace y1 := hgl13.k y1
                replace y2 := hgl13.k y2
                replace hcur := gr_trans hcur hgl13
                replace hs0 := Nat.le_trans hs0 hgl13.size
                clear hp13 hgl13
                refine tree_e rfl rfl (fun K hK => ?_)
                go_wp2_with fail
                try go_simp
                refine hK _ _ (hbV.pure (gr_alloc (World.grownBy.refl _ _) _)) ?_
                clear hK K
                obtain ⟨w8, hw8⟩ : ∃ x, x = (w13).alloc (.cells #[.int .i64 (v.y)] 3) := ⟨_, rfl⟩
                have hgl8 : (w13).grownBy w8 none := by rw [hw8]; exact gr_alloc (World.grownBy.refl _ _) _
                have l8 : Sl w8 0 (some ⟨(w13).heap.size, 0, none⟩) [v.y] := by rw [hw8]; exact sl_int1 _ 3 (v.y) _ rfl
                rw [← hw8]
                clear hw8
                have hq8 := hs0
                obtain ⟨p8, hp8⟩ : ∃ x, x = (w13).heap.size := ⟨_, rfl⟩
                rw [← hp8] at l8 hq8 ⊢
                replace l13 := l13.pure hgl8
                replace oX := oX.pure hgl8
                replace oY := oY.pure hgl8
                replace oZ := oZ.pure hgl8
                replace hbV := hbV.pure hgl8
                replace y0 := hgl8.k y0
                replace y1 := hgl8.k y1
                replace y2 := hgl8.k y2
                replace hcur := gr_trans hcur hgl8
                replace hs0 := Nat.le_trans hs0 hgl8.size
                clear hp8 hgl8
                refine tree_e rfl rfl (fun K hK => ?_)
                refine wp_pushAt (α := Int) _ (.tmp 41) (.tmp 44) _ rfl lo 3 i0 _ 8 Tryz.underlying22 hi0 hzz hi1 hi2 rfl _ _ _ LY rfl rfl oY 0 ⟨p8, 0, none⟩ _ _ [v.y] rfl rfl l8 ?_ ?_ ?_ ?_
                · simp; omega
                · simp [maxLen]; omega
                · exact Nat.le_trans hlo1 hcur.size
                intro AY9 cY9 w9 oY9 hG9
                try go_simp
                refine hK _ _ (hbV.gr hG9.1 (hbV.ne_own oY (by decide))) ?_
                clear hK K
                have oX0 := oX
                have oZ0 := oZ
                replace hbV := hbV.gr hG9.1 (hbV.ne_own oY (by decide))
                replace l13 := l13.ne hG9.1 (fun g h1 h2 => by have h3 := bY g h2; have h4 : p13 = g := (by simpa [blk] using h1); omega)
                replace y0 := gr_cell hG9.1 y0 (fun h2 => dYl _ h2 rfl)
                replace y1 := gr_cell hG9.1 y1 (fun h2 => dYl _ h2 rfl)
                replace y2 := gr_cell hG9.1 y2 (fun h2 => dYl _ h2 rfl)
                have hcur' := gr_row hcur hG9.1 (fun g h2 => Nat.le_trans hWlo (oY.blk_lt h2).1)
                replace oX := oX.ne hG9.1 (fun g h1 h2 => dXY g h1 h2)
                replace oZ := oZ.ne hG9.1 (fun g h1 h2 => dYZ g h2 h1)
                replace dXY := (dXY.symm.grew hG9 (fun g h => (oX0.blk_lt h).2)).symm
                replace dYZ := dYZ.grew hG9 (fun g h => (oZ0.blk_lt h).2)
                replace dYl := dYl.grew hG9 (fun g h => by have h4 : xl = g := by simpa [blk] using h
                                                           omega)
                replace oY := oY9
                replace hcur := hcur'
                replace hs0 := Nat.le_trans hs0 hG9.1.size
                clear hcur' hG9 oY9 l8 oX0 oZ0
                refine tree_e0 (by kernel_rfl) rfl rfl (fun K hK => ?_)
                refine wp_pushAt (α := Int) _ (.tmp 46) (.tmp 49) _ rfl lo 3 i0 _ 8 Tryz.underlying22 hi0 hzz hi1 hi2 rfl _ _ _ LZ rfl rfl oZ 0 ⟨p13, 0, none⟩ _ _ [v.z] rfl rfl l13 ?_ ?_ ?_ ?_
                · simp; omega
                · simp [maxLen]; omega
                · exact Nat.le_trans hlo1 hcur.size
                intro AZ14 cZ14 w14 oZ14 hG14
                try go_simp
                refine hK _ _ trivial ?_
                clear hK K
                have oX0 := oX
                have oY0 := oY
                replace hbV := hbV.gr hG14.1 (hbV.ne_own oZ (by decide))
                replace y0 := gr_cell hG14.1 y0 (fun h2 => dZl _ h2 rfl)
                replace y1 := gr_cell hG14.1 y1 (fun h2 => dZl _ h2 rfl)
                replace y2 := gr_cell hG14.1 y2 (fun h2 => dZl _ h2 rfl)
                have hcur' := gr_row hcur hG14.1 (fun g h2 => Nat.le_trans hWlo (oZ.blk_lt h2).1)
                replace oX := oX.ne hG14.1 (fun g h1 h2 => dXZ g h1 h2)
                replace oY := oY.ne hG14.1 (fun g h1 h2 => dYZ g h1 h2)
                replace dXZ := (dXZ.symm.grew hG14 (fun g h => (oX0.blk_lt h).2)).symm
                replace dYZ := (dYZ.symm.grew hG14 (fun g h => (oY0.blk_lt h).2)).symm
                replace dZl := dZl.grew hG14 (fun g h => by have h4 : xl = g := by simpa [blk] using h
                                                            omega)
                replace oZ := oZ14
                replace hcur := hcur'
                replace hs0 := Nat.le_trans hs0 hG14.1.size
                clear hcur' hG14 oZ14 l13 oX0 oY0
                refine tree_p rfl rfl rfl rfl _ rfl (by simp) (fun K hK => ?_)
                apply Exists.intro
                refine ⟨fun wq K' hK' => ?_, ?_⟩
                · go_wp2_with fail
                  exact hK'
                go_simp
                refine hK _ ?_
                clear hK K
                refine tree_p rfl rfl rfl rfl _ rfl (by simp) (fun K hK => ?_)
                apply Exists.intro
                refine ⟨fun wq K' hK' => ?_, ?_⟩
                · go_wp2_with fail
                  exact hK'
                go_simp
                refine hK _ ?_
                clear hK K
                refine tree_p rfl rfl rfl rfl _ rfl (by simp) (fun K hK => ?_)
                apply Exists.intro
                refine ⟨fun wq K' hK' => ?_, ?_⟩
                · go_wp2_with fail
                  exact hK'
                go_simp
                refine hK _ ?_
                clear hK K
                refine tree_done ?_
                have hX1 : Hid (LX ++ [v.x] = (cornK vs fs k (j + 1)).map V3.x) := by rw [Hid, hKv.out, List.map_append, ← hX.out]; rfl
                have hY1 : Hid (LY ++ [v.y] = (cornK vs fs k (j + 1)).map V3.y) := by rw [Hid, hKv.out, List.map_append, ← hY.out]; rfl
                have hZ1 : Hid (LZ ++ [v.z] = (cornK vs fs k (j + 1)).map V3.z) := by rw [Hid, hKv.out, List.map_append, ← hZ.out]; rfl
                go_wp2_with fail
                go_roundw
                case rel => exact ⟨j + 1, by omega, by go_num, ⟨_, _, LX ++ [v.x], _, _, LY ++ [v.y], _, _, LZ ++ [v.z], by first | rfl | simp, by first | rfl | simp, by first | rfl | simp, hX1, hY1, hZ1, by simp; omega, by simp; omega, by simp; omega, oX, oY, oZ, dXY, dXZ, dYZ, dXl, dYl, dZl⟩, y0, y1, y2, hcur⟩
                case measure => simp [intOf]; omega
            · refine tree_alt ?_ ?_
              · refine tree_e rfl rfl (fun K hK => ?_)
                go_wp2_with fail
                try go_simp
                refine hK _ _ (hbV.pure (gr_alloc (World.grownBy.refl _ _) _)) ?_
                clear hK K
                obtain ⟨w8, hw8⟩ : ∃ x, x = (w3).alloc (.cells #[.int .i64 (v.y)] 3) := ⟨_, rfl⟩
                have hgl8 : (w3).grownBy w8 none := by rw [hw8]; exact gr_alloc (World.grownBy.refl _ _) _
                have l8 : Sl w8 0 (some ⟨(w3).heap.size, 0, none⟩) [v.y] := by rw [hw8]; exact sl_int1 _ 3 (v.y) _ rfl
                rw [← hw8]
                clear hw8
                have hq8 := hs0
                obtain ⟨p8, hp8⟩ : ∃ x, x = (w3).heap.size := ⟨_, rfl⟩
                rw [← hp8] at l8 hq8 ⊢
                replace l3 := l3.pure hgl8
                replace oX := oX.pure hgl8
                replace oY := oY.pure hgl8
                replace oZ := oZ.pure hgl8
                replace hbV := hbV.pure hgl8
                replace y0 := hgl8.k y0
                replace y1 := hgl8.k y1
                replace y2 := hgl8.k y2
                replace hcur := gr_trans hcur hgl8
                replace hs0 := Nat.le_trans hs0 hgl8.size
                clear hp8 hgl8
                refine tree_alt ?_ ?_
                · refine tree_e rfl rfl (fun K hK => ?_)
                  refine wp_pushAt (α := Int) _ (.tmp 36) (.tmp 39) _ rfl lo 3 i0 _ 8 Tryz.underlying22 hi0 hzz hi1 hi2 rfl _ _ _ LX rfl rfl oX 0 ⟨p3, 0, none⟩ _ _ [v.x] rfl rfl l3 ?_ ?_ ?_ ?_
                  · simp; omega
                  · simp [maxLen]; omega
                  · exact Nat.le_trans hlo1 hcur.size
                  intro AX4 cX4 w4 oX4 hG4
                  try go_simp
                  refine hK _ _ (hbV.gr hG4.1 (hbV.ne_own oX (by decide))) ?_
                  clear hK K
                  have oY0 := oY
                  have oZ0 := oZ
                  replace hbV := hbV.gr hG4.1 (hbV.ne_own oX (by decide))
                  replace l8 := l8.ne hG4.1 (fun g h1 h2 => by have h3 := bX g h2; have h4 : p8 = g := (by simpa [blk] using h1); omega)
                  replace y0 := gr_cell hG4.1 y0 (fun h2 => dXl _ h2 rfl)
                  replace y1 := gr_cell hG4.1 y1 (fun h2 => dXl _ h2 rfl)
                  replace y2 := gr_cell hG4.1 y2 (fun h2 => dXl _ h2 rfl)
                  have hcur' := gr_row hcur hG4.1 (fun g h2 => Nat.le_trans hWlo (oX.blk_lt h2).1)
                  replace oY := oY.ne hG4.1 (fun g h1 h2 => dXY g h2 h1)
                  replace oZ := oZ.ne hG4.1 (fun g h1 h2 => dXZ g h2 h1)
                  replace dXY := dXY.grew hG4 (fun g h => (oY0.blk_lt h).2)
                  replace dXZ := dXZ.grew hG4 (fun g h => (oZ0.blk_lt h).2)
                  replace dXl := dXl.grew hG4 (fun g h => by have h4 : xl = g := by simpa [blk] using h
                                                             omega)
                  replace oX := oX4
                  replace hcur := hcur'
                  replace hs0 := Nat.le_trans hs0 hG4.1.size
                  clear hcur' hG4 oX4 l3 oY0 oZ0
                  refine tree_alt ?_ ?_
                  · refine tree_e rfl rfl (fun K hK => ?_)
                    refine wp_pushAt (α := Int) _ (.tmp 41) (.tmp 44) _ rfl lo 3 i0 _ 8 Tryz.underlying22 hi0 hzz hi1 hi2 rfl _ _ _ LY rfl rfl oY 0 ⟨p8, 0, none⟩ _ _ [v.y] rfl rfl l8 ?_ ?_ ?_ ?_
                    · simp; omega
                    · simp [maxLen]; omega
                    · exact Nat.le_trans hlo1 hcur.size
                    intro AY9 cY9 w9 oY9 hG9
                    try go_simp
                    refine hK _ _ (hbV.gr hG9.1 (hbV.ne_own oY (by decide))) ?_
                    clear hK K
                    have oX0 := oX
                    have oZ0 := oZ
                    replace hbV := hbV.gr hG9.1 (hbV.ne_own oY (by decide))
                    replace y0 := gr_cell hG9.1 y0 (fun h2 => dYl _ h2 rfl)
                    replace y1 := gr_cell hG9.1 y1 (fun h2 => dYl _ h2 rfl)
                    replace y2 := gr_cell hG9.1 y2 (fun h2 => dYl _ h2 rfl)
                    have hcur' := gr_row hcur hG9.1 (fun g h2 => Nat.le_trans hWlo (oY.blk_lt h2).1)
                    replace oX := oX.ne hG9.1 (fun g h1 h2 => dXY g h1 h2)
                    replace oZ := oZ.ne hG9.1 (fun g h1 h2 => dYZ g h2 h1)
                    replace dXY := (dXY.symm.grew hG9 (fun g h => (oX0.blk_lt h).2)).symm
                    replace dYZ := dYZ.grew hG9 (fun g h => (oZ0.blk_lt h).2)
                    replace dYl := dYl.grew hG9 (fun g h => by have h4 : xl = g := by simpa [blk] using h
                                                               omega)
                    replace oY := oY9
                    replace hcur := hcur'
                    replace hs0 := Nat.le_trans hs0 hG9.1.size
                    clear hcur' hG9 oY9 l8 oX0 oZ0
                    refine tree_e rfl rfl (fun K hK => ?_)
                    go_wp2_with fail
                    try go_simp
                    refine hK _ _ (hbV.pure (gr_alloc (World.grownBy.refl _ _) _)) ?_
                    clear hK K
                    obtain ⟨w13, hw13⟩ : ∃ x, x = (w9).alloc (.cells #[.int .i64 (v.z)] 3) := ⟨_, rfl⟩
                    have hgl13 : (w9).grownBy w13 none := by rw [hw13]; exact gr_alloc (World.grownBy.refl _ _) _
                    have l13 : Sl w13 0 (some ⟨(w9).heap.size, 0, none⟩) [v.z] := by rw [hw13]; exact sl_int1 _ 3 (v.z) _ rfl
                    rw [← hw13]
                    clear hw13
                    have hq13 := hs0
                    obtain ⟨p13, hp13⟩ : ∃ x, x = (w9).heap.size := ⟨_, rfl⟩
                    rw [← hp13] at l13 hq13 ⊢
                    replace oX := oX.pure hgl13
                    replace oY := oY.pure hgl13
                    replace oZ := oZ.pure hgl13
                    replace hbV := hbV.pure hgl13
                    replace y0 := hgl13.k y0
                    replace y1 := hgl13.k y1
                    replace y2 := hgl13.k y2
                    replace hcur := gr_trans hcur hgl13
                    replace hs0 := Nat.le_trans hs0 hgl13.size
                    clear hp13 hgl13
                    refine tree_e0 (by kernel_rfl) rfl rfl (fun K hK => ?_)
                    refine wp_pushAt (α := Int) _ (.tmp 46) (.tmp 49) _ rfl lo 3 i0 _ 8 Tryz.underlying22 hi0 hzz hi1 hi2 rfl _ _ _ LZ rfl rfl oZ 0 ⟨p13, 0, none⟩ _ _ [v.z] rfl rfl l13 ?_ ?_ ?_ ?_
                    · simp; omega
                    · simp [maxLen]; omega
                    · exact Nat.le_trans hlo1 hcur.size
                    intro AZ14 cZ14 w14 oZ14 hG14
                    try go_simp
                    refine hK _ _ trivial ?_
                    clear hK K
                    have oX0 := oX
                    have oY0 := oY
                    replace hbV := hbV.gr hG14.1 (hbV.ne_own oZ (by decide))
                    replace y0 := gr_cell hG14.1 y0 (fun h2 => dZl _ h2 rfl)
                    replace y1 := gr_cell hG14.1 y1 (fun h2 => dZl _ h2 rfl)
                    replace y2 := gr_cell hG14.1 y2 (fun h2 => dZl _ h2 rfl)
                    have hcur' := gr_row hcur hG14.1 (fun g h2 => Nat.le_trans hWlo (oZ.blk_lt h2).1)
                    replace oX := oX.ne hG14.1 (fun g h1 h2 => dXZ g h1 h2)
                    replace oY := oY.ne hG14.1 (fun g h1 h2 => dYZ g h1 h2)
                    replace dXZ := (dXZ.symm.grew hG14 (fun g h => (oX0.blk_lt h).2)).symm
                    replace dYZ := (dYZ.symm.grew hG14 (fun g h => (oY0.blk_lt h).2)).symm
                    replace dZl := dZl.grew hG14 (fun g h => by have h4 : xl = g := by simpa [blk] using h
                                                                omega)
                    replace oZ := oZ14
                    replace hcur := hcur'
                    replace hs0 := Nat.le_trans hs0 hG14.1.size
                    clear hcur' hG14 oZ14 l13 oX0 oY0
                    refine tree_p rfl rfl rfl rfl _ rfl (by simp) (fun K hK => ?_)
                    apply Exists.intro
                    refine ⟨fun wq K' hK' => ?_, ?_⟩
                    · go_wp2_with fail
                      exact hK'
                    go_simp
                    refine hK _ ?_
                    clear hK K
                    refine tree_p rfl rfl rfl rfl _ rfl (by simp) (fun K hK => ?_)
                    apply Exists.intro
                    refine ⟨fun wq K' hK' => ?_, ?_⟩
                    · go_wp2_with fail
                      exact hK'
                    go_simp
                    refine hK _ ?_
                    clear hK K
                    refine tree_p rfl rfl rfl rfl _ rfl (by simp) (fun K hK => ?_)
                    apply Exists.intro
                    refine ⟨fun wq K' hK' => ?_, ?_⟩
                    · go_wp2_with fail
                      exact hK'
                    go_simp
                    refine hK _ ?_
                    clear hK K
                    refine tree_done ?_
                    have hX1 : Hid (LX ++ [v.x] = (cornK vs fs k (j + 1)).map V3.x) := by rw [Hid, hKv.out, List.map_append, ← hX.out]; rfl
                    have hY1 : Hid (LY ++ [v.y] = (cornK vs fs k (j + 1)).map V3.y) := by rw [Hid, hKv.out, List.map_append, ← hY.out]; rfl
                    have hZ1 : Hid (LZ ++ [v.z] = (cornK vs fs k (j + 1)).map V3.z) := by rw [Hid, hKv.out, List.map_append, ← hZ.out]; rfl
                    go_wp2_with fail
                    go_roundw
                    case rel => exact ⟨j + 1, by omega, by go_num, ⟨_, _, LX ++ [v.x], _, _, LY ++ [v.y], _, _, LZ ++ [v.z], by first | rfl | simp, by first | rfl | simp, by first | rfl | simp, hX1, hY1, hZ1, by simp; omega, by simp; omega, by simp; omega, oX, oY, oZ, dXY, dXZ, dYZ, dXl, dYl, dZl⟩, y0, y1, y2, hcur⟩
                    case measure => simp [intOf]; omega
                  · refine tree_e rfl rfl (fun K hK => ?_)
                    go_wp2_with fail
                    try go_simp
                    refine hK _ _ (hbV.pure (gr_alloc (World.grownBy.refl _ _) _)) ?_
                    clear hK K
                    obtain ⟨w13, hw13⟩ : ∃ x, x = (w4).alloc (.cells #[.int .i64 (v.z)] 3) := ⟨_, rfl⟩
                    have hgl13 : (w4).grownBy w13 none := by rw [hw13]; exact gr_alloc (World.grownBy.refl _ _) _
                    have l13 : Sl w13 0 (some ⟨(w4).heap.size, 0, none⟩) [v.z] := by rw [hw13]; exact sl_int1 _ 3 (v.z) _ rfl
                    rw [← hw13]
                    clear hw13
                    have hq13 := hs0
                    obtain ⟨p13, hp13⟩ : ∃ x, x = (w4).heap.size := ⟨_, rfl⟩
                    rw [← hp13] at l13 hq13 ⊢
                    replace l8 := l8.pure hgl13
                    replace oX := oX.pure hgl13
                    replace oY := oY.pure hgl13
                    replace oZ := oZ.pure hgl13
                    replace hbV := hbV.pure hgl13
                    replace y0 := hgl13.k y0
                    replace y1 := hgl13.k y1
                    replace y2 := hgl13.k y2
                    replace hcur := gr_trans hcur hgl13
                    replace hs0 := Nat.le_trans hs0 hgl13.size
                    clear hp13 hgl13
                    refine tree_e rfl rfl (fun K hK => ?_)
                    refine wp_pushAt (α := Int) _ (.tmp 41) (.tmp 44) _ rfl lo 3 i0 _ 8 Tryz.underlying22 hi0 hzz hi1 hi2 rfl _ _ _ LY rfl rfl oY 0 ⟨p8, 0, none⟩ _ _ [v.y] rfl rfl l8 ?_ ?_ ?_ ?_
                    · simp; omega
                    · simp [maxLen]; omega
                    · exact Nat.le_trans hlo1 hcur.size
                    intro AY9 cY9 w9 oY9 hG9
                    try go_simp
                    refine hK _ _ (hbV.gr hG9.1 (hbV.ne_own oY (by decide))) ?_
                    clear hK K
                    have oX0 := oX
                    have oZ0 := oZ
                    replace hbV := hbV.gr hG9.1 (hbV.ne_own oY (by decide))
                    replace l13 := l13.ne hG9.1 (fun g h1 h2 => by have h3 := bY g h2; have h4 : p13 = g := (by simpa [blk] using h1); omega)
                    replace y0 := gr_cell hG9.1 y0 (fun h2 => dYl _ h2 rfl)
                    replace y1 := gr_cell hG9.1 y1 (fun h2 => dYl _ h2 rfl)
                    replace y2 := gr_cell hG9.1 y2 (fun h2 => dYl _ h2 rfl)
                    have hcur' := gr_row hcur hG9.1 (fun g h2 => Nat.le_trans hWlo (oY.blk_lt h2).1)
                    replace oX := oX.ne hG9.1 (fun g h1 h2 => dXY g h1 h2)
                    replace oZ := oZ.ne hG9.1 (fun g h1 h2 => dYZ g h2 h1)
                    replace dXY := (dXY.symm.grew hG9 (fun g h => (oX0.blk_lt h).2)).symm
                    replace dYZ := dYZ.grew hG9 (fun g h => (oZ0.blk_lt h).2)
                    replace dYl := dYl.grew hG9 (fun g h => by have h4 : xl = g := by simpa [blk] using h
                                                               omega)
                    replace oY := oY9
                    replace hcur := hcur'
                    replace hs0 := Nat.le_trans hs0 hG9.1.size
                    clear hcur' hG9 oY9 l8 oX0 oZ0
                    refine tree_e0 (by kernel_rfl) rfl rfl (fun K hK => ?_)
                    refine wp_pushAt (α := Int) _ (.tmp 46) (.tmp 49) _ rfl lo 3 i0 _ 8 Tryz.underlying22 hi0 hzz hi1 hi2 rfl _ _ _ LZ rfl rfl oZ 0 ⟨p13, 0, none⟩ _ _ [v.z] rfl rfl l13 ?_ ?_ ?_ ?_
                    · simp; omega
                    · simp [maxLen]; omega
                    · exact Nat.le_trans hlo1 hcur.size
                    intro AZ14 cZ14 w14 oZ14 hG14
                    try go_simp
                    refine hK _ _ trivial ?_
                    clear hK K
                    have oX0 := oX
                    have oY0 := oY
                    replace hbV := hbV.gr hG14.1 (hbV.ne_own oZ (by decide))
                    replace y0 := gr_cell hG14.1 y0 (fun h2 => dZl _ h2 rfl)
                    replace y1 := gr_cell hG14.1 y1 (fun h2 => dZl _ h2 rfl)
                    replace y2 := gr_cell hG14.1 y2 (fun h2 => dZl _ h2 rfl)
                    have hcur' := gr_row hcur hG14.1 (fun g h2 => Nat.le_trans hWlo (oZ.blk_lt h2).1)
                    replace oX := oX.ne hG14.1 (fun g h1 h2 => dXZ g h1 h2)
                    replace oY := oY.ne hG14.1 (fun g h1 h2 => dYZ g h1 h2)
                    replace dXZ := (dXZ.symm.grew hG14 (fun g h => (oX0.blk_lt h).2)).symm
                    replace dYZ := (dYZ.symm.grew hG14 (fun g h => (oY0.blk_lt h).2)).symm
                    replace dZl := dZl.grew hG14 (fun g h => by have h4 : xl = g := by simpa [blk] using h
                                                                omega)
                    replace oZ := oZ14
                    replace hcur := hcur'
                    replace hs0 := Nat.le_trans hs0 hG14.1.size
                    clear hcur' hG14 oZ14 l13 oX0 oY0
                    refine tree_p rfl rfl rfl rfl _ rfl (by simp) (fun K hK => ?_)
                    apply Exists.intro
                    refine ⟨fun wq K' hK' => ?_, ?_⟩
                    · go_wp2_with fail
                      exact hK'
                    go_simp
                    refine hK _ ?_
                    clear hK K
                    refine tree_p rfl rfl rfl rfl _ rfl (by simp) (fun K hK => ?_)
                    apply Exists.intro
                    refine ⟨fun wq K' hK' => ?_, ?_⟩
                    · go_wp2_with fail
                      exact hK'
                    go_simp
                    refine hK _ ?_
                    clear hK K
                    refine tree_p rfl rfl rfl rfl _ rfl (by simp) (fun K hK => ?_)
                    apply Exists.intro
                    refine ⟨fun wq K' hK' => ?_, ?_⟩
                    · go_wp2_with fail
                      exact hK'
                    go_simp
                    refine hK _ ?_
                    clear hK K
                    refine tree_done ?_
                    have hX1 : Hid (LX ++ [v.x] = (cornK vs fs k (j + 1)).map V3.x) := by rw [Hid, hKv.out, List.map_append, ← hX.out]; rfl
                    have hY1 : Hid (LY ++ [v.y] = (cornK vs fs k (j + 1)).map V3.y) := by rw [Hid, hKv.out, List.map_append, ← hY.out]; rfl
                    have hZ1 : Hid (LZ ++ [v.z] = (cornK vs fs k (j + 1)).map V3.z) := by rw [Hid, hKv.out, List.map_append, ← hZ.out]; rfl
                    go_wp2_with fail
                    go_roundw
                    case rel => exact ⟨j + 1, by omega, by go_num, ⟨_, _, LX ++ [v.x], _, _, LY ++ [v.y], _, _, LZ ++ [v.z], by first | rfl | simp, by first | rfl | simp, by first | rfl | simp, hX1, hY1, hZ1, by simp; omega, by simp; omega, by simp; omega, oX, oY, oZ, dXY, dXZ, dYZ, dXl, dYl, dZl⟩, y0, y1, y2, hcur⟩
                    case measure => simp [intOf]; omega
                · refine tree_e rfl rfl (fun K hK => ?_)
                  go_wp2_with fail
                  try go_simp
                  refine hK _ _ (hbV.pure (gr_alloc (World.grownBy.refl _ _) _)) ?_
                  clear hK K
                  obtain ⟨w13, hw13⟩ : ∃ x, x = (w8).alloc (.cells #[.int .i64 (v.z)] 3) := ⟨_, rfl⟩
                  have hgl13 : (w8).grownBy w13 none := by rw [hw13]; exact gr_alloc (World.grownBy.refl _ _) _
                  have l13 : Sl w13 0 (some ⟨(w8).heap.size, 0, none⟩) [v.z] := by rw [hw13]; exact sl_int1 _ 3 (v.z) _ rfl
                  rw [← hw13]
                  clear hw13
                  have hq13 := hs0
                  obtain ⟨p13, hp13⟩ : ∃ x, x = (w8).heap.size := ⟨_, rfl⟩
                  rw [← hp13] at l13 hq13 ⊢
                  replace l3 := l3.pure hgl13
                  replace l8 := l8.pure hgl13
                  replace oX := oX.pure hgl13
                  replace oY := oY.pure hgl13
                  replace oZ := oZ.pure hgl13
                  replace hbV := hbV.pure hgl13
                  replace y0 := hgl13.k y0
                  replace y1 := hgl13.k y1
                  replace y2 := hgl13.k y2
                  replace hcur := gr_trans hcur hgl13
                  replace hs0 := Nat.le_trans hs0 hgl13.size
                  clear hp13 hgl13
                  refine tree_e rfl rfl (fun K hK => ?_)
                  refine wp_pushAt (α := Int) _ (.tmp 36) (.tmp 39) _ rfl lo 3 i0 _ 8 Tryz.underlying22 hi0 hzz hi1 hi2 rfl _ _ _ LX rfl rfl oX 0 ⟨p3, 0, none⟩ _ _ [v.x] rfl rfl l3 ?_ ?_ ?_ ?_
                  · simp; omega
                  · simp [maxLen]; omega
                  · exact Nat.le_trans hlo1 hcur.size
                  intro AX4 cX4 w4 oX4 hG4
                  try go_simp
                  refine hK _ _ (hbV.gr hG4.1 (hbV.ne_own oX (by decide))) ?_
                  clear hK K
                  have oY0 := oY
                  have oZ0 := oZ
                  replace hbV := hbV.gr hG4.1 (hbV.ne_own oX (by decide))
                  replace l8 := l8.ne hG4.1 (fun g h1 h2 => by have h3 := bX g h2; have h4 : p8 = g := (by simpa [blk] using h1); omega)
                  replace l13 := l13.ne hG4.1 (fun g h1 h2 => by have h3 := bX g h2; have h4 : p13 = g := (by simpa [blk] using h1); omega)
                  replace y0 := gr_cell hG4.1 y0 (fun h2 => dXl _ h2 rfl)
                  replace y1 := gr_cell hG4.1 y1 (fun h2 => dXl _ h2 rfl)
                  replace y2 := gr_cell hG4.1 y2 (fun h2 => dXl _ h2 rfl)
                  have hcur' := gr_row hcur hG4.1 (fun g h2 => Nat.le_trans hWlo (oX.blk_lt h2).1)
                  replace oY := oY.ne hG4.1 (fun g h1 h2 => dXY g h2 h1)
                  replace oZ := oZ.ne hG4.1 (fun g h1 h2 => dXZ g h2 h1)
                  replace dXY := dXY.grew hG4 (fun g h => (oY0.blk_lt h).2)
                  replace dXZ := dXZ.grew hG4 (fun g h => (oZ0.blk_lt h).2)
                  replace dXl := dXl.grew hG4 (fun g h => by have h4 : xl = g := by simpa [blk] using h
                                                             omega)
                  replace oX := oX4
                  replace hcur := hcur'
                  replace hs0 := Nat.le_trans hs0 hG4.1.size
                  clear hcur' hG4 oX4 l3 oY0 oZ0
                  refine tree_e rfl rfl (fun K hK => ?_)
                  refine wp_pushAt (α := Int) _ (.tmp 41) (.tmp 44) _ rfl lo 3 i0 _ 8 Tryz.underlying22 hi0 hzz hi1 hi2 rfl _ _ _ LY rfl rfl oY 0 ⟨p8, 0, none⟩ _ _ [v.y] rfl rfl l8 ?_ ?_ ?_ ?_
                  · simp; omega
                  · simp [maxLen]; omega
                  · exact Nat.le_trans hlo1 hcur.size
                  intro AY9 cY9 w9 oY9 hG9
                  try go_simp
                  refine hK _ _ (hbV.gr hG9.1 (hbV.ne_own oY (by decide))) ?_
                  clear hK K
                  have oX0 := oX
                  have oZ0 := oZ
                  replace hbV := hbV.gr hG9.1 (hbV.ne_own oY (by decide))
                  replace l13 := l13.ne hG9.1 (fun g h1 h2 => by have h3 := bY g h2; have h4 : p13 = g := (by simpa [blk] using h1); omega)
                  replace y0 := gr_cell hG9.1 y0 (fun h2 => dYl _ h2 rfl)
                  replace y1 := gr_cell hG9.1 y1 (fun h2 => dYl _ h2 rfl)
                  replace y2 := gr_cell hG9.1 y2 (fun h2 => dYl _ h2 rfl)
                  have hcur' := gr_row hcur hG9.1 (fun g h2 => Nat.le_trans hWlo (oY.blk_lt h2).1)
                  replace oX := oX.ne hG9.1 (fun g h1 h2 => dXY g h1 h2)
                  replace oZ := oZ.ne hG9.1 (fun g h1 h2 => dYZ g h2 h1)
                  replace dXY := (dXY.symm.grew hG9 (fun g h => (oX0.blk_lt h).2)).symm
                  replace dYZ := dYZ.grew hG9 (fun g h => (oZ0.blk_lt h).2)
                  replace dYl := dYl.grew hG9 (fun g h => by have h4 : xl = g := by simpa [blk] using h
                                                             omega)
                  replace oY := oY9
                  replace hcur := hcur'
                  replace hs0 := Nat.le_trans hs0 hG9.1.size
                  clear hcur' hG9 oY9 l8 oX0 oZ0
                  refine tree_e0 (by kernel_rfl) rfl rfl (fun K hK => ?_)
                  refine wp_pushAt (α := Int) _ (.tmp 46) (.tmp 49) _ rfl lo 3 i0 _ 8 Tryz.underlying22 hi0 hzz hi1 hi2 rfl _ _ _ LZ rfl rfl oZ 0 ⟨p13, 0, none⟩ _ _ [v.z] rfl rfl l13 ?_ ?_ ?_ ?_
                  · simp; omega
                  · simp [maxLen]; omega
                  · exact Nat.le_trans hlo1 hcur.size
                  intro AZ14 cZ14 w14 oZ14 hG14
                  try go_simp
                  refine hK _ _ trivial ?_
                  clear hK K
                  have oX0 := oX
                  have oY0 := oY
                  replace hbV := hbV.gr hG14.1 (hbV.ne_own oZ (by decide))
                  replace y0 := gr_cell hG14.1 y0 (fun h2 => dZl _ h2 rfl)
                  replace y1 := gr_cell hG14.1 y1 (fun h2 => dZl _ h2 rfl)
                  replace y2 := gr_cell hG14.1 y2 (fun h2 => dZl _ h2 rfl)
                  have hcur' := gr_row hcur hG14.1 (fun g h2 => Nat.le_trans hWlo (oZ.blk_lt h2).1)
                  replace oX := oX.ne hG14.1 (fun g h1 h2 => dXZ g h1 h2)
                  replace oY := oY.ne hG14.1 (fun g h1 h2 => dYZ g h1 h2)
                  replace dXZ := (dXZ.symm.grew hG14 (fun g h => (oX0.blk_lt h).2)).symm
                  replace dYZ := (dYZ.symm.grew hG14 (fun g h => (oY0.blk_lt h).2)).symm
                  replace dZl := dZl.grew hG14 (fun g h => by have h4 : xl = g := by simpa [blk] using h
                                                              omega)
                  replace oZ := oZ14
                  replace hcur := hcur'
                  replace hs0 := Nat.le_trans hs0 hG14.1.size
                  clear hcur' hG14 oZ14 l13 oX0 oY0
                  refine tree_p rfl rfl rfl rfl _ rfl (by simp) (fun K hK => ?_)
                  apply Exists.intro
                  refine ⟨fun wq K' hK' => ?_, ?_⟩
                  · go_wp2_with fail
                    exact hK'
                  go_simp
                  refine hK _ ?_
                  clear hK K
                  refine tree_p rfl rfl rfl rfl _ rfl (by simp) (fun K hK => ?_)
                  apply Exists.intro
                  refine ⟨fun wq K' hK' => ?_, ?_⟩
                  · go_wp2_with fail
                    exact hK'
                  go_simp
                  refine hK _ ?_
                  clear hK K
                  refine tree_p rfl rfl rfl rfl _ rfl (by simp) (fun K hK => ?_)
                  apply Exists.intro
                  refine ⟨fun wq K' hK' => ?_, ?_⟩
                  · go_wp2_with fail
                    exact hK'
                  go_simp
                  refine hK _ ?_
                  clear hK K
                  refine tree_done ?_
                  have hX1 : Hid (LX ++ [v.x] = (cornK vs fs k (j + 1)).map V3.x) := by rw [Hid, hKv.out, List.map_append, ← hX.out]; rfl
                  have hY1 : Hid (LY ++ [v.y] = (cornK vs fs k (j + 1)).map V3.y) := by rw [Hid, hKv.out, List.map_append, ← hY.out]; rfl
                  have hZ1 : Hid (LZ ++ [v.z] = (cornK vs fs k (j + 1)).map V3.z) := by rw [Hid, hKv.out, List.map_append, ← hZ.out]; rfl
                  go_wp2_with fail
                  go_roundw
                  case rel => exact ⟨j + 1, by omega, by go_num, ⟨_, _, LX ++ [v.x], _, _, LY ++ [v.y], _, _, LZ ++ [v.z], by first | rfl | simp, by first | rfl | simp, by first | rfl | simp, hX1, hY1, hZ1, by simp; omega, by simp; omega, by simp; omega, oX, oY, oZ, dXY, dXZ, dYZ, dXl, dYl, dZl⟩, y0, y1, y2, hcur⟩
                  case measure => simp [intOf]; omega
              · refine tree_e rfl rfl (fun K hK => ?_)
                go_wp2_with fail
                try go_simp
                refine hK _ _ (hbV.pure (gr_alloc (World.grownBy.refl _ _) _)) ?_
                clear hK K
                obtain ⟨w13, hw13⟩ : ∃ x, x = (w3).alloc (.cells #[.int .i64 (v.z)] 3) := ⟨_, rfl⟩
                have hgl13 : (w3).grownBy w13 none := by rw [hw13]; exact gr_alloc (World.grownBy.refl _ _) _
                have l13 : Sl w13 0 (some ⟨(w3).heap.size, 0, none⟩) [v.z] := by rw [hw13]; exact sl_int1 _ 3 (v.z) _ rfl
                rw [← hw13]
                clear hw13
                have hq13 := hs0
                obtain ⟨p13, hp13⟩ : ∃ x, x = (w3).heap.size := ⟨_, rfl⟩
                rw [← hp13] at l13 hq13 ⊢
                replace l3 := l3.pure hgl13
                replace oX := oX.pure hgl13
                replace oY := oY.pure hgl13
                replace oZ := oZ.pure hgl13
                replace hbV := hbV.pure hgl13
                replace y0 := hgl13.k y0
                replace y1 := hgl13.k y1
                replace y2 := hgl13.k y2
                replace hcur := gr_trans hcur hgl13
                replace hs0 := Nat.le_trans hs0 hgl13.size
                clear hp13 hgl13
                refine tree_alt ?_ ?_
                · refine tree_e rfl rfl (fun K hK => ?_)
                  refine wp_pushAt (α := Int) _ (.tmp 36) (.tmp 39) _ rfl lo 3 i0 _ 8 Tryz.underlying22 hi0 hzz hi1 hi2 rfl _ _ _ LX rfl rfl oX 0 ⟨p3, 0, none⟩ _ _ [v.x] rfl rfl l3 ?_ ?_ ?_ ?_
                  · simp; omega
                  · simp [maxLen]; omega
                  · exact Nat.le_trans hlo1 hcur.size
                  intro AX4 cX4 w4 oX4 hG4
                  try go_simp
                  refine hK _ _ (hbV.gr hG4.1 (hbV.ne_own oX (by decide))) ?_
                  clear hK K
                  have oY0 := oY
                  have oZ0 := oZ
                  replace hbV := hbV.gr hG4.1 (hbV.ne_own oX (by decide))
                  replace l13 := l13.ne hG4.1 (fun g h1 h2 => by have h3 := bX g h2; have h4 : p13 = g := (by simpa [blk] using h1); omega)
                  replace y0 := gr_cell hG4.1 y0 (fun h2 => dXl _ h2 rfl)
                  replace y1 := gr_cell hG4.1 y1 (fun h2 => dXl _ h2 rfl)
                  replace y2 := gr_cell hG4.1 y2 (fun h2 => dXl _ h2 rfl)
                  have hcur' := gr_row hcur hG4.1 (fun g h2 => Nat.le_trans hWlo (oX.blk_lt h2).1)
                  replace oY := oY.ne hG4.1 (fun g h1 h2 => dXY g h2 h1)
                  replace oZ := oZ.ne hG4.1 (fun g h1 h2 => dXZ g h2 h1)
                  replace dXY := dXY.grew hG4 (fun g h => (oY0.blk_lt h).2)
                  replace dXZ := dXZ.grew hG4 (fun g h => (oZ0.blk_lt h).2)
                  replace dXl := dXl.grew hG4 (fun g h => by have h4 : xl = g := by simpa [blk] using h
                                                             omega)
                  replace oX := oX4
                  replace hcur := hcur'
                  replace hs0 := Nat.le_trans hs0 hG4.1.size
                  clear hcur' hG4 oX4 l3 oY0 oZ0
                  refine tree_e rfl rfl (fun K hK => ?_)
                  go_wp2_with fail
                  try go_simp
                  refine hK _ _ (hbV.pure (gr_alloc (World.grownBy.refl _ _) _)) ?_
                  clear hK K
                  obtain ⟨w8, hw8⟩ : ∃ x, x = (w4).alloc (.cells #[.int .i64 (v.y)] 3) := ⟨_, rfl⟩
                  have hgl8 : (w4).grownBy w8 none := by rw [hw8]; exact gr_alloc (World.grownBy.refl _ _) _
                  have l8 : Sl w8 0 (some ⟨(w4).heap.size, 0, none⟩) [v.y] := by rw [hw8]; exact sl_int1 _ 3 (v.y) _ rfl
                  rw [← hw8]
                  clear hw8
                  have hq8 := hs0
                  obtain ⟨p8, hp8⟩ : ∃ x, x = (w4).heap.size := ⟨_, rfl⟩
                  rw [← hp8] at l8 hq8 ⊢
                  replace l13 := l13.pure hgl8
                  replace oX := oX.pure hgl8
                  replace oY := oY.pure hgl8
                  replace oZ := oZ.pure hgl8
                  replace hbV := hbV.pure hgl8
                  replace y0 := hgl8.k y0
                  replace y1 := hgl8.k y1
                  replace y2 := hgl8.k y2
                  replace hcur := gr_trans hcur hgl8
                  replace hs0 := Nat.le_trans hs0 hgl8.size
                  clear hp8 hgl8
                  refine tree_e rfl rfl (fun K hK => ?_)
                  refine wp_pushAt (α := Int) _ (.tmp 41) (.tmp 44) _ rfl lo 3 i0 _ 8 Tryz.underlying22 hi0 hzz hi1 hi2 rfl _ _ _ LY rfl rfl oY 0 ⟨p8, 0, none⟩ _ _ [v.y] rfl rfl l8 ?_ ?_ ?_ ?_
                  · simp; omega
                  · simp [maxLen]; omega
                  · exact Nat.le_trans hlo1 hcur.size
                  intro AY9 cY9 w9 oY9 hG9
                  try go_simp
                  refine hK _ _ (hbV.gr hG9.1 (hbV.ne_own oY (by decide))) ?_
                  clear hK K
                  have oX0 := oX
                  have oZ0 := oZ
                  replace hbV := hbV.gr hG9.1 (hbV.ne_own oY (by decide))
                  replace l13 := l13.ne hG9.1 (fun g h1 h2 => by have h3 := bY g h2; have h4 : p13 = g := (by simpa [blk] using h1); omega)
                  replace y0 := gr_cell hG9.1 y0 (fun h2 => dYl _ h2 rfl)
                  replace y1 := gr_cell hG9.1 y1 (fun h2 => dYl _ h2 rfl)
                  replace y2 := gr_cell hG9.1 y2 (fun h2 => dYl _ h2 rfl)
                  have hcur' := gr_row hcur hG9.1 (fun g h2 => Nat.le_trans hWlo (oY.blk_lt h2).1)
                  replace oX := oX.ne hG9.1 (fun g h1 h2 => dXY g h1 h2)
                  replace oZ := oZ.ne hG9.1 (fun g h1 h2 => dYZ g h2 h1)
                  replace dXY := (dXY.symm.grew hG9 (fun g h => (oX0.blk_lt h).2)).symm
                  replace dYZ := dYZ.grew hG9 (fun g h => (oZ0.blk_lt h).2)
                  replace dYl := dYl.grew hG9 (fun g h => by have h4 : xl = g := by simpa [blk] using h
                                                             omega)
                  replace oY := oY9
                  replace hcur := hcur'
                  replace hs0 := Nat.le_trans hs0 hG9.1.size
                  clear hcur' hG9 oY9 l8 oX0 oZ0
                  refine tree_e0 (by kernel_rfl) rfl rfl (fun K hK => ?_)
                  refine wp_pushAt (α := Int) _ (.tmp 46) (.tmp 49) _ rfl lo 3 i0 _ 8 Tryz.underlying22 hi0 hzz hi1 hi2 rfl _ _ _ LZ rfl rfl oZ 0 ⟨p13, 0, none⟩ _ _ [v.z] rfl rfl l13 ?_ ?_ ?_ ?_
                  · simp; omega
                  · simp [maxLen]; omega
                  · exact Nat.le_trans hlo1 hcur.size
                  intro AZ14 cZ14 w14 oZ14 hG14
                  try go_simp
                  refine hK _ _ trivial ?_
                  clear hK K
                  have oX0 := oX
                  have oY0 := oY
                  replace hbV := hbV.gr hG14.1 (hbV.ne_own oZ (by decide))
                  replace y0 := gr_cell hG14.1 y0 (fun h2 => dZl _ h2 rfl)
                  replace y1 := gr_cell hG14.1 y1 (fun h2 => dZl _ h2 rfl)
                  replace y2 := gr_cell hG14.1 y2 (fun h2 => dZl _ h2 rfl)
                  have hcur' := gr_row hcur hG14.1 (fun g h2 => Nat.le_trans hWlo (oZ.blk_lt h2).1)
                  replace oX := oX.ne hG14.1 (fun g h1 h2 => dXZ g h1 h2)
                  replace oY := oY.ne hG14.1 (fun g h1 h2 => dYZ g h1 h2)
                  replace dXZ := (dXZ.symm.grew hG14 (fun g h => (oX0.blk_lt h).2)).symm
                  replace dYZ := (dYZ.symm.grew hG14 (fun g h => (oY0.blk_lt h).2)).symm
                  replace dZl := dZl.grew hG14 (fun g h => by have h4 : xl = g := by simpa [blk] using h
                                                              omega)
                  replace oZ := oZ14
                  replace hcur := hcur'
                  replace hs0 := Nat.le_trans hs0 hG14.1.size
                  clear hcur' hG14 oZ14 l13 oX0 oY0
                  refine tree_p rfl rfl rfl rfl _ rfl (by simp) (fun K hK => ?_)
                  apply Exists.intro
                  refine ⟨fun wq K' hK' => ?_, ?_⟩
                  · go_wp2_with fail
                    exact hK'
                  go_simp
                  refine hK _ ?_
                  clear hK K
                  refine tree_p rfl rfl rfl rfl _ rfl (by simp) (fun K hK => ?_)
                  apply Exists.intro
                  refine ⟨fun wq K' hK' => ?_, ?_⟩
                  · go_wp2_with fail
                    exact hK'
                  go_simp
                  refine hK _ ?_
                  clear hK K
                  refine tree_p rfl rfl rfl rfl _ rfl (by simp) (fun K hK => ?_)
                  apply Exists.intro
                  refine ⟨fun wq K' hK' => ?_, ?_⟩
                  · go_wp2_with fail
                    exact hK'
                  go_simp
                  refine hK _ ?_
                  clear hK K
                  refine tree_done ?_
                  have hX1 : Hid (LX ++ [v.x] = (cornK vs fs k (j + 1)).map V3.x) := by rw [Hid, hKv.out, List.map_append, ← hX.out]; rfl
                  have hY1 : Hid (LY ++ [v.y] = (cornK vs fs k (j + 1)).map V3.y) := by rw [Hid, hKv.out, List.map_append, ← hY.out]; rfl
                  have hZ1 : Hid (LZ ++ [v.z] = (cornK vs fs k (j + 1)).map V3.z) := by rw [Hid, hKv.out, List.map_append, ← hZ.out]; rfl
                  go_wp2_with fail
                  go_roundw
                  case rel => exact ⟨j + 1, by omega, by go_num, ⟨_, _, LX ++ [v.x], _, _, LY ++ [v.y], _, _, LZ ++ [v.z], by first | rfl | simp, by first | rfl | simp, by first | rfl | simp, hX1, hY1, hZ1, by simp; omega, by simp; omega, by simp; omega, oX, oY, oZ, dXY, dXZ, dYZ, dXl, dYl, dZl⟩, y0, y1, y2, hcur⟩
                  case measure => simp [intOf]; omega
                · refine tree_e rfl rfl (fun K hK => ?_)
                  go_wp2_with fail
                  try go_simp
                  refine hK _ _ (hbV.pure (gr_alloc (World.grownBy.refl _ _) _)) ?_
                  clear hK K
                  obtain ⟨w8, hw8⟩ : ∃ x, x = (w13).alloc (.cells #[.int .i64 (v.y)] 3) := ⟨_, rfl⟩
                  have hgl8 : (w13).grownBy w8 none := by rw [hw8]; exact gr_alloc (World.grownBy.refl _ _) _
                  have l8 : Sl w8 0 (some ⟨(w13).heap.size, 0, none⟩) [v.y] := by rw [hw8]; exact sl_int1 _ 3 (v.y) _ rfl
                  rw [← hw8]
                  clear hw8
                  have hq8 := hs0
                  obtain ⟨p8, hp8⟩ : ∃ x, x = (w13).heap.size := ⟨_, rfl⟩
                  rw [← hp8] at l8 hq8 ⊢
                  replace l3 := l3.pure hgl8
                  replace l13 := l13.pure hgl8
                  replace oX := oX.pure hgl8
                  replace oY := oY.pure hgl8
                  replace oZ := oZ.pure hgl8
                  replace hbV := hbV.pure hgl8
                  replace y0 := hgl8.k y0
                  replace y1 := hgl8.k y1
                  replace y2 := hgl8.k y2
                  replace hcur := gr_trans hcur hgl8
                  replace hs0 := Nat.le_trans hs0 hgl8.size
                  clear hp8 hgl8
                  refine tree_e rfl rfl (fun K hK => ?_)
                  refine wp_pushAt (α := Int) _ (.tmp 36) (.tmp 39) _ rfl lo 3 i0 _ 8 Tryz.underlying22 hi0 hzz hi1 hi2 rfl _ _ _ LX rfl rfl oX 0 ⟨p3, 0, none⟩ _ _ [v.x] rfl rfl l3 ?_ ?_ ?_ ?_
                  · simp; omega
                  · simp [maxLen]; omega
                  · exact Nat.le_trans hlo1 hcur.size
                  intro AX4 cX4 w4 oX4 hG4
                  try go_simp
                  refine hK _ _ (hbV.gr hG4.1 (hbV.ne_own oX (by decide))) ?_
                  clear hK K
                  have oY0 := oY
                  have oZ0 := oZ
                  replace hbV := hbV.gr hG4.1 (hbV.ne_own oX (by decide))
                  replace l8 := l8.ne hG4.1 (fun g h1 h2 => by have h3 := bX g h2; have h4 : p8 = g := (by simpa [blk] using h1); omega)
                  replace l13 := l13.ne hG4.1 (fun g h1 h2 => by have h3 := bX g h2; have h4 : p13 = g := (by simpa [blk] using h1); omega)
                  replace y0 := gr_cell hG4.1 y0 (fun h2 => dXl _ h2 rfl)
                  replace y1 := gr_cell hG4.1 y1 (fun h2 => dXl _ h2 rfl)
                  replace y2 := gr_cell hG4.1 y2 (fun h2 => dXl _ h2 rfl)
                  have hcur' := gr_row hcur hG4.1 (fun g h2 => Nat.le_trans hWlo (oX.blk_lt h2).1)
                  replace oY := oY.ne hG4.1 (fun g h1 h2 => dXY g h2 h1)
                  replace oZ := oZ.ne hG4.1 (fun g h1 h2 => dXZ g h2 h1)
                  replace dXY := dXY.grew hG4 (fun g h => (oY0.blk_lt h).2)
                  replace dXZ := dXZ.grew hG4 (fun g h => (oZ0.blk_lt h).2)
                  replace dXl := dXl.grew hG4 (fun g h => by have h4 : xl = g := by simpa [blk] using h
                                                             omega)
                  replace oX := oX4
                  replace hcur := hcur'
                  replace hs0 := Nat.le_trans hs0 hG4.1.size
                  clear hcur' hG4 oX4 l3 oY0 oZ0
                  refine tree_e rfl rfl (fun K hK => ?_)
                  refine wp_pushAt (α := Int) _ (.tmp 41) (.tmp 44) _ rfl lo 3 i0 _ 8 Tryz.underlying22 hi0 hzz hi1 hi2 rfl _ _ _ LY rfl rfl oY 0 ⟨p8, 0, none⟩ _ _ [v.y] rfl rfl l8 ?_ ?_ ?_ ?_
                  · simp; omega
                  · simp [maxLen]; omega
                  · exact Nat.le_trans hlo1 hcur.size
                  intro AY9 cY9 w9 oY9 hG9
                  try go_simp
                  refine hK _ _ (hbV.gr hG9.1 (hbV.ne_own oY (by decide))) ?_
                  clear hK K
                  have oX0 := oX
                  have oZ0 := oZ
                  replace hbV := hbV.gr hG9.1 (hbV.ne_own oY (by decide))
                  replace l13 := l13.ne hG9.1 (fun g h1 h2 => by have h3 := bY g h2; have h4 : p13 = g := (by simpa [blk] using h1); omega)
                  replace y0 := gr_cell hG9.1 y0 (fun h2 => dYl _ h2 rfl)
                  replace y1 := gr_cell hG9.1 y1 (fun h2 => dYl _ h2 rfl)
                  replace y2 := gr_cell hG9.1 y2 (fun h2 => dYl _ h2 rfl)
                  have hcur' := gr_row hcur hG9.1 (fun g h2 => Nat.le_trans hWlo (oY.blk_lt h2).1)
                  replace oX := oX.ne hG9.1 (fun g h1 h2 => dXY g h1 h2)
                  replace oZ := oZ.ne hG9.1 (fun g h1 h2 => dYZ g h2 h1)
                  replace dXY := (dXY.symm.grew hG9 (fun g h => (oX0.blk_lt h).2)).symm
                  replace dYZ := dYZ.grew hG9 (fun g h => (oZ0.blk_lt h).2)
                  replace dYl := dYl.grew hG9 (fun g h => by have h4 : xl = g := by simpa [blk] using h
                                                             omega)
                  replace oY := oY9
                  replace hcur := hcur'
                  replace hs0 := Nat.le_trans hs0 hG9.1.size
                  clear hcur' hG9 oY9 l8 oX0 oZ0
                  refine tree_e0 (by kernel_rfl) rfl rfl (fun K hK => ?_)
                  refine wp_pushAt (α := Int) _ (.tmp 46) (.tmp 49) _ rfl lo 3 i0 _ 8 Tryz.underlying22 hi0 hzz hi1 hi2 rfl _ _ _ LZ rfl rfl oZ 0 ⟨p13, 0, none⟩ _ _ [v.z] rfl rfl l13 ?_ ?_ ?_ ?_
                  · simp; omega
                  · simp [maxLen]; omega
                  · exact Nat.le_trans hlo1 hcur.size
                  intro AZ14 cZ14 w14 oZ14 hG14
                  try go_simp
                  refine hK _ _ trivial ?_
                  clear hK K
                  have oX0 := oX
                  have oY0 := oY
                  replace hbV := hbV.gr hG14.1 (hbV.ne_own oZ (by decide))
                  replace y0 := gr_cell hG14.1 y0 (fun h2 => dZl _ h2 rfl)
                  replace y1 := gr_cell hG14.1 y1 (fun h2 => dZl _ h2 rfl)
                  replace y2 := gr_cell hG14.1 y2 (fun h2 => dZl _ h2 rfl)
                  have hcur' := gr_row hcur hG14.1 (fun g h2 => Nat.le_trans hWlo (oZ.blk_lt h2).1)
                  replace oX := oX.ne hG14.1 (fun g h1 h2 => dXZ g h1 h2)
                  replace oY := oY.ne hG14.1 (fun g h1 h2 => dYZ g h1 h2)
                  replace dXZ := (dXZ.symm.grew hG14 (fun g h => (oX0.blk_lt h).2)).symm
                  replace dYZ := (dYZ.symm.grew hG14 (fun g h => (oY0.blk_lt h).2)).symm
                  replace dZl := dZl.grew hG14 (fun g h => by have h4 : xl = g := by simpa [blk] using h
                                                              omega)
                  replace oZ := oZ14
                  replace hcur := hcur'
                  replace hs0 := Nat.le_trans hs0 hG14.1.size
                  clear hcur' hG14 oZ14 l13 oX0 oY0
                  refine tree_p rfl rfl rfl rfl _ rfl (by simp) (fun K hK => ?_)
                  apply Exists.intro
                  refine ⟨fun wq K' hK' => ?_, ?_⟩
                  · go_wp2_with fail
                    exact hK'
                  go_simp
                  refine hK _ ?_
                  clear hK K
                  refine tree_p rfl rfl rfl rfl _ rfl (by simp) (fun K hK => ?_)
                  apply Exists.intro
                  refine ⟨fun wq K' hK' => ?_, ?_⟩
                  · go_wp2_with fail
                    exact hK'
                  go_simp
                  refine hK _ ?_
                  clear hK K
                  refine tree_p rfl rfl rfl rfl _ rfl (by simp) (fun K hK => ?_)
                  apply Exists.intro
                  refine ⟨fun wq K' hK' => ?_, ?_⟩
                  · go_wp2_with fail
                    exact hK'
                  go_simp
                  refine hK _ ?_
                  clear hK K
                  refine tree_done ?_
                  have hX1 : Hid (LX ++ [v.x] = (cornK vs fs k (j + 1)).map V3.x) := by rw [Hid, hKv.out, List.map_append, ← hX.out]; rfl
                  have hY1 : Hid (LY ++ [v.y] = (cornK vs fs k (j + 1)).map V3.y) := by rw [Hid, hKv.out, List.map_append, ← hY.out]; rfl
                  have hZ1 : Hid (LZ ++ [v.z] = (cornK vs fs k (j + 1)).map V3.z) := by rw [Hid, hKv.out, List.map_append, ← hZ.out]; rfl
                  go_wp2_with fail
                  go_roundw
                  case rel => exact ⟨j + 1, by omega, by go_num, ⟨_, _, LX ++ [v.x], _, _, LY ++ [v.y], _, _, LZ ++ [v.z], by first | rfl | simp, by first | rfl | simp, by first | rfl | simp, hX1, hY1, hZ1, by simp; omega, by simp; omega, by simp; omega, oX, oY, oZ, dXY, dXZ, dYZ, dXl, dYl, dZl⟩, y0, y1, y2, hcur⟩
                  case measure => simp [intOf]; omega
          · refine tree_alt ?_ ?_
            · refine tree_e rfl rfl (fun K hK => ?_)
              go_wp2_with fail
              try go_simp
              refine hK _ _ (hbV.pure (gr_alloc (World.grownBy.refl _ _) _)) ?_
              clear hK K
              obtain ⟨w8, hw8⟩ : ∃ x, x = (W1).alloc (.cells #[.int .i64 (v.y)] 3) := ⟨_, rfl⟩
              have hgl8 : (W1).grownBy w8 none := by rw [hw8]; exact gr_alloc (World.grownBy.refl _ _) _
              have l8 : Sl w8 0 (some ⟨(W1).heap.size, 0, none⟩) [v.y] := by rw [hw8]; exact sl_int1 _ 3 (v.y) _ rfl
              rw [← hw8]
              clear hw8
              have hq8 := hs0
              obtain ⟨p8, hp8⟩ : ∃ x, x = (W1).heap.size := ⟨_, rfl⟩
              rw [← hp8] at l8 hq8 ⊢
              replace oX := oX.pure hgl8
              replace oY := oY.pure hgl8
              replace oZ := oZ.pure hgl8
              replace hbV := hbV.pure hgl8
              replace y0 := hgl8.k y0
              replace y1 := hgl8.k y1
              replace y2 := hgl8.k y2
              replace hcur := gr_trans hcur hgl8
              replace hs0 := Nat.le_trans hs0 hgl8.size
              clear hp8 hgl8
              refine tree_alt ?_ ?_
              · refine tree_e rfl rfl (fun K hK => ?_)
                go_wp2_with fail
                try go_simp
                refine hK _ _ (hbV.pure (gr_alloc (World.grownBy.refl _ _) _)) ?_
                clear hK K
                obtain ⟨w3, hw3⟩ : ∃ x, x = (w8).alloc (.cells #[.int .i64 (v.x)] 3) := ⟨_, rfl⟩
                have hgl3 : (w8).grownBy w3 none := by rw [hw3]; exact gr_alloc (World.grownBy.refl _ _) _
                have l3 : Sl w3 0 (some ⟨(w8).heap.size, 0, none⟩) [v.x] := by rw [hw3]; exact sl_int1 _ 3 (v.x) _ rfl
                rw [← hw3]
                clear hw3
                have hq3 := hs0
                obtain ⟨p3, hp3⟩ : ∃ x, x = (w8).heap.size := ⟨_, rfl⟩
                rw [← hp3] at l3 hq3 ⊢
                replace l8 := l8.pure hgl3
                replace oX := oX.pure hgl3
                replace oY := oY.pure hgl3
                replace oZ := oZ.pure hgl3
                replace hbV := hbV.pure hgl3
                replace y0 := hgl3.k y0
                replace y1 := hgl3.k y1
                replace y2 := hgl3.k y2
                replace hcur := gr_trans hcur hgl3
                replace hs0 := Nat.le_trans hs0 hgl3.size
                clear hp3 hgl3
                refine tree_alt ?_ ?_
                · refine tree_e rfl rfl (fun K hK => ?_)
                  refine wp_pushAt (α := Int) _ (.tmp 36) (.tmp 39) _ rfl lo 3 i0 _ 8 Tryz.underlying22 hi0 hzz hi1 hi2 rfl _ _ _ LX rfl rfl oX 0 ⟨p3, 0, none⟩ _ _ [v.x] rfl rfl l3 ?_ ?_ ?_ ?_
                  · simp; omega
                  · simp [maxLen]; omega
                  · exact Nat.le_trans hlo1 hcur.size
                  intro AX4 cX4 w4 oX4 hG4
                  try go_simp
                  refine hK _ _ (hbV.gr hG4.1 (hbV.ne_own oX (by decide))) ?_
                  clear hK K
                  have oY0 := oY
                  have oZ0 := oZ
                  replace hbV := hbV.gr hG4.1 (hbV.ne_own oX (by decide))
                  replace l8 := l8.ne hG4.1 (fun g h1 h2 => by have h3 := bX g h2; have h4 : p8 = g := (by simpa [blk] using h1); omega)
                  replace y0 := gr_cell hG4.1 y0 (fun h2 => dXl _ h2 rfl)
                  replace y1 := gr_cell hG4.1 y1 (fun h2 => dXl _ h2 rfl)
                  replace y2 := gr_cell hG4.1 y2 (fun h2 => dXl _ h2 rfl)
                  have hcur' := gr_row hcur hG4.1 (fun g h2 => Nat.le_trans hWlo (oX.blk_lt h2).1)
                  replace oY := oY.ne hG4.1 (fun g h1 h2 => dXY g h2 h1)
                  replace oZ := oZ.ne hG4.1 (fun g h1 h2 => dXZ g h2 h1)
                  replace dXY := dXY.grew hG4 (fun g h => (oY0.blk_lt h).2)
                  replace dXZ := dXZ.grew hG4 (fun g h => (oZ0.blk_lt h).2)
                  replace dXl := dXl.grew hG4 (fun g h => by have h4 : xl = g := by simpa [blk] using h
                                                             omega)
                  replace oX := oX4
                  replace hcur := hcur'
                  replace hs0 := Nat.le_trans hs0 hG4.1.size
                  clear hcur' hG4 oX4 l3 oY0 oZ0
                  refine tree_alt ?_ ?_
                  · refine tree_e rfl rfl (fun K hK => ?_)
                    refine wp_pushAt (α := Int) _ (.tmp 41) (.tmp 44) _ rfl lo 3 i0 _ 8 Tryz.underlying22 hi0 hzz hi1 hi2 rfl _ _ _ LY rfl rfl oY 0 ⟨p8, 0, none⟩ _ _ [v.y] rfl rfl l8 ?_ ?_ ?_ ?_
                    · simp; omega
                    · simp [maxLen]; omega
                    · exact Nat.le_trans hlo1 hcur.size
                    intro AY9 cY9 w9 oY9 hG9
                    try go_simp
                    refine hK _ _ (hbV.gr hG9.1 (hbV.ne_own oY (by decide))) ?_
                    clear hK K
                    have oX0 := oX
                    have oZ0 := oZ
                    replace hbV := hbV.gr hG9.1 (hbV.ne_own oY (by decide))
                    replace y0 := gr_cell hG9.1 y0 (fun h2 => dYl _ h2 rfl)
                    replace y1 := gr_cell hG9.1 y1 (fun h2 => dYl _ h2 rfl)
                    replace y2 := gr_cell hG9.1 y2 (fun h2 => dYl _ h2 rfl)
                    have hcur' := gr_row hcur hG9.1 (fun g h2 => Nat.le_trans hWlo (oY.blk_lt h2).1)
                    replace oX := oX.ne hG9.1 (fun g h1 h2 => dXY g h1 h2)
                    replace oZ := oZ.ne hG9.1 (fun g h1 h2 => dYZ g h2 h1)
                    replace dXY := (dXY.symm.grew hG9 (fun g h => (oX0.blk_lt h).2)).symm
                    replace dYZ := dYZ.grew hG9 (fun g h => (oZ0.blk_lt h).2)
                    replace dYl := dYl.grew hG9 (fun g h => by have h4 : xl = g := by simpa [blk] using h
                                                               omega)
                    replace oY := oY9
                    replace hcur := hcur'
                    replace hs0 := Nat.le_trans hs0 hG9.1.size
                    clear hcur' hG9 oY9 l8 oX0 oZ0
                    refine tree_e rfl rfl (fun K hK => ?_)
                    go_wp2_with fail
                    try go_simp
                    refine hK _ _ (hbV.pure (gr_alloc (World.grownBy.refl _ _) _)) ?_
                    clear hK K
                    obtain ⟨w13, hw13⟩ : ∃ x, x = (w9).alloc (.cells #[.int .i64 (v.z)] 3) := ⟨_, rfl⟩
                    have hgl13 : (w9).grownBy w13 none := by rw [hw13]; exact gr_alloc (World.grownBy.refl _ _) _
                    have l13 : Sl w13 0 (some ⟨(w9).heap.size, 0, none⟩) [v.z] := by rw [hw13]; exact sl_int1 _ 3 (v.z) _ rfl
                    rw [← hw13]
                    clear hw13
                    have hq13 := hs0
                    obtain ⟨p13, hp13⟩ : ∃ x, x = (w9).heap.size := ⟨_, rfl⟩
                    rw [← hp13] at l13 hq13 ⊢
                    replace oX := oX.pure hgl13
                    replace oY := oY.pure hgl13
                    replace oZ := oZ.pure hgl13
                    replace hbV := hbV.pure hgl13
                    replace y0 := hgl13.k y0
                    replace y1 := hgl13.k y1
                    replace y2 := hgl13.k y2
                    replace hcur := gr_trans hcur hgl13
                    replace hs0 := Nat.le_trans hs0 hgl13.size
                    clear hp13 hgl13
                    refine tree_e0 (by kernel_rfl) rfl rfl (fun K hK => ?_)
                    refine wp_pushAt (α := Int) _ (.tmp 46) (.tmp 49) _ rfl lo 3 i0 _ 8 Tryz.underlying22 hi0 hzz hi1 hi2 rfl _ _ _ LZ rfl rfl oZ 0 ⟨p13, 0, none⟩ _ _ [v.z] rfl rfl l13 ?_ ?_ ?_ ?_
                    · simp; omega
                    · simp [maxLen]; omega
                    · exact Nat.le_trans hlo1 hcur.size
                    intro AZ14 cZ14 w14 oZ14 hG14
                    try go_simp
                    refine hK _ _ trivial ?_
                    clear hK K
                    have oX0 := oX
                    have oY0 := oY
                    replace hbV := hbV.gr hG14.1 (hbV.ne_own oZ (by decide))
                    replace y0 := gr_cell hG14.1 y0 (fun h2 => dZl _ h2 rfl)
                    replace y1 := gr_cell hG14.1 y1 (fun h2 => dZl _ h2 rfl)
                    replace y2 := gr_cell hG14.1 y2 (fun h2 => dZl _ h2 rfl)
                    have hcur' := gr_row hcur hG14.1 (fun g h2 => Nat.le_trans hWlo (oZ.blk_lt h2).1)
                    replace oX := oX.ne hG14.1 (fun g h1 h2 => dXZ g h1 h2)
                    replace oY := oY.ne hG14.1 (fun g h1 h2 => dYZ g h1 h2)
                    replace dXZ := (dXZ.symm.grew hG14 (fun g h => (oX0.blk_lt h).2)).symm
                    replace dYZ := (dYZ.symm.grew hG14 (fun g h => (oY0.blk_lt h).2)).symm
                    replace dZl := dZl.grew hG14 (fun g h => by have h4 : xl = g := by simpa [blk] using h
                                                                omega)
                    replace oZ := oZ14
                    replace hcur := hcur'
                    replace hs0 := Nat.le_trans hs0 hG14.1.size
                    clear hcur' hG14 oZ14 l13 oX0 oY0
                    refine tree_p rfl rfl rfl rfl _ rfl (by simp) (fun K hK => ?_)
                    apply Exists.intro
                    refine ⟨fun wq K' hK' => ?_, ?_⟩
                    · go_wp2_with fail
                      exact hK'
                    go_simp
                    refine hK _ ?_
                    clear hK K
                    refine tree_p rfl rfl rfl rfl _ rfl (by simp) (fun K hK => ?_)
                    apply Exists.intro
                    refine ⟨fun wq K' hK' => ?_, ?_⟩
                    · go_wp2_with fail
                      exact hK'
                    go_simp
                    refine hK _ ?_
                    clear hK K
                    refine tree_p rfl rfl rfl rfl _ rfl (by simp) (fun K hK => ?_)
                    apply Exists.intro
                    refine ⟨fun wq K' hK' => ?_, ?_⟩
                    · go_wp2_with fail
                      exact hK'
                    go_simp
                    refine hK _ ?_
                    clear hK K
                    refine tree_done ?_
                    have hX1 : Hid (LX ++ [v.x] = (cornK vs fs k (j + 1)).map V3.x) := by rw [Hid, hKv.out, List.map_append, ← hX.out]; rfl
                    have hY1 : Hid (LY ++ [v.y] = (cornK vs fs k (j + 1)).map V3.y) := by rw [Hid, hKv.out, List.map_append, ← hY.out]; rfl
                    have hZ1 : Hid (LZ ++ [v.z] = (cornK vs fs k (j + 1)).map V3.z) := by rw [Hid, hKv.out, List.map_append, ← hZ.out]; rfl
                    go_wp2_with fail
                    go_roundw
                    case rel => exact ⟨j + 1, by omega, by go_num, ⟨_, _, LX ++ [v.x], _, _, LY ++ [v.y], _, _, LZ ++ [v.z], by first | rfl | simp, by first | rfl | simp, by first | rfl | simp, hX1, hY1, hZ1, by simp; omega, by simp; omega, by simp; omega, oX, oY, oZ, dXY, dXZ, dYZ, dXl, dYl, dZl⟩, y0, y1, y2, hcur⟩
                    case measure => simp [intOf]; omega
                  · refine tree_e rfl rfl (fun K hK => ?_)
                    go_wp2_with fail
                    try go_simp
                    refine hK _ _ (hbV.pure (gr_alloc (World.grownBy.refl _ _) _)) ?_
                    clear hK K
                    obtain ⟨w13, hw13⟩ : ∃ x, x = (w4).alloc (.cells #[.int .i64 (v.z)] 3) := ⟨_, rfl⟩
                    have hgl13 : (w4).grownBy w13 none := by rw [hw13]; exact gr_alloc (World.grownBy.refl _ _) _
                    have l13 : Sl w13 0 (some ⟨(w4).heap.size, 0, none⟩) [v.z] := by rw [hw13]; exact sl_int1 _ 3 (v.z) _ rfl
                    rw [← hw13]
                    clear hw13
                    have hq13 := hs0
                    obtain ⟨p13, hp13⟩ : ∃ x, x = (w4).heap.size := ⟨_, rfl⟩
                    rw [← hp13] at l13 hq13 ⊢
                    replace l8 := l8.pure hgl13
                    replace oX := oX.pure hgl13
                    replace oY := oY.pure hgl13
                    replace oZ := oZ.pure hgl13
                    replace hbV := hbV.pure hgl13
                    replace y0 := hgl13.k y0
                    replace y1 := hgl13.k y1
                    replace y2 := hgl13.k y2
                    replace hcur := gr_trans hcur hgl13
                    replace hs0 := Nat.le_trans hs0 hgl13.size
                    clear hp13 hgl13
                    refine tree_e rfl rfl (fun K hK => ?_)
                    refine wp_pushAt (α := Int) _ (.tmp 41) (.tmp 44) _ rfl lo 3 i0 _ 8 Tryz.underlying22 hi0 hzz hi1 hi2 rfl _ _ _ LY rfl rfl oY 0 ⟨p8, 0, none⟩ _ _ [v.y] rfl rfl l8 ?_ ?_ ?_ ?_
                    · simp; omega
                    · simp [maxLen]; omega
                    · exact Nat.le_trans hlo1 hcur.size
                    intro AY9 cY9 w9 oY9 hG9
                    try go_simp
                    refine hK _ _ (hbV.gr hG9.1 (hbV.ne_own oY (by decide))) ?_
                    clear hK K
                    have oX0 := oX
                    have oZ0 := oZ
                    replace hbV := hbV.gr hG9.1 (hbV.ne_own oY (by decide))
                    replace l13 := l13.ne hG9.1 (fun g h1 h2 => by have h3 := bY g h2; have h4 : p13 = g := (by simpa [blk] using h1); omega)
                    replace y0 := gr_cell hG9.1 y0 (fun h2 => dYl _ h2 rfl)
                    replace y1 := gr_cell hG9.1 y1 (fun h2 => dYl _ h2 rfl)
                    replace y2 := gr_cell hG9.1 y2 (fun h2 => dYl _ h2 rfl)
                    have hcur' := gr_row hcur hG9.1 (fun g h2 => Nat.le_trans hWlo (oY.blk_lt h2).1)
                    replace oX := oX.ne hG9.1 (fun g h1 h2 => dXY g h1 h2)
                    replace oZ := oZ.ne hG9.1 (fun g h1 h2 => dYZ g h2 h1)
                    replace dXY := (dXY.symm.grew hG9 (fun g h => (oX0.blk_lt h).2)).symm
                    replace dYZ := dYZ.grew hG9 (fun g h => (oZ0.blk_lt h).2)
                    replace dYl := dYl.grew hG9 (fun g h => by have h4 : xl = g := by simpa [blk] using h
                                                               omega)
                    replace oY := oY9
                    replace hcur := hcur'
                    replace hs0 := Nat.le_trans hs0 hG9.1.size
                    clear hcur' hG9 oY9 l8 oX0 oZ0
                    refine tree_e0 (by kernel_rfl) rfl rfl (fun K hK => ?_)
                    refine wp_pushAt (α := Int) _ (.tmp 46) (.tmp 49) _ rfl lo 3 i0 _ 8 Tryz.underlying22 hi0 hzz hi1 hi2 rfl _ _ _ LZ rfl rfl oZ 0 ⟨p13, 0, none⟩ _ _ [v.z] rfl rfl l13 ?_ ?_ ?_ ?_
                    · simp; omega
                    · simp [maxLen]; omega
                    · exact Nat.le_trans hlo1 hcur.size
                    intro AZ14 cZ14 w14 oZ14 hG14
                    try go_simp
                    refine hK _ _ trivial ?_
                    clear hK K
                    have oX0 := oX
                    have oY0 := oY
                    replace hbV := hbV.gr hG14.1 (hbV.ne_own oZ (by decide))
                    replace y0 := gr_cell hG14.1 y0 (fun h2 => dZl _ h2 rfl)
                    replace y1 := gr_cell hG14.1 y1 (fun h2 => dZl _ h2 rfl)
                    replace y2 := gr_cell hG14.1 y2 (fun h2 => dZl _ h2 rfl)
                    have hcur' := gr_row hcur hG14.1 (fun g h2 => Nat.le_trans hWlo (oZ.blk_lt h2).1)
                    replace oX := oX.ne hG14.1 (fun g h1 h2 => dXZ g h1 h2)
                    replace oY := oY.ne hG14.1 (fun g h1 h2 => dYZ g h1 h2)
                    replace dXZ := (dXZ.symm.grew hG14 (fun g h => (oX0.blk_lt h).2)).symm
                    replace dYZ := (dYZ.symm.grew hG14 (fun g h => (oY0.blk_lt h).2)).symm
                    replace dZl := dZl.grew hG14 (fun g h => by have h4 : xl = g := by simpa [blk] using h
                                                                omega)
                    replace oZ := oZ14
                    replace hcur := hcur'
                    replace hs0 := Nat.le_trans hs0 hG14.1.size
                    clear hcur' hG14 oZ14 l13 oX0 oY0
                    refine tree_p rfl rfl rfl rfl _ rfl (by simp) (fun K hK => ?_)
                    apply Exists.intro
                    refine ⟨fun wq K' hK' => ?_, ?_⟩
                    · go_wp2_with fail
                      exact hK'
                    go_simp
                    refine hK _ ?_
                    clear hK K
                    refine tree_p rfl rfl rfl rfl _ rfl (by simp) (fun K hK => ?_)
                    apply Exists.intro
                    refine ⟨fun wq K' hK' => ?_, ?_⟩
                    · go_wp2_with fail
                      exact hK'
                    go_simp
                    refine hK _ ?_
                    clear hK K
                    refine tree_p rfl rfl rfl rfl _ rfl (by simp) (fun K hK => ?_)
                    apply Exists.intro
                    refine ⟨fun wq K' hK' => ?_, ?_⟩
                    · go_wp2_with fail
                      exact hK'
                    go_simp
                    refine hK _ ?_
                    clear hK K
                    refine tree_done ?_
                    have hX1 : Hid (LX ++ [v.x] = (cornK vs fs k (j + 1)).map V3.x) := by rw [Hid, hKv.out, List.map_append, ← hX.out]; rfl
                    have hY1 : Hid (LY ++ [v.y] = (cornK vs fs k (j + 1)).map V3.y) := by rw [Hid, hKv.out, List.map_append, ← hY.out]; rfl
                    have hZ1 : Hid (LZ ++ [v.z] = (cornK vs fs k (j + 1)).map V3.z) := by rw [Hid, hKv.out, List.map_append, ← hZ.out]; rfl
                    go_wp2_with fail
                    go_roundw
                    case rel => exact ⟨j + 1, by omega, by go_num, ⟨_, _, LX ++ [v.x], _, _, LY ++ [v.y], _, _, LZ ++ [v.z], by first | rfl | simp, by first | rfl | simp, by first | rfl | simp, hX1, hY1, hZ1, by simp; omega, by simp; omega, by simp; omega, oX, oY, oZ, dXY, dXZ, dYZ, dXl, dYl, dZl⟩, y0, y1, y2, hcur⟩
                    case measure => simp [intOf]; omega
                · refine tree_e rfl rfl (fun K hK => ?_)
                  go_wp2_with fail
                  try go_simp
                  refine hK _ _ (hbV.pure (gr_alloc (World.grownBy.refl _ _) _)) ?_
                  clear hK K
                  obtain ⟨w13, hw13⟩ : ∃ x, x = (w3).alloc (.cells #[.int .i64 (v.z)] 3) := ⟨_, rfl⟩
                  have hgl13 : (w3).grownBy w13 none := by rw [hw13]; exact gr_alloc (World.grownBy.refl _ _) _
                  have l13 : Sl w13 0 (some ⟨(w3).heap.size, 0, none⟩) [v.z] := by rw [hw13]; exact sl_int1 _ 3 (v.z) _ rfl
                  rw [← hw13]
                  clear hw13
                  have hq13 := hs0
                  obtain ⟨p13, hp13⟩ : ∃ x, x = (w3).heap.size := ⟨_, rfl⟩
                  rw [← hp13] at l13 hq13 ⊢
                  replace l3 := l3.pure hgl13
                  replace l8 := l8.pure hgl13
                  replace oX := oX.pure hgl13
                  replace oY := oY.pure hgl13
                  replace oZ := oZ.pure hgl13
                  replace hbV := hbV.pure hgl13
                  replace y0 := hgl13.k y0
                  replace y1 := hgl13.k y1
                  replace y2 := hgl13.k y2
                  replace hcur := gr_trans hcur hgl13
                  replace hs0 := Nat.le_trans hs0 hgl13.size
                  clear hp13 hgl13
                  refine tree_e rfl rfl (fun K hK => ?_)
                  refine wp_pushAt (α := Int) _ (.tmp 36) (.tmp 39) _ rfl lo 3 i0 _ 8 Tryz.underlying22 hi0 hzz hi1 hi2 rfl _ _ _ LX rfl rfl oX 0 ⟨p3, 0, none⟩ _ _ [v.x] rfl rfl l3 ?_ ?_ ?_ ?_
                  · simp; omega
                  · simp [maxLen]; omega
                  · exact Nat.le_trans hlo1 hcur.size
                  intro AX4 cX4 w4 oX4 hG4
                  try go_simp
                  refine hK _ _ (hbV.gr hG4.1 (hbV.ne_own oX (by decide))) ?_
                  clear hK K
                  have oY0 := oY
                  have oZ0 := oZ
                  replace hbV := hbV.gr hG4.1 (hbV.ne_own oX (by decide))
                  replace l8 := l8.ne hG4.1 (fun g h1 h2 => by have h3 := bX g h2; have h4 : p8 = g := (by simpa [blk] using h1); omega)
                  replace l13 := l13.ne hG4.1 (fun g h1 h2 => by have h3 := bX g h2; have h4 : p13 = g := (by simpa [blk] using h1); omega)
                  replace y0 := gr_cell hG4.1 y0 (fun h2 => dXl _ h2 rfl)
                  replace y1 := gr_cell hG4.1 y1 (fun h2 => dXl _ h2 rfl)
                  replace y2 := gr_cell hG4.1 y2 (fun h2 => dXl _ h2 rfl)
                  have hcur' := gr_row hcur hG4.1 (fun g h2 => Nat.le_trans hWlo (oX.blk_lt h2).1)
                  replace oY := oY.ne hG4.1 (fun g h1 h2 => dXY g h2 h1)
                  replace oZ := oZ.ne hG4.1 (fun g h1 h2 => dXZ g h2 h1)
                  replace dXY := dXY.grew hG4 (fun g h => (oY0.blk_lt h).2)
                  replace dXZ := dXZ.grew hG4 (fun g h => (oZ0.blk_lt h).2)
                  replace dXl := dXl.grew hG4 (fun g h => by have h4 : xl = g := by simpa [blk] using h
                                                             omega)
                  replace oX := oX4
                  replace hcur := hcur'
                  replace hs0 := Nat.le_trans hs0 hG4.1.size
                  clear hcur' hG4 oX4 l3 oY0 oZ0
                  refine tree_e rfl rfl (fun K hK => ?_)
                  refine wp_pushAt (α := Int) _ (.tmp 41) (.tmp 44) _ rfl lo 3 i0 _ 8 Tryz.underlying22 hi0 hzz hi1 hi2 rfl _ _ _ LY rfl rfl oY 0 ⟨p8, 0, none⟩ _ _ [v.y] rfl rfl l8 ?_ ?_ ?_ ?_
                  · simp; omega
                  · simp [maxLen]; omega
                  · exact Nat.le_trans hlo1 hcur.size
                  intro AY9 cY9 w9 oY9 hG9
                  try go_simp
                  refine hK _ _ (hbV.gr hG9.1 (hbV.ne_own oY (by decide))) ?_
                  clear hK K
                  have oX0 := oX
                  have oZ0 := oZ
                  replace hbV := hbV.gr hG9.1 (hbV.ne_own oY (by decide))
                  replace l13 := l13.ne hG9.1 (fun g h1 h2 => by have h3 := bY g h2; have h4 : p13 = g := (by simpa [blk] using h1); omega)
                  replace y0 := gr_cell hG9.1 y0 (fun h2 => dYl _ h2 rfl)
                  replace y1 := gr_cell hG9.1 y1 (fun h2 => dYl _ h2 rfl)
                  replace y2 := gr_cell hG9.1 y2 (fun h2 => dYl _ h2 rfl)
                  have hcur' := gr_row hcur hG9.1 (fun g h2 => Nat.le_trans hWlo (oY.blk_lt h2).1)
                  replace oX := oX.ne hG9.1 (fun g h1 h2 => dXY g h1 h2)
                  replace oZ := oZ.ne hG9.1 (fun g h1 h2 => dYZ g h2 h1)
                  replace dXY := (dXY.symm.grew hG9 (fun g h => (oX0.blk_lt h).2)).symm
                  replace dYZ := dYZ.grew hG9 (fun g h => (oZ0.blk_lt h).2)
                  replace dYl := dYl.grew hG9 (fun g h => by have h4 : xl = g := by simpa [blk] using h
                                                             omega)
                  replace oY := oY9
                  replace hcur := hcur'
                  replace hs0 := Nat.le_trans hs0 hG9.1.size
                  clear hcur' hG9 oY9 l8 oX0 oZ0
                  refine tree_e0 (by kernel_rfl) rfl rfl (fun K hK => ?_)
                  refine wp_pushAt (α := Int) _ (.tmp 46) (.tmp 49) _ rfl lo 3 i0 _ 8 Tryz.underlying22 hi0 hzz hi1 hi2 rfl _ _ _ LZ rfl rfl oZ 0 ⟨p13, 0, none⟩ _ _ [v.z] rfl rfl l13 ?_ ?_ ?_ ?_
                  · simp; omega
                  · simp [maxLen]; omega
                  · exact Nat.le_trans hlo1 hcur.size
                  intro AZ14 cZ14 w14 oZ14 hG14
                  try go_simp
                  refine hK _ _ trivial ?_
                  clear hK K
                  have oX0 := oX
                  have oY0 := oY
                  replace hbV := hbV.gr hG14.1 (hbV.ne_own oZ (by decide))
                  replace y0 := gr_cell hG14.1 y0 (fun h2 => dZl _ h2 rfl)
                  replace y1 := gr_cell hG14.1 y1 (fun h2 => dZl _ h2 rfl)
                  replace y2 := gr_cell hG14.1 y2 (fun h2 => dZl _ h2 rfl)
                  have hcur' := gr_row hcur hG14.1 (fun g h2 => Nat.le_trans hWlo (oZ.blk_lt h2).1)
                  replace oX := oX.ne hG14.1 (fun g h1 h2 => dXZ g h1 h2)
                  replace oY := oY.ne hG14.1 (fun g h1 h2 => dYZ g h1 h2)
                  replace dXZ := (dXZ.symm.grew hG14 (fun g h => (oX0.blk_lt h).2)).symm
                  replace dYZ := (dYZ.symm.grew hG14 (fun g h => (oY0.blk_lt h).2)).symm
                  replace dZl := dZl.grew hG14 (fun g h => by have h4 : xl = g := by simpa [blk] using h
                                                              omega)
                  replace oZ := oZ14
                  replace hcur := hcur'
                  replace hs0 := Nat.le_trans hs0 hG14.1.size
                  clear hcur' hG14 oZ14 l13 oX0 oY0
                  refine tree_p rfl rfl rfl rfl _ rfl (by simp) (fun K hK => ?_)
                  apply Exists.intro
                  refine ⟨fun wq K' hK' => ?_, ?_⟩
                  · go_wp2_with fail
                    exact hK'
                  go_simp
                  refine hK _ ?_
                  clear hK K
                  refine tree_p rfl rfl rfl rfl _ rfl (by simp) (fun K hK => ?_)
                  apply Exists.intro
                  refine ⟨fun wq K' hK' => ?_, ?_⟩
                  · go_wp2_with fail
                    exact hK'
                  go_simp
                  refine hK _ ?_
                  clear hK K
                  refine tree_p rfl rfl rfl rfl _ rfl (by simp) (fun K hK => ?_)
                  apply Exists.intro
                  refine ⟨fun wq K' hK' => ?_, ?_⟩
                  · go_wp2_with fail
                    exact hK'
                  go_simp
                  refine hK _ ?_
                  clear hK K
                  refine tree_done ?_
                  have hX1 : Hid (LX ++ [v.x] = (cornK vs fs k (j + 1)).map V3.x) := by rw [Hid, hKv.out, List.map_append, ← hX.out]; rfl
                  have hY1 : Hid (LY ++ [v.y] = (cornK vs fs k (j + 1)).map V3.y) := by rw [Hid, hKv.out, List.map_append, ← hY.out]; rfl
                  have hZ1 : Hid (LZ ++ [v.z] = (cornK vs fs k (j + 1)).map V3.z) := by rw [Hid, hKv.out, List.map_append, ← hZ.out]; rfl
                  go_wp2_with fail
                  go_roundw
                  case rel => exact ⟨j + 1, by omega, by go_num, ⟨_, _, LX ++ [v.x], _, _, LY ++ [v.y], _, _, LZ ++ [v.z], by first | rfl | simp, by first | rfl | simp, by first | rfl | simp, hX1, hY1, hZ1, by simp; omega, by simp; omega, by simp; omega, oX, oY, oZ, dXY, dXZ, dYZ, dXl, dYl, dZl⟩, y0, y1, y2, hcur⟩
                  case measure => simp [intOf]; omega
              · refine tree_e rfl rfl (fun K hK => ?_)
                go_wp2_with fail
                try go_simp
                refine hK _ _ (hbV.pure (gr_alloc (World.grownBy.refl _ _) _)) ?_
                clear hK K
                obtain ⟨w13, hw13⟩ : ∃ x, x = (w8).alloc (.cells #[.int .i64 (v.z)] 3) := ⟨_, rfl⟩
                have hgl13 : (w8).grownBy w13 none := by rw [hw13]; exact gr_alloc (World.grownBy.refl _ _) _
                have l13 : Sl w13 0 (some ⟨(w8).heap.size, 0, none⟩) [v.z] := by rw [hw13]; exact sl_int1 _ 3 (v.z) _ rfl
                rw [← hw13]
                clear hw13
                have hq13 := hs0
                obtain ⟨p13, hp13⟩ : ∃ x, x = (w8).heap.size := ⟨_, rfl⟩
                rw [← hp13] at l13 hq13 ⊢
                replace l8 := l8.pure hgl13
                replace oX := oX.pure hgl13
                replace oY := oY.pure hgl13
                replace oZ := oZ.pure hgl13
                replace hbV := hbV.pure hgl13
                replace y0 := hgl13.k y0
                replace y1 := hgl13.k y1
                replace y2 := hgl13.k y2
                replace hcur := gr_trans hcur hgl13
                replace hs0 := Nat.le_trans hs0 hgl13.size
                clear hp13 hgl13
                refine tree_e rfl rfl (fun K hK => ?_)
                go_wp2_with fail
                try go_simp
                refine hK _ _ (hbV.pure (gr_alloc (World.grownBy.refl _ _) _)) ?_
                clear hK K
                obtain ⟨w3, hw3⟩ : ∃ x, x = (w13).alloc (.cells #[.int .i64 (v.x)] 3) := ⟨_, rfl⟩
                have hgl3 : (w13).grownBy w3 none := by rw [hw3]; exact gr_alloc (World.grownBy.refl _ _) _
                have l3 : Sl w3 0 (some ⟨(w13).heap.size, 0, none⟩) [v.x] := by rw [hw3]; exact sl_int1 _ 3 (v.x) _ rfl
                rw [← hw3]
                clear hw3
                have hq3 := hs0
                obtain ⟨p3, hp3⟩ : ∃ x, x = (w13).heap.size := ⟨_, rfl⟩
                rw [← hp3] at l3 hq3 ⊢
                replace l8 := l8.pure hgl3
                replace l13 := l13.pure hgl3
                replace oX := oX.pure hgl3
                replace oY := oY.pure hgl3
                replace oZ := oZ.pure hgl3
                replace hbV := hbV.pure hgl3
                replace y0 := hgl3.k y0
                replace y1 := hgl3.k y1
                replace y2 := hgl3.k y2
                replace hcur := gr_trans hcur hgl3
                replace hs0 := Nat.le_trans hs0 hgl3.size
                clear hp3 hgl3
                refine tree_e rfl rfl (fun K hK => ?_)
                refine wp_pushAt (α := Int) _ (.tmp 36) (.tmp 39) _ rfl lo 3 i0 _ 8 Tryz.underlying22 hi0 hzz hi1 hi2 rfl _ _ _ LX rfl rfl oX 0 ⟨p3, 0, none⟩ _ _ [v.x] rfl rfl l3 ?_ ?_ ?_ ?_
                · simp; omega
                · simp [maxLen]; omega
                · exact Nat.le_trans hlo1 hcur.size
                intro AX4 cX4 w4 oX4 hG4
                try go_simp
                refine hK _ _ (hbV.gr hG4.1 (hbV.ne_own oX (by decide))) ?_
                clear hK K
                have oY0 := oY
                have oZ0 := oZ
                replace hbV := hbV.gr hG4.1 (hbV.ne_own oX (by decide))
                replace l8 := l8.ne hG4.1 (fun g h1 h2 => by have h3 := bX g h2; have h4 : p8 = g := (by simpa [blk] using h1); omega)
                replace l13 := l13.ne hG4.1 (fun g h1 h2 => by have h3 := bX g h2; have h4 : p13 = g := (by simpa [blk] using h1); omega)
                replace y0 := gr_cell hG4.1 y0 (fun h2 => dXl _ h2 rfl)
                replace y1 := gr_cell hG4.1 y1 (fun h2 => dXl _ h2 rfl)
                replace y2 := gr_cell hG4.1 y2 (fun h2 => dXl _ h2 rfl)
                have hcur' := gr_row hcur hG4.1 (fun g h2 => Nat.le_trans hWlo (oX.blk_lt h2).1)
                replace oY := oY.ne hG4.1 (fun g h1 h2 => dXY g h2 h1)
                replace oZ := oZ.ne hG4.1 (fun g h1 h2 => dXZ g h2 h1)
                replace dXY := dXY.grew hG4 (fun g h => (oY0.blk_lt h).2)
                replace dXZ := dXZ.grew hG4 (fun g h => (oZ0.blk_lt h).2)
                replace dXl := dXl.grew hG4 (fun g h => by have h4 : xl = g := by simpa [blk] using h
                                                           omega)
                replace oX := oX4
                replace hcur := hcur'
                replace hs0 := Nat.le_trans hs0 hG4.1.size
                clear hcur' hG4 oX4 l3 oY0 oZ0
                refine tree_e rfl rfl (fun K hK => ?_)
                refine wp_pushAt (α := Int) _ (.tmp 41) (.tmp 44) _ rfl lo 3 i0 _ 8 Tryz.underlying22 hi0 hzz hi1 hi2 rfl _ _ _ LY rfl rfl oY 0 ⟨p8, 0, none⟩ _ _ [v.y] rfl rfl l8 ?_ ?_ ?_ ?_
                · simp; omega
                · simp [maxLen]; omega
                · exact Nat.le_trans hlo1 hcur.size
                intro AY9 cY9 w9 oY9 hG9
                try go_simp
                refine hK _ _ (hbV.gr hG9.1 (hbV.ne_own oY (by decide))) ?_
                clear hK K
                have oX0 := oX
                have oZ0 := oZ
                replace hbV := hbV.gr hG9.1 (hbV.ne_own oY (by decide))
                replace l13 := l13.ne hG9.1 (fun g h1 h2 => by have h3 := bY g h2; have h4 : p13 = g := (by simpa [blk] using h1); omega)
                replace y0 := gr_cell hG9.1 y0 (fun h2 => dYl _ h2 rfl)
                replace y1 := gr_cell hG9.1 y1 (fun h2 => dYl _ h2 rfl)
                replace y2 := gr_cell hG9.1 y2 (fun h2 => dYl _ h2 rfl)
                have hcur' := gr_row hcur hG9.1 (fun g h2 => Nat.le_trans hWlo (oY.blk_lt h2).1)
                replace oX := oX.ne hG9.1 (fun g h1 h2 => dXY g h1 h2)
                replace oZ := oZ.ne hG9.1 (fun g h1 h2 => dYZ g h2 h1)
                replace dXY := (dXY.symm.grew hG9 (fun g h => (oX0.blk_lt h).2)).symm
                replace dYZ := dYZ.grew hG9 (fun g h => (oZ0.blk_lt h).2)
                replace dYl := dYl.grew hG9 (fun g h => by have h4 : xl = g := by simpa [blk] using h
                                                           omega)
                replace oY := oY9
                replace hcur := hcur'
                replace hs0 := Nat.le_trans hs0 hG9.1.size
                clear hcur' hG9 oY9 l8 oX0 oZ0
                refine tree_e0 (by kernel_rfl) rfl rfl (fun K hK => ?_)
                refine wp_pushAt (α := Int) _ (.tmp 46) (.tmp 49) _ rfl lo 3 i0 _ 8 Tryz.underlying22 hi0 hzz hi1 hi2 rfl _ _ _ LZ rfl rfl oZ 0 ⟨p13, 0, none⟩ _ _ [v.z] rfl rfl l13 ?_ ?_ ?_ ?_
                · simp; omega
                · simp [maxLen]; omega
                · exact Nat.le_trans hlo1 hcur.size
                intro AZ14 cZ14 w14 oZ14 hG14
                try go_simp
                refine hK _ _ trivial ?_
                clear hK K
                have oX0 := oX
                have oY0 := oY
                replace hbV := hbV.gr hG14.1 (hbV.ne_own oZ (by decide))
                replace y0 := gr_cell hG14.1 y0 (fun h2 => dZl _ h2 rfl)
                replace y1 := gr_cell hG14.1 y1 (fun h2 => dZl _ h2 rfl)
                replace y2 := gr_cell hG14.1 y2 (fun h2 => dZl _ h2 rfl)
                have hcur' := gr_row hcur hG14.1 (fun g h2 => Nat.le_trans hWlo (oZ.blk_lt h2).1)
                replace oX := oX.ne hG14.1 (fun g h1 h2 => dXZ g h1 h2)
                replace oY := oY.ne hG14.1 (fun g h1 h2 => dYZ g h1 h2)
                replace dXZ := (dXZ.symm.grew hG14 (fun g h => (oX0.blk_lt h).2)).symm
                replace dYZ := (dYZ.symm.grew hG14 (fun g h => (oY0.blk_lt h).2)).symm
                replace dZl := dZl.grew hG14 (fun g h => by have h4 : xl = g := by simpa [blk] using h
                                                            omega)
                replace oZ := oZ14
                replace hcur := hcur'
                replace hs0 := Nat.le_trans hs0 hG14.1.size
                clear hcur' hG14 oZ14 l13 oX0 oY0
                refine tree_p rfl rfl rfl rfl _ rfl (by simp) (fun K hK => ?_)
                apply Exists.intro
                refine ⟨fun wq K' hK' => ?_, ?_⟩
                · go_wp2_with fail
                  exact hK'
                go_simp
                refine hK _ ?_
                clear hK K
                refine tree_p rfl rfl rfl rfl _ rfl (by simp) (fun K hK => ?_)
                apply Exists.intro
                refine ⟨fun wq K' hK' => ?_, ?_⟩
                · go_wp2_with fail
                  exact hK'
                go_simp
                refine hK _ ?_
                clear hK K
                refine tree_p rfl rfl rfl rfl _ rfl (by simp) (fun K hK => ?_)
                apply Exists.intro
                refine ⟨fun wq K' hK' => ?_, ?_⟩
                · go_wp2_with fail
                  exact hK'
                go_simp
                refine hK _ ?_
                clear hK K
                refine tree_done ?_
                have hX1 : Hid (LX ++ [v.x] = (cornK vs fs k (j + 1)).map V3.x) := by rw [Hid, hKv.out, List.map_append, ← hX.out]; rfl
                have hY1 : Hid (LY ++ [v.y] = (cornK vs fs k (j + 1)).map V3.y) := by rw [Hid, hKv.out, List.map_append, ← hY.out]; rfl
                have hZ1 : Hid (LZ ++ [v.z] = (cornK vs fs k (j + 1)).map V3.z) := by rw [Hid, hKv.out, List.map_append, ← hZ.out]; rfl
                go_wp2_with fail
                go_roundw
                case rel => exact ⟨j + 1, by omega, by go_num, ⟨_, _, LX ++ [v.x], _, _, LY ++ [v.y], _, _, LZ ++ [v.z], by first | rfl | simp, by first | rfl | simp, by first | rfl | simp, hX1, hY1, hZ1, by simp; omega, by simp; omega, by simp; omega, oX, oY, oZ, dXY, dXZ, dYZ, dXl, dYl, dZl⟩, y0, y1, y2, hcur⟩
                case measure => simp [intOf]; omega
            · refine tree_e rfl rfl (fun K hK => ?_)
              go_wp2_with fail
              try go_simp
              refine hK _ _ (hbV.pure (gr_alloc (World.grownBy.refl _ _) _)) ?_
              clear hK K
              obtain ⟨w13, hw13⟩ : ∃ x, x = (W1).alloc (.cells #[.int .i64 (v.z)] 3) := ⟨_, rfl⟩
              have hgl13 : (W1).grownBy w13 none := by rw [hw13]; exact gr_alloc (World.grownBy.refl _ _) _
              have l13 : Sl w13 0 (some ⟨(W1).heap.size, 0, none⟩) [v.z] := by rw [hw13]; exact sl_int1 _ 3 (v.z) _ rfl
              rw [← hw13]
              clear hw13
              have hq13 := hs0
              obtain ⟨p13, hp13⟩ : ∃ x, x = (W1).heap.size := ⟨_, rfl⟩
              rw [← hp13] at l13 hq13 ⊢
              replace oX := oX.pure hgl13
              replace oY := oY.pure hgl13
              replace oZ := oZ.pure hgl13
              replace hbV := hbV.pure hgl13
              replace y0 := hgl13.k y0
              replace y1 := hgl13.k y1
              replace y2 := hgl13.k y2
              replace hcur := gr_trans hcur hgl13
              replace hs0 := Nat.le_trans hs0 hgl13.size
              clear hp13 hgl13
              refine tree_alt ?_ ?_
              · refine tree_e rfl rfl (fun K hK => ?_)
                go_wp2_with fail
                try go_simp
                refine hK _ _ (hbV.pure (gr_alloc (World.grownBy.refl _ _) _)) ?_
                clear hK K
                obtain ⟨w3, hw3⟩ : ∃ x, x = (w13).alloc (.cells #[.int .i64 (v.x)] 3) := ⟨_, rfl⟩
                have hgl3 : (w13).grownBy w3 none := by rw [hw3]; exact gr_alloc (World.grownBy.refl _ _) _
                have l3 : Sl w3 0 (some ⟨(w13).heap.size, 0, none⟩) [v.x] := by rw [hw3]; exact sl_int1 _ 3 (v.x) _ rfl
                rw [← hw3]
                clear hw3
                have hq3 := hs0
                obtain ⟨p3, hp3⟩ : ∃ x, x = (w13).heap.size := ⟨_, rfl⟩
                rw [← hp3] at l3 hq3 ⊢
                replace l13 := l13.pure hgl3
                replace oX := oX.pure hgl3
                replace oY := oY.pure hgl3
                replace oZ := oZ.pure hgl3
                replace hbV := hbV.pure hgl3
                replace y0 := hgl3.k y0
                replace y1 := hgl3.k y1
                replace y2 := hgl3.k y2
                replace hcur := gr_trans hcur hgl3
                replace hs0 := Nat.le_trans hs0 hgl3.size
                clear hp3 hgl3
                refine tree_alt ?_ ?_
                · refine tree_e rfl rfl (fun K hK => ?_)
                  refine wp_pushAt (α := Int) _ (.tmp 36) (.tmp 39) _ rfl lo 3 i0 _ 8 Tryz.underlying22 hi0 hzz hi1 hi2 rfl _ _ _ LX rfl rfl oX 0 ⟨p3, 0, none⟩ _ _ [v.x] rfl rfl l3 ?_ ?_ ?_ ?_
                  · simp; omega
                  · simp [maxLen]; omega
                  · exact Nat.le_trans hlo1 hcur.size
                  intro AX4 cX4 w4 oX4 hG4
                  try go_simp
                  refine hK _ _ (hbV.gr hG4.1 (hbV.ne_own oX (by decide))) ?_
                  clear hK K
                  have oY0 := oY
                  have oZ0 := oZ
                  replace hbV := hbV.gr hG4.1 (hbV.ne_own oX (by decide))
                  replace l13 := l13.ne hG4.1 (fun g h1 h2 => by have h3 := bX g h2; have h4 : p13 = g := (by simpa [blk] using h1); omega)
                  replace y0 := gr_cell hG4.1 y0 (fun h2 => dXl _ h2 rfl)
                  replace y1 := gr_cell hG4.1 y1 (fun h2 => dXl _ h2 rfl)
                  replace y2 := gr_cell hG4.1 y2 (fun h2 => dXl _ h2 rfl)
                  have hcur' := gr_row hcur hG4.1 (fun g h2 => Nat.le_trans hWlo (oX.blk_lt h2).1)
                  replace oY := oY.ne hG4.1 (fun g h1 h2 => dXY g h2 h1)
                  replace oZ := oZ.ne hG4.1 (fun g h1 h2 => dXZ g h2 h1)
                  replace dXY := dXY.grew hG4 (fun g h => (oY0.blk_lt h).2)
                  replace dXZ := dXZ.grew hG4 (fun g h => (oZ0.blk_lt h).2)
                  replace dXl := dXl.grew hG4 (fun g h => by have h4 : xl = g := by simpa [blk] using h
                                                             omega)
                  replace oX := oX4
                  replace hcur := hcur'
                  replace hs0 := Nat.le_trans hs0 hG4.1.size
                  clear hcur' hG4 oX4 l3 oY0 oZ0
                  refine tree_e rfl rfl (fun K hK => ?_)
                  go_wp2_with fail
                  try go_simp
                  refine hK _ _ (hbV.pure (gr_alloc (World.grownBy.refl _ _) _)) ?_
                  clear hK K
                  obtain ⟨w8, hw8⟩ : ∃ x, x = (w4).alloc (.cells #[.int .i64 (v.y)] 3) := ⟨_, rfl⟩
                  have hgl8 : (w4).grownBy w8 none := by rw [hw8]; exact gr_alloc (World.grownBy.refl _ _) _
                  have l8 : Sl w8 0 (some ⟨(w4).heap.size, 0, none⟩) [v.y] := by rw [hw8]; exact sl_int1 _ 3 (v.y) _ rfl
                  rw [← hw8]
                  clear hw8
                  have hq8 := hs0
                  obtain ⟨p8, hp8⟩ : ∃ x, x = (w4).heap.size := ⟨_, rfl⟩
                  rw [← hp8] at l8 hq8 ⊢
                  replace l13 := l13.pure hgl8
                  replace oX := oX.pure hgl8
                  replace oY := oY.pure hgl8
                  replace oZ := oZ.pure hgl8
                  replace hbV := hbV.pure hgl8
                  replace y0 := hgl8.k y0
                  replace y1 := hgl8.k y1
                  replace y2 := hgl8.k y2
                  replace hcur := gr_trans hcur hgl8
                  replace hs0 := Nat.le_trans hs0 hgl8.size
                  clear hp8 hgl8
                  refine tree_e rfl rfl (fun K hK => ?_)
                  refine wp_pushAt (α := Int) _ (.tmp 41) (.tmp 44) _ rfl lo 3 i0 _ 8 Tryz.underlying22 hi0 hzz hi1 hi2 rfl _ _ _ LY rfl rfl oY 0 ⟨p8, 0, none⟩ _ _ [v.y] rfl rfl l8 ?_ ?_ ?_ ?_
                  · simp; omega
                  · simp [maxLen]; omega
                  · exact Nat.le_trans hlo1 hcur.size
                  intro AY9 cY9 w9 oY9 hG9
                  try go_simp
                  refine hK _ _ (hbV.gr hG9.1 (hbV.ne_own oY (by decide))) ?_
                  clear hK K
                  have oX0 := oX
                  have oZ0 := oZ
                  replace hbV := hbV.gr hG9.1 (hbV.ne_own oY (by decide))
                  replace l13 := l13.ne hG9.1 (fun g h1 h2 => by have h3 := bY g h2; have h4 : p13 = g := (by simpa [blk] using h1); omega)
                  replace y0 := gr_cell hG9.1 y0 (fun h2 => dYl _ h2 rfl)
                  replace y1 := gr_cell hG9.1 y1 (fun h2 => dYl _ h2 rfl)
                  replace y2 := gr_cell hG9.1 y2 (fun h2 => dYl _ h2 rfl)
                  have hcur' := gr_row hcur hG9.1 (fun g h2 => Nat.le_trans hWlo (oY.blk_lt h2).1)
                  replace oX := oX.ne hG9.1 (fun g h1 h2 => dXY g h1 h2)
                  replace oZ := oZ.ne hG9.1 (fun g h1 h2 => dYZ g h2 h1)
                  replace dXY := (dXY.symm.grew hG9 (fun g h => (oX0.blk_lt h).2)).symm
                  replace dYZ := dYZ.grew hG9 (fun g h => (oZ0.blk_lt h).2)
                  replace dYl := dYl.grew hG9 (fun g h => by have h4 : xl = g := by simpa [blk] using h
                                                             omega)
                  replace oY := oY9
                  replace hcur := hcur'
                  replace hs0 := Nat.le_trans hs0 hG9.1.size
                  clear hcur' hG9 oY9 l8 oX0 oZ0
                  refine tree_e0 (by kernel_rfl) rfl rfl (fun K hK => ?_)
                  refine wp_pushAt (α := Int) _ (.tmp 46) (.tmp 49) _ rfl lo 3 i0 _ 8 Tryz.underlying22 hi0 hzz hi1 hi2 rfl _ _ _ LZ rfl rfl oZ 0 ⟨p13, 0, none⟩ _ _ [v.z] rfl rfl l13 ?_ ?_ ?_ ?_
                  · simp; omega
                  · simp [maxLen]; omega
                  · exact Nat.le_trans hlo1 hcur.size
                  intro AZ14 cZ14 w14 oZ14 hG14
                  try go_simp
                  refine hK _ _ trivial ?_
                  clear hK K
                  have oX0 := oX
                  have oY0 := oY
                  replace hbV := hbV.gr hG14.1 (hbV.ne_own oZ (by decide))
                  replace y0 := gr_cell hG14.1 y0 (fun h2 => dZl _ h2 rfl)
                  replace y1 := gr_cell hG14.1 y1 (fun h2 => dZl _ h2 rfl)
                  replace y2 := gr_cell hG14.1 y2 (fun h2 => dZl _ h2 rfl)
                  have hcur' := gr_row hcur hG14.1 (fun g h2 => Nat.le_trans hWlo (oZ.blk_lt h2).1)
                  replace oX := oX.ne hG14.1 (fun g h1 h2 => dXZ g h1 h2)
                  replace oY := oY.ne hG14.1 (fun g h1 h2 => dYZ g h1 h2)
                  replace dXZ := (dXZ.symm.grew hG14 (fun g h => (oX0.blk_lt h).2)).symm
                  replace dYZ := (dYZ.symm.grew hG14 (fun g h => (oY0.blk_lt h).2)).symm
                  replace dZl := dZl.grew hG14 (fun g h => by have h4 : xl = g := by simpa [blk] using h
                                                              omega)
                  replace oZ := oZ14
                  replace hcur := hcur'
                  replace hs0 := Nat.le_trans hs0 hG14.1.size
                  clear hcur' hG14 oZ14 l13 oX0 oY0
                  refine tree_p rfl rfl rfl rfl _ rfl (by simp) (fun K hK => ?_)
                  apply Exists.intro
                  refine ⟨fun wq K' hK' => ?_, ?_⟩
                  · go_wp2_with fail
                    exact hK'
                  go_simp
                  refine hK _ ?_
                  clear hK K
                  refine tree_p rfl rfl rfl rfl _ rfl (by simp) (fun K hK => ?_)
                  apply Exists.intro
                  refine ⟨fun wq K' hK' => ?_, ?_⟩
                  · go_wp2_with fail
                    exact hK'
                  go_simp
                  refine hK _ ?_
                  clear hK K
                  refine tree_p rfl rfl rfl rfl _ rfl (by simp) (fun K hK => ?_)
                  apply Exists.intro
                  refine ⟨fun wq K' hK' => ?_, ?_⟩
                  · go_wp2_with fail
                    exact hK'
                  go_simp
                  refine hK _ ?_
                  clear hK K
                  refine tree_done ?_
                  have hX1 : Hid (LX ++ [v.x] = (cornK vs fs k (j + 1)).map V3.x) := by rw [Hid, hKv.out, List.map_append, ← hX.out]; rfl
                  have hY1 : Hid (LY ++ [v.y] = (cornK vs fs k (j + 1)).map V3.y) := by rw [Hid, hKv.out, List.map_append, ← hY.out]; rfl
                  have hZ1 : Hid (LZ ++ [v.z] = (cornK vs fs k (j + 1)).map V3.z) := by rw [Hid, hKv.out, List.map_append, ← hZ.out]; rfl
                  go_wp2_with fail
                  go_roundw
                  case rel => exact ⟨j + 1, by omega, by go_num, ⟨_, _, LX ++ [v.x], _, _, LY ++ [v.y], _, _, LZ ++ [v.z], by first | rfl | simp, by first | rfl | simp, by first | rfl | simp, hX1, hY1, hZ1, by simp; omega, by simp; omega, by simp; omega, oX, oY, oZ, dXY, dXZ, dYZ, dXl, dYl, dZl⟩, y0, y1, y2, hcur⟩
                  case measure => simp [intOf]; omega
                · refine tree_e rfl rfl (fun K hK => ?_)
                  go_wp2_with fail
                  try go_simp
                  refine hK _ _ (hbV.pure (gr_alloc (World.grownBy.refl _ _) _)) ?_
                  clear hK K
                  obtain ⟨w8, hw8⟩ : ∃ x, x = (w3).alloc (.cells #[.int .i64 (v.y)] 3) := ⟨_, rfl⟩
                  have hgl8 : (w3).grownBy w8 none := by rw [hw8]; exact gr_alloc (World.grownBy.refl _ _) _
                  have l8 : Sl w8 0 (some ⟨(w3).heap.size, 0, none⟩) [v.y] := by rw [hw8]; exact sl_int1 _ 3 (v.y) _ rfl
                  rw [← hw8]
                  clear hw8
                  have hq8 := hs0
                  obtain ⟨p8, hp8⟩ : ∃ x, x = (w3).heap.size := ⟨_, rfl⟩
                  rw [← hp8] at l8 hq8 ⊢
                  replace l3 := l3.pure hgl8
                  replace l13 := l13.pure hgl8
                  replace oX := oX.pure hgl8
                  replace oY := oY.pure hgl8
                  replace oZ := oZ.pure hgl8
                  replace hbV := hbV.pure hgl8
                  replace y0 := hgl8.k y0
                  replace y1 := hgl8.k y1
                  replace y2 := hgl8.k y2
                  replace hcur := gr_trans hcur hgl8
                  replace hs0 := Nat.le_trans hs0 hgl8.size
                  clear hp8 hgl8
                  refine tree_e rfl rfl (fun K hK => ?_)
                  refine wp_pushAt (α := Int) _ (.tmp 36) (.tmp 39) _ rfl lo 3 i0 _ 8 Tryz.underlying22 hi0 hzz hi1 hi2 rfl _ _ _ LX rfl rfl oX 0 ⟨p3, 0, none⟩ _ _ [v.x] rfl rfl l3 ?_ ?_ ?_ ?_
                  · simp; omega
                  · simp [maxLen]; omega
                  · exact Nat.le_trans hlo1 hcur.size
                  intro AX4 cX4 w4 oX4 hG4
                  try go_simp
                  refine hK _ _ (hbV.gr hG4.1 (hbV.ne_own oX (by decide))) ?_
                  clear hK K
                  have oY0 := oY
                  have oZ0 := oZ
                  replace hbV := hbV.gr hG4.1 (hbV.ne_own oX (by decide))
                  replace l8 := l8.ne hG4.1 (fun g h1 h2 => by have h3 := bX g h2; have h4 : p8 = g := (by simpa [blk] using h1); omega)
                  replace l13 := l13.ne hG4.1 (fun g h1 h2 => by have h3 := bX g h2; have h4 : p13 = g := (by simpa [blk] using h1); omega)
                  replace y0 := gr_cell hG4.1 y0 (fun h2 => dXl _ h2 rfl)
                  replace y1 := gr_cell hG4.1 y1 (fun h2 => dXl _ h2 rfl)
                  replace y2 := gr_cell hG4.1 y2 (fun h2 => dXl _ h2 rfl)
                  have hcur' := gr_row hcur hG4.1 (fun g h2 => Nat.le_trans hWlo (oX.blk_lt h2).1)
                  replace oY := oY.ne hG4.1 (fun g h1 h2 => dXY g h2 h1)
                  replace oZ := oZ.ne hG4.1 (fun g h1 h2 => dXZ g h2 h1)
                  replace dXY := dXY.grew hG4 (fun g h => (oY0.blk_lt h).2)
                  replace dXZ := dXZ.grew hG4 (fun g h => (oZ0.blk_lt h).2)
                  replace dXl := dXl.grew hG4 (fun g h => by have h4 : xl = g := by simpa [blk] using h
                                                             omega)
                  replace oX := oX4
                  replace hcur := hcur'
                  replace hs0 := Nat.le_trans hs0 hG4.1.size
                  clear hcur' hG4 oX4 l3 oY0 oZ0
                  refine tree_e rfl rfl (fun K hK => ?_)
                  refine wp_pushAt (α := Int) _ (.tmp 41) (.tmp 44) _ rfl lo 3 i0 _ 8 Tryz.underlying22 hi0 hzz hi1 hi2 rfl _ _ _ LY rfl rfl oY 0 ⟨p8, 0, none⟩ _ _ [v.y] rfl rfl l8 ?_ ?_ ?_ ?_
                  · simp; omega
                  · simp [maxLen]; omega
                  · exact Nat.le_trans hlo1 hcur.size
                  intro AY9 cY9 w9 oY9 hG9
                  try go_simp
                  refine hK _ _ (hbV.gr hG9.1 (hbV.ne_own oY (by decide))) ?_
                  clear hK K
                  have oX0 := oX
                  have oZ0 := oZ
                  replace hbV := hbV.gr hG9.1 (hbV.ne_own oY (by decide))
                  replace l13 := l13.ne hG9.1 (fun g h1 h2 => by have h3 := bY g h2; have h4 : p13 = g := (by simpa [blk] using h1); omega)
                  replace y0 := gr_cell hG9.1 y0 (fun h2 => dYl _ h2 rfl)
                  replace y1 := gr_cell hG9.1 y1 (fun h2 => dYl _ h2 rfl)
                  replace y2 := gr_cell hG9.1 y2 (fun h2 => dYl _ h2 rfl)
                  have hcur' := gr_row hcur hG9.1 (fun g h2 => Nat.le_trans hWlo (oY.blk_lt h2).1)
                  replace oX := oX.ne hG9.1 (fun g h1 h2 => dXY g h1 h2)
                  replace oZ := oZ.ne hG9.1 (fun g h1 h2 => dYZ g h2 h1)
                  replace dXY := (dXY.symm.grew hG9 (fun g h => (oX0.blk_lt h).2)).symm
                  replace dYZ := dYZ.grew hG9 (fun g h => (oZ0.blk_lt h).2)
                  replace dYl := dYl.grew hG9 (fun g h => by have h4 : xl = g := by simpa [blk] using h
                                                             omega)
                  replace oY := oY9
                  replace hcur := hcur'
                  replace hs0 := Nat.le_trans hs0 hG9.1.size
                  clear hcur' hG9 oY9 l8 oX0 oZ0
                  refine tree_e0 (by kernel_rfl) rfl rfl (fun K hK => ?_)
                  refine wp_pushAt (α := Int) _ (.tmp 46) (.tmp 49) _ rfl lo 3 i0 _ 8 Tryz.underlying22 hi0 hzz hi1 hi2 rfl _ _ _ LZ rfl rfl oZ 0 ⟨p13, 0, none⟩ _ _ [v.z] rfl rfl l13 ?_ ?_ ?_ ?_
                  · simp; omega
                  · simp [maxLen]; omega
                  · exact Nat.le_trans hlo1 hcur.size
                  intro AZ14 cZ14 w14 oZ14 hG14
                  try go_simp
                  refine hK _ _ trivial ?_
                  clear hK K
                  have oX0 := oX
                  have oY0 := oY
                  replace hbV := hbV.gr hG14.1 (hbV.ne_own oZ (by decide))
                  replace y0 := gr_cell hG14.1 y0 (fun h2 => dZl _ h2 rfl)
                  replace y1 := gr_cell hG14.1 y1 (fun h2 => dZl _ h2 rfl)
                  replace y2 := gr_cell hG14.1 y2 (fun h2 => dZl _ h2 rfl)
                  have hcur' := gr_row hcur hG14.1 (fun g h2 => Nat.le_trans hWlo (oZ.blk_lt h2).1)
                  replace oX := oX.ne hG14.1 (fun g h1 h2 => dXZ g h1 h2)
                  replace oY := oY.ne hG14.1 (fun g h1 h2 => dYZ g h1 h2)
                  replace dXZ := (dXZ.symm.grew hG14 (fun g h => (oX0.blk_lt h).2)).symm
                  replace dYZ := (dYZ.symm.grew hG14 (fun g h => (oY0.blk_lt h).2)).symm
                  replace dZl := dZl.grew hG14 (fun g h => by have h4 : xl = g := by simpa [blk] using h
                                                              omega)
                  replace oZ := oZ14
                  replace hcur := hcur'
                  replace hs0 := Nat.le_trans hs0 hG14.1.size
                  clear hcur' hG14 oZ14 l13 oX0 oY0
                  refine tree_p rfl rfl rfl rfl _ rfl (by simp) (fun K hK => ?_)
                  apply Exists.intro
                  refine ⟨fun wq K' hK' => ?_, ?_⟩
                  · go_wp2_with fail
                    exact hK'
                  go_simp
                  refine hK _ ?_
                  clear hK K
                  refine tree_p rfl rfl rfl rfl _ rfl (by simp) (fun K hK => ?_)
                  apply Exists.intro
                  refine ⟨fun wq K' hK' => ?_, ?_⟩
                  · go_wp2_with fail
                    exact hK'
                  go_simp
                  refine hK _ ?_
                  clear hK K
                  refine tree_p rfl rfl rfl rfl _ rfl (by simp) (fun K hK => ?_)
                  apply Exists.intro
                  refine ⟨fun wq K' hK' => ?_, ?_⟩
                  · go_wp2_with fail
                    exact hK'
                  go_simp
                  refine hK _ ?_
                  clear hK K
                  refine tree_done ?_
                  have hX1 : Hid (LX ++ [v.x] = (cornK vs fs k (j + 1)).map V3.x) := by rw [Hid, hKv.out, List.map_append, ← hX.out]; rfl
                  have hY1 : Hid (LY ++ [v.y] = (cornK vs fs k (j + 1)).map V3.y) := by rw [Hid, hKv.out, List.map_append, ← hY.out]; rfl
                  have hZ1 : Hid (LZ ++ [v.z] = (cornK vs fs k (j + 1)).map V3.z) := by rw [Hid, hKv.out, List.map_append, ← hZ.out]; rfl
                  go_wp2_with fail
                  go_roundw
                  case rel => exact ⟨j + 1, by omega, by go_num, ⟨_, _, LX ++ [v.x], _, _, LY ++ [v.y], _, _, LZ ++ [v.z], by first | rfl | simp, by first | rfl | simp, by first | rfl | simp, hX1, hY1, hZ1, by simp; omega, by simp; omega, by simp; omega, oX, oY, oZ, dXY, dXZ, dYZ, dXl, dYl, dZl⟩, y0, y1, y2, hcur⟩
                  case measure => simp [intOf]; omega
              · refine tree_e rfl rfl (fun K hK => ?_)
                go_wp2_with fail
                try go_simp
                refine hK _ _ (hbV.pure (gr_alloc (World.grownBy.refl _ _) _)) ?_
                clear hK K
                obtain ⟨w8, hw8⟩ : ∃ x, x = (w13).alloc (.cells #[.int .i64 (v.y)] 3) := ⟨_, rfl⟩
                have hgl8 : (w13).grownBy w8 none := by rw [hw8]; exact gr_alloc (World.grownBy.refl _ _) _
                have l8 : Sl w8 0 (some ⟨(w13).heap.size, 0, none⟩) [v.y] := by rw [hw8]; exact sl_int1 _ 3 (v.y) _ rfl
                rw [← hw8]
                clear hw8
                have hq8 := hs0
                obtain ⟨p8, hp8⟩ : ∃ x, x = (w13).heap.size := ⟨_, rfl⟩
                rw [← hp8] at l8 hq8 ⊢
                replace l13 := l13.pure hgl8
                replace oX := oX.pure hgl8
                replace oY := oY.pure hgl8
                replace oZ := oZ.pure hgl8
                replace hbV := hbV.pure hgl8
                replace y0 := hgl8.k y0
                replace y1 := hgl8.k y1
                replace y2 := hgl8.k y2
                replace hcur := gr_trans hcur hgl8
                replace hs0 := Nat.le_trans hs0 hgl8.size
                clear hp8 hgl8
                refine tree_e rfl rfl (fun K hK => ?_)
                go_wp2_with fail
                try go_simp
                refine hK _ _ (hbV.pure (gr_alloc (World.grownBy.refl _ _) _)) ?_
                clear hK K
                obtain ⟨w3, hw3⟩ : ∃ x, x = (w8).alloc (.cells #[.int .i64 (v.x)] 3) := ⟨_, rfl⟩
                have hgl3 : (w8).grownBy w3 none := by rw [hw3]; exact gr_alloc (World.grownBy.refl _ _) _
                have l3 : Sl w3 0 (some ⟨(w8).heap.size, 0, none⟩) [v.x] := by rw [hw3]; exact sl_int1 _ 3 (v.x) _ rfl
                rw [← hw3]
                clear hw3
                have hq3 := hs0
                obtain ⟨p3, hp3⟩ : ∃ x, x = (w8).heap.size := ⟨_, rfl⟩
                rw [← hp3] at l3 hq3 ⊢
                replace l8 := l8.pure hgl3
                replace l13 := l13.pure hgl3
                replace oX := oX.pure hgl3
                replace oY := oY.pure hgl3
                replace oZ := oZ.pure hgl3
                replace hbV := hbV.pure hgl3
                replace y0 := hgl3.k y0
                replace y1 := hgl3.k y1
                replace y2 := hgl3.k y2
                replace hcur := gr_trans hcur hgl3
                replace hs0 := Nat.le_trans hs0 hgl3.size
                clear hp3 hgl3
                refine tree_e rfl rfl (fun K hK => ?_)
                refine wp_pushAt (α := Int) _ (.tmp 36) (.tmp 39) _ rfl lo 3 i0 _ 8 Tryz.underlying22 hi0 hzz hi1 hi2 rfl _ _ _ LX rfl rfl oX 0 ⟨p3, 0, none⟩ _ _ [v.x] rfl rfl l3 ?_ ?_ ?_ ?_
                · simp; omega
                · simp [maxLen]; omega
                · exact Nat.le_trans hlo1 hcur.size
                intro AX4 cX4 w4 oX4 hG4
                try go_simp
                refine hK _ _ (hbV.gr hG4.1 (hbV.ne_own oX (by decide))) ?_
                clear hK K
                have oY0 := oY
                have oZ0 := oZ
                replace hbV := hbV.gr hG4.1 (hbV.ne_own oX (by decide))
                replace l8 := l8.ne hG4.1 (fun g h1 h2 => by have h3 := bX g h2; have h4 : p8 = g := (by simpa [blk] using h1); omega)
                replace l13 := l13.ne hG4.1 (fun g h1 h2 => by have h3 := bX g h2; have h4 : p13 = g := (by simpa [blk] using h1); omega)
                replace y0 := gr_cell hG4.1 y0 (fun h2 => dXl _ h2 rfl)
                replace y1 := gr_cell hG4.1 y1 (fun h2 => dXl _ h2 rfl)
                replace y2 := gr_cell hG4.1 y2 (fun h2 => dXl _ h2 rfl)
                have hcur' := gr_row hcur hG4.1 (fun g h2 => Nat.le_trans hWlo (oX.blk_lt h2).1)
                replace oY := oY.ne hG4.1 (fun g h1 h2 => dXY g h2 h1)
                replace oZ := oZ.ne hG4.1 (fun g h1 h2 => dXZ g h2 h1)
                replace dXY := dXY.grew hG4 (fun g h => (oY0.blk_lt h).2)
                replace dXZ := dXZ.grew hG4 (fun g h => (oZ0.blk_lt h).2)
                replace dXl := dXl.grew hG4 (fun g h => by have h4 : xl = g := by simpa [blk] using h
                                                           omega)
                replace oX := oX4
                replace hcur := hcur'
                replace hs0 := Nat.le_trans hs0 hG4.1.size
                clear hcur' hG4 oX4 l3 oY0 oZ0
                refine tree_e rfl rfl (fun K hK => ?_)
                refine wp_pushAt (α := Int) _ (.tmp 41) (.tmp 44) _ rfl lo 3 i0 _ 8 Tryz.underlying22 hi0 hzz hi1 hi2 rfl _ _ _ LY rfl rfl oY 0 ⟨p8, 0, none⟩ _ _ [v.y] rfl rfl l8 ?_ ?_ ?_ ?_
                · simp; omega
                · simp [maxLen]; omega
                · exact Nat.le_trans hlo1 hcur.size
                intro AY9 cY9 w9 oY9 hG9
                try go_simp
                refine hK _ _ (hbV.gr hG9.1 (hbV.ne_own oY (by decide))) ?_
                clear hK K
                have oX0 := oX
                have oZ0 := oZ
                replace hbV := hbV.gr hG9.1 (hbV.ne_own oY (by decide))
                replace l13 := l13.ne hG9.1 (fun g h1 h2 => by have h3 := bY g h2; have h4 : p13 = g := (by simpa [blk] using h1); omega)
                replace y0 := gr_cell hG9.1 y0 (fun h2 => dYl _ h2 rfl)
                replace y1 := gr_cell hG9.1 y1 (fun h2 => dYl _ h2 rfl)
                replace y2 := gr_cell hG9.1 y2 (fun h2 => dYl _ h2 rfl)
                have hcur' := gr_row hcur hG9.1 (fun g h2 => Nat.le_trans hWlo (oY.blk_lt h2).1)
                replace oX := oX.ne hG9.1 (fun g h1 h2 => dXY g h1 h2)
                replace oZ := oZ.ne hG9.1 (fun g h1 h2 => dYZ g h2 h1)
                replace dXY := (dXY.symm.grew hG9 (fun g h => (oX0.blk_lt h).2)).symm
                replace dYZ := dYZ.grew hG9 (fun g h => (oZ0.blk_lt h).2)
                replace dYl := dYl.grew hG9 (fun g h => by have h4 : xl = g := by simpa [blk] using h
                                                           omega)
                replace oY := oY9
                replace hcur := hcur'
                replace hs0 := Nat.le_trans hs0 hG9.1.size
                clear hcur' hG9 oY9 l8 oX0 oZ0
                refine tree_e0 (by kernel_rfl) rfl rfl (fun K hK => ?_)
                refine wp_pushAt (α := Int) _ (.tmp 46) (.tmp 49) _ rfl lo 3 i0 _ 8 Tryz.underlying22 hi0 hzz hi1 hi2 rfl _ _ _ LZ rfl rfl oZ 0 ⟨p13, 0, none⟩ _ _ [v.z] rfl rfl l13 ?_ ?_ ?_ ?_
                · simp; omega
                · simp [maxLen]; omega
                · exact Nat.le_trans hlo1 hcur.size
                intro AZ14 cZ14 w14 oZ14 hG14
                try go_simp
                refine hK _ _ trivial ?_
                clear hK K
                have oX0 := oX
                have oY0 := oY
                replace hbV := hbV.gr hG14.1 (hbV.ne_own oZ (by decide))
                replace y0 := gr_cell hG14.1 y0 (fun h2 => dZl _ h2 rfl)
                replace y1 := gr_cell hG14.1 y1 (fun h2 => dZl _ h2 rfl)
                replace y2 := gr_cell hG14.1 y2 (fun h2 => dZl _ h2 rfl)
                have hcur' := gr_row hcur hG14.1 (fun g h2 => Nat.le_trans hWlo (oZ.blk_lt h2).1)
                replace oX := oX.ne hG14.1 (fun g h1 h2 => dXZ g h1 h2)
                replace oY := oY.ne hG14.1 (fun g h1 h2 => dYZ g h1 h2)
                replace dXZ := (dXZ.symm.grew hG14 (fun g h => (oX0.blk_lt h).2)).symm
                replace dYZ := (dYZ.symm.grew hG14 (fun g h => (oY0.blk_lt h).2)).symm
                replace dZl := dZl.grew hG14 (fun g h => by have h4 : xl = g := by simpa [blk] using h
                                                            omega)
                replace oZ := oZ14
                replace hcur := hcur'
                replace hs0 := Nat.le_trans hs0 hG14.1.size
                clear hcur' hG14 oZ14 l13 oX0 oY0
                refine tree_p rfl rfl rfl rfl _ rfl (by simp) (fun K hK => ?_)
                apply Exists.intro
                refine ⟨fun wq K' hK' => ?_, ?_⟩
                · go_wp2_with fail
                  exact hK'
                go_simp
                refine hK _ ?_
                clear hK K
                refine tree_p rfl rfl rfl rfl _ rfl (by simp) (fun K hK => ?_)
                apply Exists.intro
                refine ⟨fun wq K' hK' => ?_, ?_⟩
                · go_wp2_with fail
                  exact hK'
                go_simp
                refine hK _ ?_
                clear hK K
                refine tree_p rfl rfl rfl rfl _ rfl (by simp) (fun K hK => ?_)
                apply Exists.intro
                refine ⟨fun wq K' hK' => ?_, ?_⟩
                · go_wp2_with fail
                  exact hK'
                go_simp
                refine hK _ ?_
                clear hK K
                refine tree_done ?_
                have hX1 : Hid (LX ++ [v.x] = (cornK vs fs k (j + 1)).map V3.x) := by rw [Hid, hKv.out, List.map_append, ← hX.out]; rfl
                have hY1 : Hid (LY ++ [v.y] = (cornK vs fs k (j + 1)).map V3.y) := by rw [Hid, hKv.out, List.map_append, ← hY.out]; rfl
                have hZ1 : Hid (LZ ++ [v.z] = (cornK vs fs k (j + 1)).map V3.z) := by rw [Hid, hKv.out, List.map_append, ← hZ.out]; rfl
                go_wp2_with fail
                go_roundw
                case rel => exact ⟨j + 1, by omega, by go_num, ⟨_, _, LX ++ [v.x], _, _, LY ++ [v.y], _, _, LZ ++ [v.z], by first | rfl | simp, by first | rfl | simp, by first | rfl | simp, hX1, hY1, hZ1, by simp; omega, by simp; omega, by simp; omega, oX, oY, oZ, dXY, dXZ, dYZ, dXl, dYl, dZl⟩, y0, y1, y2, hcur⟩
                case measure => simp [intOf]; omega
        · have hj3 : j = 3 := by omega
          subst hj3
          go_wp2_with fail
          (go_roundw; (case rel => exact ⟨k + 1, by omega, by go_num, hT.none_ hK3.out (by omega), hgx⟩); (case measure => simp [intOf]; omega))
    · have hke : k = fs.length := by omega
      subst hke
      rw [cornK_all] at hT
      obtain ⟨AX, cX, LX, AY, cY, LY, AZ, cZ, LZ, rfl, rfl, rfl, hX, hY, hZ, -, -, -, oX, oY, oZ, -, -, -, -, -, -⟩ := hT
      have n1 : LX ≠ [] := by rw [hX.out]; simpa using hne.out
      have n2 : LY ≠ [] := by rw [hY.out]; simpa using hne.out
      have n3 : LZ ≠ [] := by rw [hZ.out]; simpa using hne.out
      have sX := oX.sl.mono (Nat.zero_le lo)
      have sY := oY.sl.mono (Nat.zero_le lo)
      have sZ := oZ.sl.mono (Nat.zero_le lo)
      replace hL := hL.gr hgx (by simp)
      replace hH := hH.gr hgx (by simp)
      have hg := gr_trans hgW hgx
      have h3r := Nat.lt_of_lt_of_le h3W hgx.size
      clear oX oY oZ z0 z1 hgx
      go_upto_region 12 with fail
      go_wp2_with fail
      refine (minL_any AX cX LX _ sX n1).mono ?_
      rintro e w' ⟨a1, rfl, m1, rfl⟩
      go_wp2_with fail
      refine (minL_any AY cY LY _ sY n2).mono ?_
      rintro e w' ⟨a2, rfl, m2, rfl⟩
      go_wp2_with fail
      refine (minL_any AZ cZ LZ _ sZ n3).mono ?_
      rintro e w' ⟨a3, rfl, m3, rfl⟩
      go_wp2_with fail
      refine (maxL_any AX cX LX _ sX n1).mono ?_
      rintro e w' ⟨a4, rfl, m4, rfl⟩
      go_wp2_with fail
      refine (maxL_any AY cY LY _ sY n2).mono ?_
      rintro e w' ⟨a5, rfl, m5, rfl⟩
      go_wp2_with fail
      refine (maxL_any AZ cZ LZ _ sZ n3).mono ?_
      rintro e w9 ⟨a6, rfl, m6, rfl⟩
      clear sX sY sZ n1 n2 n3
      have hL' := hL
      have hH' := hH
      obtain ⟨⟨k0, f0⟩, ⟨k1, f1⟩, ⟨k2, f2⟩⟩ := hL'
      obtain ⟨⟨j0, e0⟩, ⟨j1, e1⟩, ⟨j2, e2⟩⟩ := hH'
      go_wp2_with fail
      clear k0 f0 k1 f1 k2 f2 j0 e0 j1 e1 j2 e2
      have s2 := gr_set3 (w := w9) x2 (.int .i64 a1) (.int .i64 a2) (.int .i64 a3)
      have hL2 := hL.set ⟨a1, a2, a3⟩
      have hH2 := hH.gr s2 (by intro e; injection e; omega)
      have hg2 := gr_new hg s2 hw2
      simp only at hL2
      generalize ((w9.setCell ⟨x2, 0, none⟩ (.int .i64 a1)).setCell ⟨x2, 1, none⟩ (.int .i64 a2)).setCell ⟨x2, 2, none⟩ (.int .i64 a3) = w2 at *
      have s3 := gr_set3 (w := w2) x3 (.int .i64 a4) (.int .i64 a5) (.int .i64 a6)
      have hH3 := hH2.set ⟨a4, a5, a6⟩
      have hL3 := hL2.gr s3 (by intro e; injection e; omega)
      have hg3 := gr_new hg2 s3 (by omega)
      simp only at hH3
      generalize ((w2.setCell ⟨x3, 0, none⟩ (.int .i64 a4)).setCell ⟨x3, 1, none⟩ (.int .i64 a5)).setCell ⟨x3, 2, none⟩ (.int .i64 a6) = w3 at *
      obtain ⟨⟨k0, f0⟩, ⟨k1, f1⟩, ⟨k2, f2⟩⟩ := hL3
      obtain ⟨⟨j0, e0⟩, ⟨j1, e1⟩, ⟨j2, e2⟩⟩ := hH3
      rw [hX.out] at m1 m4
      rw [hY.out] at m2 m5
      rw [hZ.out] at m3 m6
      exact bodyPost_ret (v := .tuple #[.agg #[.int .i64 a1, .int .i64 a2, .int .i64 a3], .agg #[.int .i64 a4, .int .i64 a5, .int .i64 a6]]) (by simp [results, Tryz.results15, go_sem, k0, k1, k2, j0, j1, j2, f0, f1, f2, e0, e1, e2]) rfl ⟨⟨a1, a2, a3⟩, ⟨a4, a5, a6⟩, rfl, ⟨m1, m2, m3, m4, m5, m6⟩, hg3⟩

end Go.Proofs.YtkcchcnljanloaaGreat

/- Contracts of functions that this seat's laws reach, each: what one call returns and what it leaves in memory; no condition beyond each theorem's own hypotheses. -/
import Derived.Test.YtoldefommoiiiaaGreatDoorZqRegTxC
import Derived.Test.YtoldefommoiiiaaGreatDoorZqChgA
set_option linter.unusedVariables false
set_option linter.unusedSimpArgs false
namespace Go.Proofs.YtoldefommoiiiaaGreatDoor
open Go Go.RowKit Go.Bl

/-- the state of the reader: block xo holds the row of the paths read so far -/
def RdG (W0 : World) (xo lo k : Nat) (st : List (List Pt)) (w : World) : Prop := ∃ (A : Option Addr) (c : Nat) (raws : List RawS), RowsN w lo lo 29 45 A c raws st ∧ Box w xo 26 [.slice A raws.length c] ∧ raws.length ≤ k ∧ st.flatten.length ≤ k ∧ W0.grownBy w none ∧ W0.heap.size ≤ xo ∧ xo < lo ∧ lo ≤ w.heap.size

theorem RdG.gr {W0 : World} {xo lo k : Nat} {st : List (List Pt)} {w : World} (h : RdG W0 xo lo k st w) : W0.grownBy w none := by
  obtain ⟨A, c, raws, _, _, _, _, q, _⟩ := h; exact q

theorem RdG.up {W0 : World} {xo lo k : Nat} {st : List (List Pt)} {w w' : World} (h : RdG W0 xo lo k st w) (hg : w.grownBy w' none) : RdG W0 xo lo k st w' := by
  obtain ⟨A, c, raws, q1, q2, q3, q4, q5, q6, q7, q8⟩ := h
  exact ⟨A, c, raws, q1.pure hg, q2.pure hg, q3, q4, q5.t hg, q6, q7, Nat.le_trans q8 hg.size⟩

theorem RdG.more {W0 : World} {xo lo k n : Nat} {st : List (List Pt)} {w : World} (h : RdG W0 xo lo k st w) (hk : k ≤ n) : RdG W0 xo lo n st w := by
  obtain ⟨A, c, raws, q1, q2, q3, q4, q5⟩ := h
  exact ⟨A, c, raws, q1, q2, by omega, by omega, q5⟩
/-- what the looks of the append read -/
def RgC (g2 n x4 xo : Nat) (v u b0 b1 : Value) (wx : World) : Prop := wx.cell? ⟨g2, n, none⟩ = some u ∧ wx.cell? ⟨x4, 0, none⟩ = some b0 ∧ wx.cell? ⟨x4, 1, none⟩ = some b1 ∧ wx.cell? ⟨xo, 0, none⟩ = some v

theorem RgC.k {g2 n x4 xo : Nat} {v u b0 b1 : Value} {w w' : World} (h : RgC g2 n x4 xo v u b0 b1 w) (hg : w.grownBy w' none) : RgC g2 n x4 xo v u b0 b1 w' := ⟨hg.k h.1, hg.k h.2.1, hg.k h.2.2.1, hg.k h.2.2.2⟩

set_option maxHeartbeats 4000000 in
set_option maxRecDepth 100000 in
theorem rdgClo_any (W0 : World) (xo lo k : Nat) (st : List (List Pt)) (x : ByteArray) (w : World) (hS : RdG W0 xo lo k st w) (hx : x.size ≤ 200000) (hk : k ≤ 300000) (hT : Tab W0) :
    Calls Tryz.prog 54 #[.string x, .pointer (some ⟨xo, 0, none⟩)] w fun e w' => e = .returned (.bool (stepR st x.data.toList).isSome) ∧ (∀ st', stepR st x.data.toList = some st' → RdG W0 xo lo (k + 1) st' w') ∧ W0.grownBy w' none := by
  obtain ⟨A2, c2, raws, hRow, hbox, hrk, hpl, hg, h0, hxl, hlo⟩ := hS
  obtain ⟨i0, hi, hz, h1, h2⟩ := info_parts info_ring
  obtain ⟨y0, y1⟩ := hbox.c 0 rfl
  replace hpl := hide hpl
  by_cases hxo : x.data.toList = ringT
  · have so : (x.toList == [114, 105, 110, 103]) = true := by rw [Lib.toList_data, hxo]; rfl
    have hxe : x.data.toList = ringT := hxo
    clear hxo
    have hst' : stepR st x.data.toList = some (st ++ [[]]) := by rw [hxe]; exact stepR_head st
    rw [hst']
    replace hst' := hide hst'
    replace hxe := hide hxe
    go_enter Tryz.func54, Tryz.ntmps54
    go_wp2_with (at_builtin; refine wpList_pushAt (α := RawS) _ rfl (.tmp 8) (.tmp 9) _ rfl lo 29 i0 _ 24 Tryz.underlying26 hi hz h1 h2 rfl _ _ _ raws rfl rfl ((hRow.pure (gr_alloc (World.grownBy.refl w none) _)).out) 0 ⟨_, 0, none⟩ 1 1 [⟨none, 0, 0⟩] rfl rfl (sl_oneAt _ 0 [.slice none 0 0] _ _ _ (by first | rfl | simp) (Nat.zero_le _) rfl) ?c2 ?c3 ?c4 ?_)
    case c2 => simp; omega
    case c3 => simp [maxLen]; omega
    case c4 => simp; omega
    intro A5 c5 w5 hown5 hG5
    have hga := gr_alloc (World.grownBy.refl w none) (.cells #[.slice none 0 0] 29)
    have hRow5 := RowsN.push (hRow.pure hga) hown5 hG5
    have hbox5 := (hbox.pure hga).gr hG5.1 (fun e => by have := (hRow.out.blk_lt e).1; omega)
    have hg5 := gr_row (hg.t hga) hG5.1 (fun g hgg => by have := (hRow.out.blk_lt hgg).1; omega)
    have hl5 : raws.length + 1 = (raws ++ [(⟨none, 0, 0⟩ : RawS)]).length := by simp
    obtain ⟨z0, z1⟩ := hbox5.c 0 rfl
    have hboxF := hbox5.set_ 0 (.slice A5 (raws ++ [(⟨none, 0, 0⟩ : RawS)]).length c5) (by simp)
    have hgs := gr_set (World.grownBy.refl w5 (some xo)) (p := ⟨xo, 0, none⟩) (.inl rfl) (.slice A5 (raws ++ [(⟨none, 0, 0⟩ : RawS)]).length c5)
    have hRowF := hRow5.gr hgs (fun g e => by injection e; omega)
    have hgF := gr_row hg5 hgs (fun g e => by injection e; omega)
    have hszF : lo ≤ (w5.setCell ⟨xo, 0, none⟩ (.slice A5 (raws ++ [(⟨none, 0, 0⟩ : RawS)]).length c5)).heap.size := by have := hgF.size; have := (hga.size); have := hG5.1.size; have := hgs.size; omega
    rw [← hl5] at hboxF hgF hRowF hszF
    replace hboxF := hide hboxF
    replace hgF := hide hgF
    replace hRowF := hide hRowF
    replace hszF := hide hszF
    replace hl5 := hide hl5
    clear hown5 hG5 hRow hRow5 hbox5 hg5 hbox hga hgs
    go_wp2_with fail
    go_ret
    refine ⟨rfl, fun st2 e => ?_, hgF.out⟩
    injection e with e
    subst e
    exact ⟨A5, c5, _, hRowF.out, by rw [← hl5.out]; exact hboxF.out, by rw [← hl5.out]; omega, by have := hpl.out; simp only [List.flatten_append, List.flatten_cons, List.flatten_nil, List.append_nil]; omega, hgF.out, h0, hxl, hszF.out⟩
  · have so : (x.toList == [114, 105, 110, 103]) = false := by rw [Lib.toList_data]; exact beq_eq_false_iff_ne.2 hxo
    skip
    · have hstep : stepR st x.data.toList = match ptOf x.data.toList with
        | some q => if st = [] then none else some (addR st q)
        | none => none := by
        rw [stepR_eq, if_neg hxo]
        rfl
      clear hxo
      have hPI := pointIn_any x w hx (hT.gr hg)
      obtain ⟨O, hO⟩ : ∃ O, ptOf x.data.toList = O := ⟨_, rfl⟩
      rw [hO] at hPI hstep
      clear hO
      rcases O with _ | q
      · rw [hstep]
        clear hstep hRow
        go_enter Tryz.func54, Tryz.ntmps54
        go_wp2_with fail
        refine hPI.mono ?_
        rintro e w2 ⟨q', rfl, -, hg2⟩
        clear hPI
        go_wp2_with fail
        all_goals (go_ret; exact ⟨rfl, (fun st2 e => by cases e), gr_alloc (hg.t hg2) _⟩)
      · by_cases hr0 : raws.length = 0
        · have hst0 : st = [] := List.eq_nil_of_length_eq_zero (by rw [← hRow.len]; exact hr0)
          have hsn : stepR st x.data.toList = none := by rw [hstep]; simp only [if_pos hst0]
          rw [hsn]
          have hb0 : ((raws.length : Int) == 0) = true := by rw [hr0]; rfl
          replace hr0 := hide hr0
          clear hstep hRow hst0 hsn
          go_enter Tryz.func54, Tryz.ntmps54
          go_wp2_with fail
          refine hPI.mono ?_
          rintro e w2 ⟨q', rfl, -, hg2⟩
          clear hPI
          obtain ⟨y2, y3⟩ := ((hbox.pure hg2).pure (gr_alloc (World.grownBy.refl w2 none) (.cells #[.int .i64 q'.x, .int .i64 q'.y] 45))).c 0 rfl
          go_wp2_with fail
          all_goals (go_ret; exact ⟨rfl, (fun st2 e => by cases e), gr_alloc (hg.t hg2) _⟩)
        · obtain ⟨n, hn⟩ : ∃ n, raws.length = n + 1 := ⟨raws.length - 1, by omega⟩
          have hsl : n + 1 = st.length := by rw [← hRow.len, hn]
          have hst0 : st ≠ [] := by intro e; rw [e] at hsl; simp at hsl
          have hstp : stepR st x.data.toList = some (addR st q) := by rw [hstep]; simp only [if_neg hst0]
          rw [addR_set hsl] at hstp
          rw [hstp]
          have hkn : (raws.length : Int) - 1 = (n : Int) := by omega
          have hge : (1 : Int) ≤ raws.length := by omega
          have hb0 : ((raws.length : Int) == 0) = false := by rw [beq_eq_false_iff_ne]; omega
          have hnl : n < raws.length := by omega
          have hnl2 : n < st.length := by omega
          obtain ⟨g2, rfl, hgl2, hgr2⟩ := hRow.out.shape (by omega)
          have hptl := Nat.le_trans (flat_mem (List.getElem_mem hnl2)) hpl.out
          obtain ⟨j0, hj, hjz, j1, j2⟩ := info_parts info_pt
          replace hn := hide hn
          replace hsl := hide hsl
          replace hst0 := hide hst0
          replace hstp := hide hstp
          clear hr0 hstep
          go_enter Tryz.func54, Tryz.ntmps54
          go_wp2_with fail
          refine hPI.mono ?_
          rintro e w2 ⟨q', rfl, hqv, hg2⟩
          obtain rfl : q' = q := hqv q rfl
          clear hPI hqv
          go_upto_region 5 with fail
          obtain ⟨w4, hw4⟩ : ∃ x, x = (w2).alloc (.cells [.int .i64 q'.x, .int .i64 q'.y].toArray 45) := ⟨_, rfl⟩
          have hg4 : (w2).grownBy w4 none := by rw [hw4]; exact gr_alloc (World.grownBy.refl _ _) _
          have hb4 : Box w4 (w2).heap.size 45 [.int .i64 q'.x, .int .i64 q'.y] := by rw [hw4]; exact Box.new _ _ _
          have hxs4 := hb4.lt
          rw [← hw4]
          clear hw4
          obtain ⟨x4, hx4⟩ : ∃ x, x = (w2).heap.size := ⟨_, rfl⟩
          rw [← hx4] at hb4 hxs4 ⊢
          have hxl4 : (w2).heap.size ≤ x4 := by omega
          clear hx4
          have hg24 := hg2.t hg4
          have hRow4 := hRow.pure hg24
          have hbox4 := hbox.pure hg24
          obtain ⟨y2, y3⟩ := hbox4.c 0 rfl
          obtain ⟨b0, _⟩ := hb4.c 0 rfl
          obtain ⟨b1, _⟩ := hb4.c 1 rfl
          have u0 := RowsN.cell hRow4 hnl
          have uf := hRow4.out.frozen n
          obtain ⟨hin, hinO⟩ := hRow4.ins n hnl hnl2
          have hinW := (hRow.ins n hnl hnl2).2
          have hC0 : RgC g2 n x4 xo (.slice (some ⟨g2, 0, none⟩) raws.length c2) (.slice raws[n].A raws[n].n raws[n].c) (.int .i64 q'.x) (.int .i64 q'.y) w4 := ⟨u0, b0, b1, y2⟩
          go_wp2_with fail
          refine wp_region_tree (RgC g2 n x4 xo (.slice (some ⟨g2, 0, none⟩) raws.length c2) (.slice raws[n].A raws[n].n raws[n].c) (.int .i64 q'.x) (.int .i64 q'.y)) [1, 1, 2, 2, 1, 1, 2, 2, 2, 1, 1, 0, 0, 2, 0] (.bl 0 (.bl 1 (.bl 2 (.bl 3 (.bl 4 (.bl 5 (.bl 6 (.bl 7 (.bl 8 (.bl 9 (.bl 10 (.ef 11 (.ef 12 (.bl 13 (.ef 14 .done))))))))))))))) (by kernel_rfl) (by kernel_rfl) (hC0.k (gr_drew (World.grownBy.refl _ _))) ?_
          obtain ⟨W1, hW1⟩ : ∃ x, x = (w4).drew := ⟨_, rfl⟩
          rw [← hW1]
          have hgW1 : (w4).grownBy W1 none := by rw [hW1]; exact gr_drew (World.grownBy.refl _ _)
          clear hW1
          refine tree_b rfl rfl rfl rfl _ rfl (by simp) (fun K hK => ?_)
          apply Exists.intro
          refine ⟨fun wq hq K' hK' => ?_, ?_⟩
          · obtain ⟨v0, v1, v2, v3⟩ := hq
            go_wp2_with fail
            exact hK'
          go_simp
          refine hK _ ?_
          clear hK K
          refine tree_b rfl rfl rfl rfl _ rfl (by simp) (fun K hK => ?_)
          apply Exists.intro
          refine ⟨fun wq hq K' hK' => ?_, ?_⟩
          · obtain ⟨v0, v1, v2, v3⟩ := hq
            go_wp2_with fail
            exact hK'
          go_simp
          refine hK _ ?_
          clear hK K
          refine tree_p rfl rfl rfl rfl _ rfl (by simp) (fun K hK => ?_)
          apply Exists.intro
          refine ⟨fun wq K' hK' => ?_, ?_⟩
          · go_wp2_with fail
            exact hK'
          go_simp
          refine hK _ ?_
          clear hK K
          refine tree_p rfl rfl rfl rfl _ rfl (by simp) (fun K hK => ?_)
          apply Exists.intro
          refine ⟨fun wq K' hK' => ?_, ?_⟩
          · go_wp2_with fail
            exact hK'
          go_simp
          refine hK _ ?_
          clear hK K
          refine tree_b rfl rfl rfl rfl _ rfl (by simp) (fun K hK => ?_)
          apply Exists.intro
          refine ⟨fun wq hq K' hK' => ?_, ?_⟩
          · obtain ⟨v0, v1, v2, v3⟩ := hq
            go_wp2_with fail
            exact hK'
          go_simp
          refine hK _ ?_
          clear hK K
          refine tree_b rfl rfl rfl rfl _ rfl (by simp) (fun K hK => ?_)
          apply Exists.intro
          refine ⟨fun wq hq K' hK' => ?_, ?_⟩
          · obtain ⟨v0, v1, v2, v3⟩ := hq
            go_wp2_with fail
            exact hK'
          go_simp
          refine hK _ ?_
          clear hK K
          refine tree_p rfl rfl rfl rfl _ rfl (by simp) (fun K hK => ?_)
          apply Exists.intro
          refine ⟨fun wq K' hK' => ?_, ?_⟩
          · go_wp2_with fail
            exact hK'
          go_simp
          refine hK _ ?_
          clear hK K
          refine tree_p rfl rfl rfl rfl _ rfl (by simp) (fun K hK => ?_)
          apply Exists.intro
          refine ⟨fun wq K' hK' => ?_, ?_⟩
          · go_wp2_with fail
            exact hK'
          go_simp
          refine hK _ ?_
          clear hK K
          refine tree_p rfl rfl rfl rfl _ rfl (by simp) (fun K hK => ?_)
          apply Exists.intro
          refine ⟨fun wq K' hK' => ?_, ?_⟩
          · go_wp2_with fail
            exact hK'
          go_simp
          refine hK _ ?_
          clear hK K
          refine tree_b rfl rfl rfl rfl _ rfl (by simp) (fun K hK => ?_)
          apply Exists.intro
          refine ⟨fun wq hq K' hK' => ?_, ?_⟩
          · obtain ⟨v0, v1, v2, v3⟩ := hq
            go_wp2_with fail
            exact hK'
          go_simp
          refine hK _ ?_
          clear hK K
          refine tree_b rfl rfl rfl rfl _ rfl (by simp) (fun K hK => ?_)
          apply Exists.intro
          refine ⟨fun wq hq K' hK' => ?_, ?_⟩
          · obtain ⟨v0, v1, v2, v3⟩ := hq
            go_wp2_with fail
            exact hK'
          go_simp
          refine hK _ ?_
          clear hK K
          refine tree_e rfl rfl (fun K hK => ?_)
          go_wp2_with fail
          try go_simp
          refine hK _ _ (hC0.k (gr_alloc (gr_trans hgW1 (World.grownBy.refl _ _)) _)) ?_
          clear hK K
          obtain ⟨w88, hw88⟩ : ∃ x, x = (W1).alloc (.cells [.int .i64 q'.x, .int .i64 q'.y].toArray 45) := ⟨_, rfl⟩
          have hg88 : (W1).grownBy w88 none := by rw [hw88]; exact gr_alloc (World.grownBy.refl _ _) _
          have hb88 : Box w88 (W1).heap.size 45 [.int .i64 q'.x, .int .i64 q'.y] := by rw [hw88]; exact Box.new _ _ _
          rw [← hw88]
          clear hw88
          obtain ⟨x88, hx88⟩ : ∃ x, x = (W1).heap.size := ⟨_, rfl⟩
          rw [← hx88] at hb88 ⊢
          have hxl88 : (W1).heap.size ≤ x88 := by omega
          clear hx88
          have hg488 : w4.grownBy w88 none := gr_trans hgW1 hg88
          have hRow88 := hRow4.pure hg488
          have hin88 := hinO.pure hg488
          have hbox88 := hbox4.pure hg488
          refine tree_e rfl rfl (fun K hK => ?_)
          refine wp_pushAt (α := Pt) _ (.tmp 32) (.tmp 34) _ rfl lo 45 j0 _ 16 Tryz.underlying28 hj hjz j1 j2 rfl _ _ _ st[n] rfl (by first | rfl | exact hin) hin88 0 ⟨x88, 0, none⟩ _ _ [q'] rfl rfl (hb88.sl ⟨_, [], rfl, rfl, rfl⟩ (Nat.zero_le _) (by simp [maxLen])) ?_ ?_ ?_ ?_
          · simp; omega
          · simp [maxLen]; omega
          · have := (hg24.t hg488).size; omega
          intro A5 c5 w5 hown5 hG5
          have hOut5 := RowsN.outer hRow88 hnl hG5
          have hb45 := (hb4.pure hg488).gr hG5.1 (fun e => by have := (hinW.blk_lt e).2; have := hg2.size; omega)
          have q0 : w5.cell? ⟨g2, n, none⟩ = some (.slice raws[n].A raws[n].n raws[n].c) := by
            obtain ⟨c1, rfl, hc⟩ := hOut5.cell_at (by decide) hnl
            have := hc 0 _ rfl
            rwa [show Enc.sz RawS = 1 from rfl, Nat.mul_one] at this
          have qf := hOut5.frozen n
          have hC5 : RgC g2 n x4 xo (.slice (some ⟨g2, 0, none⟩) raws.length c2) (.slice raws[n].A raws[n].n raws[n].c) (.int .i64 q'.x) (.int .i64 q'.y) w5 := ⟨q0, (hb45.c 0 rfl).1, (hb45.c 1 rfl).1, ((hbox88.gr hG5.1 (fun e => by have := (hinW.blk_lt e).1; omega)).c 0 rfl).1⟩
          replace hC5 := hide hC5
          have hRowF := RowsN.put hRow88 hnl hown5 hG5
          have hblk : ∀ g, blk raws[n].A = some g → lo ≤ g := fun g hgg => (hinO.blk_lt hgg).1
          have hbox5 := (hbox88.gr hG5.1 (fun e => by have := hblk _ e; omega)).set_other (g' := g2) (i := n) (.slice A5 (st[n] ++ [q']).length c5) (by omega)
          have hgF := gr_set (gr_row (hg.t (hg24.t hg488)) hG5.1 (fun g hgg => by have := hblk g hgg; omega)) (p := ⟨g2, n, none⟩) (.inr (by simp only; omega)) (.slice A5 (st[n] ++ [q']).length c5)
          have hszF : lo ≤ (w5.setCell ⟨g2, n, none⟩ (.slice A5 (st[n] ++ [q']).length c5)).heap.size := by
            have h5 := hG5.1.size
            have h6 := (hg24.t hg488).size
            have h7 := (gr_set (World.grownBy.refl w5 (some g2)) (p := ⟨g2, n, none⟩) (.inl rfl) (.slice A5 (st[n] ++ [q']).length c5)).size
            omega
          have hlen5 : (st[n] ++ [q']).length = st[n].length + 1 := by simp
          rw [hlen5] at hRowF hgF hbox5 hszF
          have hpl5 : (st.set n (st[n] ++ [q'])).flatten.length ≤ k + 1 := by rw [flat_set hnl2]; have := hpl.out; omega
          replace hRowF := hide hRowF
          replace hgF := hide hgF
          replace hbox5 := hide hbox5
          replace hpl5 := hide hpl5
          replace hszF := hide hszF
          clear hOut5 hlen5
          try go_simp
          refine hK _ _ (hC5.out) ?_
          clear hK K
          refine tree_p rfl rfl rfl rfl _ rfl (by simp) (fun K hK => ?_)
          apply Exists.intro
          refine ⟨fun wq K' hK' => ?_, ?_⟩
          · go_wp2_with fail
            exact hK'
          go_simp
          refine hK _ ?_
          clear hK K
          refine tree_e0 (by kernel_rfl) rfl rfl (fun K hK => ?_)
          go_wp2_with fail
          try go_simp
          refine hK _ _ trivial ?_
          clear hK K
          refine tree_done ?_
          go_wp2_with fail
          go_ret
          refine ⟨rfl, fun st2 e => ?_, hgF.out⟩
          injection e with e
          subst e
          exact ⟨some ⟨g2, 0, none⟩, c2, _, hRowF.out, by rw [List.length_set]; exact hbox5.out, by rw [List.length_set]; omega, hpl5.out, hgF.out, h0, hxl, hszF.out⟩

end Go.Proofs.YtoldefommoiiiaaGreatDoor

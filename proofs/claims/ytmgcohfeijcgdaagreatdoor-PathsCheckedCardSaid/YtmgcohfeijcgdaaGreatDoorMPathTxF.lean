/- Contracts of functions that this seat's laws reach, each: what one call returns and what it leaves in memory; no condition beyond each theorem's own hypotheses. -/
import Derived.Test.YtmgcohfeijcgdaaGreatDoorMPathTxC
import Derived.Test.YtmgcohfeijcgdaaGreatDoorMChgA
import Derived.Test.YtmgcohfeijcgdaaGreatDoorMPathE
set_option linter.unusedVariables false
set_option linter.unusedSimpArgs false
namespace Go.Proofs.YtmgcohfeijcgdaaGreatDoor
open Go Go.RowKit Go.Bl

/-- the state of the reader: block xo holds the row of the paths read so far -/
def RdS (W0 : World) (xo lo k : Nat) (st : List PathV) (w : World) : Prop := ∃ (A : Option Addr) (c : Nat) (raws : List RawP), RowsP w lo lo 47 50 A c raws st ∧ Box w xo 26 [.slice A raws.length c] ∧ raws.length ≤ k ∧ (∀ p ∈ st, p.pts.length ≤ k) ∧ W0.grownBy w none ∧ W0.heap.size ≤ xo ∧ xo < lo ∧ lo ≤ w.heap.size

set_option maxHeartbeats 4000000 in
set_option maxRecDepth 100000 in
theorem rdClo_any (W0 : World) (xo lo k : Nat) (st : List PathV) (x : ByteArray) (w : World) (hS : RdS W0 xo lo k st w) (hx : x.size ≤ 200000) (hk : k ≤ 300000) (hT : Tab W0) :
    Calls Tryz.prog 41 #[.string x, .pointer (some ⟨xo, 0, none⟩)] w fun e w' => e = .returned (.bool (stepP st x.data.toList).isSome) ∧ (∀ st', stepP st x.data.toList = some st' → RdS W0 xo lo (k + 1) st' w') ∧ W0.grownBy w' none := by
  obtain ⟨A2, c2, raws, hRow, hbox, hrk, hpl, hg, h0, hxl, hlo⟩ := hS
  obtain ⟨i0, hi, hz, h1, h2⟩ := info_parts info_path
  obtain ⟨y0, y1⟩ := hbox.c 0 rfl
  replace hpl := hide hpl
  by_cases hxo : x.data.toList = openT
  · have so : (x.toList == [111, 112, 101, 110]) = true := by rw [Lib.toList_data, hxo]; rfl
    have sc : (x.toList == [99, 108, 111, 115, 101, 100]) = false := by rw [Lib.toList_data, hxo]; rfl
    have hxe : x.data.toList = headT false := hxo
    clear hxo
    have hst' : stepP st x.data.toList = some (st ++ [⟨[], false⟩]) := by rw [hxe]; exact stepP_head st false
    rw [hst']
    replace hst' := hide hst'
    replace hxe := hide hxe
    go_enter Tryz.func41, Tryz.ntmps41
    go_wp2_with (at_builtin; refine wpList_pushAt (α := RawP) _ rfl (.tmp 13) (.tmp 17) _ rfl lo 47 i0 _ 32 Tryz.underlying26 hi hz h1 h2 rfl _ _ _ raws rfl rfl ((hRow.pure (gr_alloc (World.grownBy.refl w none) _)).out) 0 ⟨_, 0, none⟩ 1 1 [⟨none, 0, 0, false⟩] rfl rfl (sl_oneAt _ 0 [.slice none 0 0, .bool false] _ _ _ (by first | rfl | simp) (Nat.zero_le _) rfl) ?c2 ?c3 ?c4 ?_)
    case c2 => simp; omega
    case c3 => simp [maxLen]; omega
    case c4 => simp; omega
    intro A5 c5 w5 hown5 hG5
    have hga := gr_alloc (World.grownBy.refl w none) (.cells #[.slice none 0 0, .bool false] 47)
    have hRow5 := RowsP.push (b := false) (hRow.pure hga) hown5 hG5
    have hbox5 := (hbox.pure hga).gr hG5.1 (fun e => by have := (hRow.out.blk_lt e).1; omega)
    have hg5 := gr_row (hg.t hga) hG5.1 (fun g hgg => by have := (hRow.out.blk_lt hgg).1; omega)
    have hl5 : raws.length + 1 = (raws ++ [(⟨none, 0, 0, false⟩ : RawP)]).length := by simp
    obtain ⟨z0, z1⟩ := hbox5.c 0 rfl
    have hboxF := hbox5.set_ 0 (.slice A5 (raws ++ [(⟨none, 0, 0, false⟩ : RawP)]).length c5) (by simp)
    have hgs := gr_set (World.grownBy.refl w5 (some xo)) (p := ⟨xo, 0, none⟩) (.inl rfl) (.slice A5 (raws ++ [(⟨none, 0, 0, false⟩ : RawP)]).length c5)
    have hRowF := hRow5.gr hgs (fun g e => by injection e; omega)
    have hgF := gr_row hg5 hgs (fun g e => by injection e; omega)
    have hszF : lo ≤ (w5.setCell ⟨xo, 0, none⟩ (.slice A5 (raws ++ [(⟨none, 0, 0, false⟩ : RawP)]).length c5)).heap.size := by have := hgF.size; have := (hga.size); have := hG5.1.size; have := hgs.size; omega
    rw [← hl5] at hboxF hgF hRowF hszF
    replace hboxF := hide hboxF
    replace hgF := hide hgF
    replace hRowF := hide hRowF
    replace hszF := hide hszF
    replace hl5 := hide hl5
    clear hown5 hG5 hRow hRow5 hbox5 hg5 hbox hga hgs
    go_wp2_with fail
    go_ret
    refine ⟨rfl, fun st2 e => ?_, hgF.out⟩
    injection e with e
    subst e
    refine ⟨A5, c5, _, hRowF.out, by rw [← hl5.out]; exact hboxF.out, by rw [← hl5.out]; omega, fun p hp => ?_, hgF.out, h0, hxl, hszF.out⟩
    rcases List.mem_append.1 hp with hp | hp
    · have := hpl.out p hp; omega
    · simp only [List.mem_singleton] at hp; subst hp; simp
  · have so : (x.toList == [111, 112, 101, 110]) = false := by rw [Lib.toList_data]; exact beq_eq_false_iff_ne.2 hxo
    by_cases hxc : x.data.toList = closedT
    · have sc : (x.toList == [99, 108, 111, 115, 101, 100]) = true := by rw [Lib.toList_data, hxc]; rfl
      have hxe : x.data.toList = headT true := hxc
      clear hxc hxo
      have hst' : stepP st x.data.toList = some (st ++ [⟨[], true⟩]) := by rw [hxe]; exact stepP_head st true
      rw [hst']
      replace hst' := hide hst'
      replace hxe := hide hxe
      go_enter Tryz.func41, Tryz.ntmps41
      go_wp2_with (at_builtin; refine wpList_pushAt (α := RawP) _ rfl (.tmp 13) (.tmp 17) _ rfl lo 47 i0 _ 32 Tryz.underlying26 hi hz h1 h2 rfl _ _ _ raws rfl rfl ((hRow.pure (gr_alloc (World.grownBy.refl w none) _)).out) 0 ⟨_, 0, none⟩ 1 1 [⟨none, 0, 0, true⟩] rfl rfl (sl_oneAt _ 0 [.slice none 0 0, .bool true] _ _ _ (by first | rfl | simp) (Nat.zero_le _) rfl) ?c2 ?c3 ?c4 ?_)
      case c2 => simp; omega
      case c3 => simp [maxLen]; omega
      case c4 => simp; omega
      intro A5 c5 w5 hown5 hG5
      have hga := gr_alloc (World.grownBy.refl w none) (.cells #[.slice none 0 0, .bool true] 47)
      have hRow5 := RowsP.push (b := true) (hRow.pure hga) hown5 hG5
      have hbox5 := (hbox.pure hga).gr hG5.1 (fun e => by have := (hRow.out.blk_lt e).1; omega)
      have hg5 := gr_row (hg.t hga) hG5.1 (fun g hgg => by have := (hRow.out.blk_lt hgg).1; omega)
      have hl5 : raws.length + 1 = (raws ++ [(⟨none, 0, 0, true⟩ : RawP)]).length := by simp
      obtain ⟨z0, z1⟩ := hbox5.c 0 rfl
      have hboxF := hbox5.set_ 0 (.slice A5 (raws ++ [(⟨none, 0, 0, true⟩ : RawP)]).length c5) (by simp)
      have hgs := gr_set (World.grownBy.refl w5 (some xo)) (p := ⟨xo, 0, none⟩) (.inl rfl) (.slice A5 (raws ++ [(⟨none, 0, 0, true⟩ : RawP)]).length c5)
      have hRowF := hRow5.gr hgs (fun g e => by injection e; omega)
      have hgF := gr_row hg5 hgs (fun g e => by injection e; omega)
      have hszF : lo ≤ (w5.setCell ⟨xo, 0, none⟩ (.slice A5 (raws ++ [(⟨none, 0, 0, true⟩ : RawP)]).length c5)).heap.size := by have := hgF.size; have := (hga.size); have := hG5.1.size; have := hgs.size; omega
      rw [← hl5] at hboxF hgF hRowF hszF
      replace hboxF := hide hboxF
      replace hgF := hide hgF
      replace hRowF := hide hRowF
      replace hszF := hide hszF
      replace hl5 := hide hl5
      clear hown5 hG5 hRow hRow5 hbox5 hg5 hbox hga hgs
      go_wp2_with fail
      go_ret
      refine ⟨rfl, fun st2 e => ?_, hgF.out⟩
      injection e with e
      subst e
      refine ⟨A5, c5, _, hRowF.out, by rw [← hl5.out]; exact hboxF.out, by rw [← hl5.out]; omega, fun p hp => ?_, hgF.out, h0, hxl, hszF.out⟩
      rcases List.mem_append.1 hp with hp | hp
      · have := hpl.out p hp; omega
      · simp only [List.mem_singleton] at hp; subst hp; simp
    · have sc : (x.toList == [99, 108, 111, 115, 101, 100]) = false := by rw [Lib.toList_data]; exact beq_eq_false_iff_ne.2 hxc
      have hstep : stepP st x.data.toList = match ptOf x.data.toList with
        | some q => if st = [] then none else some (addPt st q)
        | none => none := by
        rw [stepP_eq, if_neg hxo, if_neg hxc]
        rfl
      clear hxo hxc
      have hPI := pointIn_any x w hx (hT.gr hg)
      obtain ⟨O, hO⟩ : ∃ O, ptOf x.data.toList = O := ⟨_, rfl⟩
      rw [hO] at hPI hstep
      clear hO
      rcases O with _ | q
      · rw [hstep]
        clear hstep hRow
        go_enter Tryz.func41, Tryz.ntmps41
        go_wp2_with fail
        refine hPI.mono ?_
        rintro e w2 ⟨q', rfl, -, hg2⟩
        clear hPI
        go_wp2_with fail
        all_goals (go_ret; exact ⟨rfl, (fun st2 e => by cases e), gr_alloc (hg.t hg2) _⟩)
      · by_cases hr0 : raws.length = 0
        · have hst0 : st = [] := List.eq_nil_of_length_eq_zero (by rw [← hRow.len]; exact hr0)
          have hsn : stepP st x.data.toList = none := by rw [hstep]; simp only [if_pos hst0]
          rw [hsn]
          have hb0 : ((raws.length : Int) == 0) = true := by rw [hr0]; rfl
          replace hr0 := hide hr0
          clear hstep hRow hst0 hsn
          go_enter Tryz.func41, Tryz.ntmps41
          go_wp2_with fail
          refine hPI.mono ?_
          rintro e w2 ⟨q', rfl, -, hg2⟩
          clear hPI
          obtain ⟨y2, y3⟩ := ((hbox.pure hg2).pure (gr_alloc (World.grownBy.refl w2 none) (.cells #[.int .i64 q'.x, .int .i64 q'.y] 50))).c 0 rfl
          go_wp2_with fail
          all_goals (go_ret; exact ⟨rfl, (fun st2 e => by cases e), gr_alloc (hg.t hg2) _⟩)
        · obtain ⟨n, hn⟩ : ∃ n, raws.length = n + 1 := ⟨raws.length - 1, by omega⟩
          have hsl : n + 1 = st.length := by rw [← hRow.len, hn]
          have hst0 : st ≠ [] := by intro e; rw [e] at hsl; simp at hsl
          have hstp : stepP st x.data.toList = some (addPt st q) := by rw [hstep]; simp only [if_neg hst0]
          rw [addPt_set hsl] at hstp
          rw [hstp]
          have hkn : (raws.length : Int) - 1 = (n : Int) := by omega
          have hge : (1 : Int) ≤ raws.length := by omega
          have hb0 : ((raws.length : Int) == 0) = false := by rw [beq_eq_false_iff_ne]; omega
          have hnl : n < raws.length := by omega
          have hnl2 : n < st.length := by omega
          obtain ⟨g2, rfl, hgl2, hgr2⟩ := hRow.out.shape (by omega)
          have hptl := hpl.out _ (List.getElem_mem hnl2)
          obtain ⟨j0, hj, hjz, j1, j2⟩ := info_parts info_pt
          replace hn := hide hn
          replace hsl := hide hsl
          replace hst0 := hide hst0
          replace hstp := hide hstp
          clear hr0 hstep
          go_enter Tryz.func41, Tryz.ntmps41
          go_wp2_with fail
          refine hPI.mono ?_
          rintro e w2 ⟨q', rfl, hqv, hg2⟩
          obtain rfl : q' = q := hqv q rfl
          clear hPI hqv
          go_upto_region 5 with fail
          obtain ⟨w4, hw4⟩ : ∃ x, x = (w2).alloc (.cells [.int .i64 q'.x, .int .i64 q'.y].toArray 50) := ⟨_, rfl⟩
          have hg4 : (w2).grownBy w4 none := by rw [hw4]; exact gr_alloc (World.grownBy.refl _ _) _
          have hb4 : Box w4 (w2).heap.size 50 [.int .i64 q'.x, .int .i64 q'.y] := by rw [hw4]; exact Box.new _ _ _
          have hxs4 := hb4.lt
          rw [← hw4]
          clear hw4
          obtain ⟨x4, hx4⟩ : ∃ x, x = (w2).heap.size := ⟨_, rfl⟩
          rw [← hx4] at hb4 hxs4 ⊢
          have hxl4 : (w2).heap.size ≤ x4 := by omega
          clear hx4
          have hg24 := hg2.t hg4
          have hRow4 := hRow.pure hg24
          have hbox4 := hbox.pure hg24
          obtain ⟨y2, y3⟩ := hbox4.c 0 rfl
          obtain ⟨b0, _⟩ := hb4.c 0 rfl
          obtain ⟨b1, _⟩ := hb4.c 1 rfl
          have u0 := RowsP.cell hRow4 hnl
          have uf := hRow4.out.frozen (n * 2)
          obtain ⟨⟨hin, hib⟩, hinO⟩ := hRow4.ins n hnl hnl2
          go_wp2_with fail
          refine wp_region_tree (fun wx => w4.grownBy wx none) [2, 2, 2, 2, 1, 1, 0, 0, 2, 2, 0] (.bl 0 (.bl 1 (.bl 2 (.bl 3 (.bl 4 (.bl 5 (.ef 6 (.ef 7 (.bl 8 (.bl 9 (.ef 10 .done))))))))))) (by kernel_rfl) (by kernel_rfl) (gr_drew (World.grownBy.refl _ _)) ?_
          obtain ⟨W1, hW1⟩ : ∃ x, x = (w4).drew := ⟨_, rfl⟩
          rw [← hW1]
          have hgW1 : (w4).grownBy W1 none := by rw [hW1]; exact gr_drew (World.grownBy.refl _ _)
          clear hW1
          refine tree_p rfl rfl rfl rfl _ rfl (by simp) (fun K hK => ?_)
          apply Exists.intro
          refine ⟨fun wq K' hK' => ?_, ?_⟩
          · go_wp2_with fail
            exact hK'
          go_simp
          refine hK _ ?_
          clear hK K
          refine tree_p rfl rfl rfl rfl _ rfl (by simp) (fun K hK => ?_)
          apply Exists.intro
          refine ⟨fun wq K' hK' => ?_, ?_⟩
          · go_wp2_with fail
            exact hK'
          go_simp
          refine hK _ ?_
          clear hK K
          refine tree_n rfl rfl _ rfl _ rfl ?_
          try go_simp
          refine tree_p rfl rfl rfl rfl _ rfl (by simp) (fun K hK => ?_)
          apply Exists.intro
          refine ⟨fun wq K' hK' => ?_, ?_⟩
          · go_wp2_with fail
            exact hK'
          go_simp
          refine hK _ ?_
          clear hK K
          refine tree_b rfl rfl rfl rfl _ rfl (by simp) (fun K hK => ?_)
          apply Exists.intro
          refine ⟨fun wq hq K' hK' => ?_, ?_⟩
          · have v0 := hq.k u0
            have v1 := hq.k b0
            have v2 := hq.k b1
            go_wp2_with fail
            exact hK'
          go_simp
          refine hK _ ?_
          clear hK K
          refine tree_b rfl rfl rfl rfl _ rfl (by simp) (fun K hK => ?_)
          apply Exists.intro
          refine ⟨fun wq hq K' hK' => ?_, ?_⟩
          · have v0 := hq.k u0
            have v1 := hq.k b0
            have v2 := hq.k b1
            go_wp2_with fail
            exact hK'
          go_simp
          refine hK _ ?_
          clear hK K
          refine tree_e rfl rfl (fun K hK => ?_)
          go_wp2_with fail
          try go_simp
          refine hK _ _ (gr_alloc (gr_trans hgW1 (World.grownBy.refl _ _)) _) ?_
          clear hK K
          obtain ⟨w88, hw88⟩ : ∃ x, x = (W1).alloc (.cells [.int .i64 q'.x, .int .i64 q'.y].toArray 50) := ⟨_, rfl⟩
          have hg88 : (W1).grownBy w88 none := by rw [hw88]; exact gr_alloc (World.grownBy.refl _ _) _
          have hb88 : Box w88 (W1).heap.size 50 [.int .i64 q'.x, .int .i64 q'.y] := by rw [hw88]; exact Box.new _ _ _
          rw [← hw88]
          clear hw88
          obtain ⟨x88, hx88⟩ : ∃ x, x = (W1).heap.size := ⟨_, rfl⟩
          rw [← hx88] at hb88 ⊢
          have hxl88 : (W1).heap.size ≤ x88 := by omega
          clear hx88
          have hg488 : w4.grownBy w88 none := gr_trans hgW1 hg88
          have hRow88 := hRow4.pure hg488
          have hin88 := hinO.pure hg488
          have hbox88 := hbox4.pure hg488
          refine tree_e0 (by kernel_rfl) rfl rfl (fun K hK => ?_)
          refine wp_pushAt (α := Pt) _ (.tmp 40) (.tmp 42) _ rfl lo 50 j0 _ 16 Tryz.underlying45 hj hjz j1 j2 rfl _ _ _ st[n].pts rfl (by first | rfl | exact hin) hin88 0 ⟨x88, 0, none⟩ _ _ [q'] rfl rfl (hb88.sl ⟨_, [], rfl, rfl, rfl⟩ (Nat.zero_le _) (by simp [maxLen])) ?_ ?_ ?_ ?_
          · simp; omega
          · simp [maxLen]; omega
          · have := (hg24.t hg488).size; omega
          intro A5 c5 w5 hown5 hG5
          have hOut5 := RowsP.outer hRow88 hnl hG5
          have q0 := (hOut5.cell_rawp hnl).1
          have qf := hOut5.frozen (n * 2)
          have hRowF := RowsP.put hRow88 hnl hown5 hG5
          have hblk : ∀ g, blk raws[n].A = some g → lo ≤ g := fun g hgg => (hinO.blk_lt hgg).1
          have hbox5 := (hbox88.gr hG5.1 (fun e => by have := hblk _ e; omega)).set_other (g' := g2) (i := n * 2) (.slice A5 (st[n].pts ++ [q']).length c5) (by omega)
          have hgF := gr_set (gr_row (hg.t (hg24.t hg488)) hG5.1 (fun g hgg => by have := hblk g hgg; omega)) (p := ⟨g2, n * 2, none⟩) (.inr (by simp only; omega)) (.slice A5 (st[n].pts ++ [q']).length c5)
          have hszF : lo ≤ (w5.setCell ⟨g2, n * 2, none⟩ (.slice A5 (st[n].pts ++ [q']).length c5)).heap.size := by
            have h5 := hG5.1.size
            have h6 := (hg24.t hg488).size
            have h7 := (gr_set (World.grownBy.refl w5 (some g2)) (p := ⟨g2, n * 2, none⟩) (.inl rfl) (.slice A5 (st[n].pts ++ [q']).length c5)).size
            omega
          rw [hib] at hRowF
          have hlen5 : (st[n].pts ++ [q']).length = st[n].pts.length + 1 := by simp
          rw [hlen5] at hRowF hgF hbox5 hszF
          have hpl5 : ∀ p ∈ st.set n ⟨st[n].pts ++ [q'], st[n].cl⟩, p.pts.length ≤ k + 1 := by
            intro p hp
            rcases List.mem_or_eq_of_mem_set hp with hp | rfl
            · have := hpl.out p hp; omega
            · simp only [List.length_append, List.length_cons, List.length_nil]; omega
          replace hRowF := hide hRowF
          replace hgF := hide hgF
          replace hbox5 := hide hbox5
          replace hpl5 := hide hpl5
          replace hszF := hide hszF
          clear hOut5 hlen5
          try go_simp
          refine hK _ _ trivial ?_
          clear hK K
          refine tree_n rfl rfl _ rfl _ rfl ?_
          try go_simp
          refine tree_p rfl rfl rfl rfl _ rfl (by simp) (fun K hK => ?_)
          apply Exists.intro
          refine ⟨fun wq K' hK' => ?_, ?_⟩
          · go_wp2_with fail
            exact hK'
          go_simp
          refine hK _ ?_
          clear hK K
          refine tree_e0 (by kernel_rfl) rfl rfl (fun K hK => ?_)
          go_wp2_with fail
          try go_simp
          refine hK _ _ trivial ?_
          clear hK K
          refine tree_done ?_
          go_wp2_with fail
          go_ret
          refine ⟨rfl, fun st2 e => ?_, hgF.out⟩
          injection e with e
          subst e
          exact ⟨some ⟨g2, 0, none⟩, c2, _, hRowF.out, by rw [List.length_set]; exact hbox5.out, by rw [List.length_set]; omega, hpl5.out, hgF.out, h0, hxl, hszF.out⟩

end Go.Proofs.YtmgcohfeijcgdaaGreatDoor

namespace Go.Proofs.YtmgcohfeijcgdaaGreatDoor
open Go Go.RowKit Go.Bl

theorem linesK_more (r : List UInt8) : (linesK r).1 ≠ [] ∨ (linesK r).2 = true := by
  unfold linesK
  split
  · right; rfl
  · left
    split
    · exact pieces_ne _ _
    · exact pieces_ne _ _

set_option maxHeartbeats 4000000 in
set_option maxRecDepth 100000 in
theorem linesRd_any (W0 : World) (xo lo : Nat) (s : ByteArray) (w : World) (R : List PathV × Option Nat) (hS : RdS W0 xo lo 0 [] w) (hs : s.size ≤ 200000) (hT : Tab W0) (hR : readL stepP [] 0 (linesK s.data.toList).1 (linesK s.data.toList).2 = R) :
    Calls Tryz.prog 40 #[.string s, .func (.func 41) #[] #[.pointer (some ⟨xo, 0, none⟩)]] w fun e w' => (∀ st i, R = (st, some i) → e = .returned (.tuple #[.int .i64 i, .bool false]) ∧ W0.grownBy w' none) ∧ (∀ st, R = (st, none) → e = .returned (.tuple #[.int .i64 0, .bool true]) ∧ RdS W0 xo lo 200001 st w') := by
  replace hR := hide hR
  replace hS := hide hS
  go_enter Tryz.func40, Tryz.ntmps40
  go_wp2_with fail
  go_loopw [0, 6] (fun o i wr => ∃ (k : Nat) (u : ByteArray) (st : List PathV), i = .int .i64 k ∧ o = .string u ∧ k + u.size ≤ 200000 ∧ Hid (readL stepP st k (linesK u.data.toList).1 (linesK u.data.toList).2 = R) ∧ Hid (RdS W0 xo lo k st wr)) (fun _ i _ => 200001 - (intOf i).toNat)
  case atStart => exact ⟨0, s, [], rfl, rfl, by omega, hR, hS⟩
  case round =>
    clear hR hS
    obtain ⟨k, u, st, rfl, rfl, hku, hR, hS⟩ := hrel
    have hemp : u.toList.isEmpty = u.data.toList.isEmpty := by rw [Lib.toList_data]
    by_cases h0 : u.data.toList = []
    · have hRe : R = (st, none) := by rw [← hR.out, h0]; rfl
      rw [h0] at hemp
      simp only [List.isEmpty_nil] at hemp
      replace h0 := hide h0
      replace hRe := hide hRe
      go_wp2_with fail
      go_ret2
      refine ⟨fun st2 i e => ?_, fun st2 e => ?_⟩
      · rw [hRe.out] at e; cases e
      · rw [hRe.out] at e
        injection e with e1 _
        subst e1
        refine ⟨rfl, ?_⟩
        obtain ⟨A, c, raws, q1, q2, q3, q4, q5⟩ := hS.out
        exact ⟨A, c, raws, q1, q2, by omega, fun p hp => by have := q4 p hp; omega, q5⟩
    · have hne : u.data.toList.isEmpty = false := by cases h : u.data.toList with
        | nil => exact absurd h h0
        | cons => rfl
      rw [hne] at hemp
      have hgS : W0.grownBy wr none := by obtain ⟨A, c, raws, _, _, _, _, q5, _⟩ := hS.out; exact q5
      by_cases h10 : (10 : UInt8) ∈ u.data.toList
      · obtain ⟨x, r, hxr, hx⟩ := first_at h10
        have hu : u = mkB (x ++ 10 :: r) := mkB_ext hxr
        subst hu
        rw [mkB_data] at *
        have hul : (mkB (x ++ 10 :: r)).size = x.length + r.length + 1 := by rw [mkB_size]; simp; omega
        rw [hul] at hku
        have hcut := cut_hit x r 10 wr hx (by omega)
        have hR2 := hR.out
        rw [linesK_hit r hx] at hR2
        have hCl := fun wx (hSx : RdS W0 xo lo k st wx) => rdClo_any W0 xo lo k st (mkB x) wx hSx (by rw [mkB_size]; omega) (by omega) hT
        rw [mkB_data] at hCl
        have hSg : ∀ wx, wr.grownBy wx none → RdS W0 xo lo k st wx := by
          intro wx hgx
          obtain ⟨A, c, raws, q1, q2, q3, q4, q5, q6, q7, q8⟩ := hS.out
          exact ⟨A, c, raws, q1.pure hgx, q2.pure hgx, q3, q4, q5.t hgx, q6, q7, Nat.le_trans q8 hgx.size⟩
        generalize hU : mkB (x ++ 10 :: r) = U at *
        clear hxr h10 h0 hne hul hU hR hS
        cases hst : stepP st x with
        | none =>
          rw [hst] at hCl
          rw [readL_bad _ _ _ hst] at hR2
          replace hR2 := hide hR2
          replace hx := hide hx
          clear hst
          go_wp2_with fail
          refine hcut.mono ?_
          rintro e w2 ⟨rfl, hg2⟩
          clear hcut
          go_wp2_with fail
          refine (hCl _ (hSg _ hg2)).mono ?_
          rintro e w3 ⟨rfl, -, hg3⟩
          go_wp2_with fail
          all_goals go_ret2
          all_goals exact ⟨fun st2 i e => by rw [← hR2.out] at e; injection e with e1 e2; injection e2 with e2; subst e2; exact ⟨rfl, hg3⟩, fun st2 e => by rw [← hR2.out] at e; cases e⟩
        | some st2 =>
          rw [hst] at hCl
          rw [readL_good _ _ _ hst (linesK_more r)] at hR2
          replace hR2 := hide hR2
          replace hx := hide hx
          clear hst
          go_wp2_with fail
          refine hcut.mono ?_
          rintro e w2 ⟨rfl, hg2⟩
          clear hcut
          go_wp2_with fail
          refine (hCl _ (hSg _ hg2)).mono ?_
          rintro e w3 ⟨rfl, hn, hg3⟩
          have hS3 := hide (hn st2 rfl)
          go_wp2_with fail
          first
            | exact ⟨⟨k + 1, mkB r, st2, by go_num, rfl, by rw [mkB_size]; omega, hR2, hS3⟩, by simp [intOf]; omega⟩
            | (go_roundw; (case rel => exact ⟨k + 1, mkB r, st2, by go_num, rfl, by rw [mkB_size]; omega, hR2, hS3⟩); (case measure => simp [intOf]; omega))
      · have hR2 := hR.out
        rw [linesK_none h0 h10, readL_open] at hR2
        have hcut := cut_miss u 10 wr h10
        replace hR2 := hide hR2
        replace h0 := hide h0
        replace h10 := hide h10
        clear hR hS hne
        go_wp2_with fail
        refine hcut.mono ?_
        rintro e w2 ⟨rfl, hg2⟩
        clear hcut
        go_wp2_with fail
        all_goals go_ret2
        all_goals exact ⟨fun st2 i e => by rw [← hR2.out] at e; injection e with e1 e2; injection e2 with e2; subst e2; exact ⟨rfl, hgS.t hg2⟩, fun st2 e => by rw [← hR2.out] at e; cases e⟩

end Go.Proofs.YtmgcohfeijcgdaaGreatDoor

namespace Go.Proofs.YtmgcohfeijcgdaaGreatDoor
open Go Go.RowKit Go.Bl

theorem rdS_start (w : World) : RdS w w.heap.size (w.heap.size + 1) 0 [] { w with heap := w.heap.push (.cells #[.slice none 0 0] 26) } := by
  have hga := gr_alloc (World.grownBy.refl w none) (.cells #[.slice none 0 0] 26)
  refine ⟨none, 0, [], RowsP.nil (by decide) ?_, Box.new w _ _, Nat.le_refl _, fun p hp => by simp at hp, hga, Nat.le_refl _, Nat.lt_succ_self _, ?_⟩
  · simp
  · simp

set_option maxHeartbeats 4000000 in
set_option maxRecDepth 100000 in
theorem pathsRead_any (s : ByteArray) (w : World) (hT : Tab w) :
    Calls Tryz.prog 15 #[.string s] w fun e w' => ∃ A c, e = .returned (.tuple #[.slice A (readP s.data.toList).1.length c, .int .i64 (readP s.data.toList).2.1, .int .i64 (readP s.data.toList).2.2]) ∧ Sl w' 0 A (readP s.data.toList).1 ∧ w.grownBy w' none := by
  have hsz := Lib.size_eq s
  obtain ⟨RR, hRR⟩ : ∃ r, readP s.data.toList = r := ⟨_, rfl⟩
  rw [hRR]
  by_cases hbig : 200000 < s.size
  · have hR : RR = ([], 0, 2) := by rw [← hRR, readP_eq, if_pos (by omega)]
    subst hR
    clear hRR hsz
    have hb : decide ((s.size : Int) > 200000) = true := by simp; omega
    go_enter Tryz.func15, Tryz.ntmps15
    go_wp2_with fail
    exact bodyPost_ret (v := .tuple #[.slice none 0 0, .int .i64 0, .int .i64 2]) (by simp [results, Tryz.results15, go_sem]) rfl ⟨none, 0, rfl, Sl.nil, World.grownBy.refl _ _⟩
  · have hb : decide ((s.size : Int) > 200000) = false := by simp; omega
    obtain ⟨Q, hQ⟩ : ∃ q, readL stepP [] 0 (linesK s.data.toList).1 (linesK s.data.toList).2 = q := ⟨_, rfl⟩
    have hR : endP Q = RR := by rw [← hRR, readP_eq, if_neg (by omega), hQ]
    have hLn := linesRd_any w w.heap.size (w.heap.size + 1) s _ Q (rdS_start w) (by omega) hT hQ
    clear hRR hQ hsz
    rcases Q with ⟨st, _ | i⟩
    · have hfin : finP st = RR := hR
      have hn := fun wx (e : Ending) (h : (∀ st2 i, (st, (none : Option Nat)) = (st2, some i) → e = .returned (.tuple #[.int .i64 i, .bool false]) ∧ w.grownBy wx none) ∧ (∀ st2, (st, (none : Option Nat)) = (st2, none) → e = .returned (.tuple #[.int .i64 0, .bool true]) ∧ RdS w w.heap.size (w.heap.size + 1) 200001 st2 wx)) => h.2 st rfl
      replace hfin := hide hfin
      replace hn := hide hn
      clear hR
      go_enter Tryz.func15, Tryz.ntmps15
      go_wp2_with fail
      refine hLn.mono ?_
      intro e w2 hh
      obtain ⟨rfl, hS⟩ := hn.out _ _ hh
      clear hLn hh hn
      obtain ⟨A2, c2, raws, hRow, hbox, hrk, hpl, hg, h0, hxl, hlo⟩ := hS
      obtain ⟨y0, y1⟩ := hbox.c 0 rfl
      have hsl := hRow.sl.mono (Nat.zero_le _)
      have hC := fun wx (hx : w2.grownBy wx none) => pathsFaultRef_any A2 c2 st wx (hsl.pure hx)
      rw [← hRow.len] at hC
      have hrl := hRow.len
      obtain ⟨F, hF⟩ : ∃ F, pathsF st = F := ⟨_, rfl⟩
      rw [hF] at hC
      have hend := hfin.out
      unfold finP at hend
      rw [hF] at hend
      replace hrl := hide hrl
      replace hpl := hide hpl
      clear hRow hF hfin
      by_cases hF0 : F = 0
      · subst hF0
        rw [if_pos rfl] at hend
        replace hend := hide hend
        go_wp2_with fail
        refine (hC _ (World.grownBy.refl _ _)).mono ?_
        rintro e w3 ⟨rfl, hg3⟩
        have hb3 := hbox.pure hg3
        obtain ⟨z0, z1⟩ := hb3.c 0 rfl
        clear hC
        go_wp2_with fail
        exact bodyPost_ret (v := .tuple #[.slice A2 raws.length c2, .int .i64 0, .int .i64 0]) (by simp [results, Tryz.results15, go_sem]) rfl ⟨A2, c2, by rw [← hend.out, hrl.out], by rw [← hend.out]; exact hsl.pure hg3, hg.t hg3⟩
      · have hb0 : (F != 0) = true := by simp [hF0]
        rw [if_neg hF0] at hend
        replace hend := hide hend
        replace hF0 := hide hF0
        go_wp2_with fail
        refine (hC _ (World.grownBy.refl _ _)).mono ?_
        rintro e w3 ⟨rfl, hg3⟩
        clear hC
        go_wp2_with fail
        exact bodyPost_ret (v := .tuple #[.slice none 0 0, .int .i64 0, .int .i64 F]) (by simp [results, Tryz.results15, go_sem]) rfl ⟨none, 0, by rw [← hend.out]; rfl, by rw [← hend.out]; exact Sl.nil, hg.t hg3⟩
    · have hfin : ([], (i : Int), 9) = RR := hR
      have hn := fun wx (e : Ending) (h : (∀ st2 j, (st, some i) = (st2, some j) → e = .returned (.tuple #[.int .i64 j, .bool false]) ∧ w.grownBy wx none) ∧ (∀ st2, (st, some i) = (st2, none) → e = .returned (.tuple #[.int .i64 0, .bool true]) ∧ RdS w w.heap.size (w.heap.size + 1) 200001 st2 wx)) => h.1 st i rfl
      replace hfin := hide hfin
      replace hn := hide hn
      clear hR
      go_enter Tryz.func15, Tryz.ntmps15
      go_wp2_with fail
      refine hLn.mono ?_
      intro e w2 hh
      obtain ⟨rfl, hg⟩ := hn.out _ _ hh
      clear hLn hh hn
      go_wp2_with fail
      exact bodyPost_ret (v := .tuple #[.slice none 0 0, .int .i64 i, .int .i64 9]) (by simp [results, Tryz.results15, go_sem]) rfl ⟨none, 0, by rw [← hfin.out]; rfl, by rw [← hfin.out]; exact Sl.nil, hg⟩

end Go.Proofs.YtmgcohfeijcgdaaGreatDoor

/- Contracts of functions that this seat's laws reach, each: what one call returns and what it leaves in memory; no condition beyond each theorem's own hypotheses. -/
import Derived.Test.YtcglkjpfnnehhaaGreatDoorZqMTextC
import Derived.Test.YtcglkjpfnnehhaaGreatDoorZqChgA
set_option linter.unusedVariables false
set_option linter.unusedSimpArgs false
namespace Go.Proofs.YtcglkjpfnnehhaaGreatDoor
open Go Go.RowKit Go.Bl

set_option maxHeartbeats 8000000 in
set_option maxRecDepth 100000 in
theorem readLineM_any (W0 : World) (xo lo k : Nat) (st : MeshV) (x : ByteArray) (w : World) (hS : RdM W0 xo lo k st w) (hx : x.size ≤ 200000) (hk : k ≤ 300000) :
    Calls Tryz.prog 41 #[.pointer (some ⟨xo, 0, none⟩), .string x] w fun e w' => e = .returned (.bool (stepM st x.data.toList).isSome) ∧ (∀ st', stepM st x.data.toList = some st' → RdM W0 xo lo (k + 1) st' w') ∧ W0.grownBy w' none := by
  obtain ⟨A1, c1, B1, d1, hV, hF, hbox, hkv, hkf, hg, h0, hxl, hlo⟩ := hS
  have hW := kitWordsC_any x w hx
  obtain ⟨hp1, hp2⟩ := piecesB_small 32 hx
  rw [stepM_pieces]
  generalize piecesB 32 x = ps at *
  go_enter Tryz.func41, Tryz.ntmps41
  go_wp2_with fail
  refine hW.mono ?_
  rintro e w3 ⟨A3, c3, rfl, hcap, hl, hg3⟩
  clear hW
  have hgA := hg.t hg3
  cases hok : okW ps with
  | false =>
    have hD := hide (wM_bad (st := st) hok)
    replace hok := hide hok
    go_wp2_with fail
    all_goals (go_ret; rw [hD.out]; exact ⟨rfl, (fun st2 e => by cases e), hgA⟩)
  | true =>
    have hwr : wordsR ps = ps := by unfold wordsR; rw [hok]; rfl
    rw [hwr] at hl hcap ⊢
    by_cases h4 : ps.length = 4
    · obtain ⟨t, a, b, c, rfl⟩ : ∃ t a b c, ps = [t, a, b, c] := by
        match ps, h4 with
        | [t, a, b, c], _ => exact ⟨t, a, b, c, rfl⟩
      replace hok := hide hok
      clear hwr h4
      simp only [List.length_cons, List.length_nil, Nat.zero_add, Nat.reduceAdd] at hcap
      obtain ⟨g, o, rfl, -, hgl⟩ := Sl.cells hl (by simp) (by decide)
      have hl1 : Sl w3 0 (some ⟨g, o + 1, none⟩) [a, b, c] := hl.drop 1
      have hN := fun cc wx (hx : w3.grownBy wx none) => numbers_any (some ⟨g, o + 1, none⟩) cc [a, b, c] wx (hl1.pure hx) (fun u hu => hp1 u (List.mem_cons_of_mem _ hu)) (by simp)
      obtain ⟨R, hR⟩ : ∃ R, numsB [a, b, c] = R := ⟨_, rfl⟩
      rw [hR] at hN
      simp only [List.length_cons, List.length_nil, Nat.zero_add, Nat.reduceAdd] at hN
      cases R with
      | none =>
        have hD := hide (wM_none (st := st) (t := t) hR)
        simp only [Option.getD_none, Option.isSome_none, List.length_nil] at hN
        replace hR := hide hR
        clear hl1 hp1
        go_wp2_with fail
        refine (hN _ _ (World.grownBy.refl _ _)).mono ?_
        rintro e w4 ⟨A4, c4, rfl, hO4, hg4⟩
        clear hN
        go_wp2_with fail
        all_goals (go_ret; rw [hD.out]; exact ⟨rfl, (fun st2 e => by cases e), hgA.t hg4⟩)
      | some r =>
        obtain ⟨n0, n1, n2, rfl⟩ : ∃ n0 n1 n2, r = [n0, n1, n2] := by
          have := numsK_len hR
          match r, this with
          | [x, y, z], _ => exact ⟨x, y, z, rfl⟩
        simp only [Option.getD_some, Option.isSome_some, List.length_cons, List.length_nil, Nat.zero_add, Nat.reduceAdd] at hN
        have hN3 := hide hR
        clear hR hl1 hp1
        go_wp2_with fail
        refine (hN _ _ (World.grownBy.refl _ _)).mono ?_
        rintro e w4 ⟨A4, c4, rfl, hO4, hg4⟩
        clear hN
        have hl4 := hO4.sl.mono (Nat.zero_le _)
        clear hO4
        have hV4 := hV.pure (hg3.t hg4)
        have hF4 := hF.pure (hg3.t hg4)
        have hbox4 := hbox.pure (hg3.t hg4)
        have hg04 := hgA.t hg4
        have hsz4 : lo ≤ w4.heap.size := Nat.le_trans hlo (hg3.t hg4).size
        obtain ⟨g4, o4, rfl, -, hgl4⟩ := Sl.cells hl4 (by simp) (by decide)
        have v0 : w4.cell? ⟨g4, o4, none⟩ = some (.int .i64 n0) := by
          obtain ⟨g', o', cx, e, _, _, rfl, hc⟩ := hl4.at_ (by decide) (show 0 < 3 by decide)
          cases e
          exact hc 0 _ rfl
        have v1 : w4.cell? ⟨g4, o4 + 1, none⟩ = some (.int .i64 n1) := by
          obtain ⟨g', o', cx, e, _, _, rfl, hc⟩ := hl4.at_ (by decide) (show 1 < 3 by decide)
          cases e
          exact hc 0 _ rfl
        have v2 : w4.cell? ⟨g4, o4 + 2, none⟩ = some (.int .i64 n2) := by
          obtain ⟨g', o', cx, e, _, _, rfl, hc⟩ := hl4.at_ (by decide) (show 2 < 3 by decide)
          cases e
          exact hc 0 _ rfl
        have tc := (hl.pure hg4).at_ (by decide) (show 0 < 4 by decide)
        have t0 : w4.cell? ⟨g, o, none⟩ = some (.string t) := by
          obtain ⟨g', o', cx, e, _, _, rfl, hc⟩ := tc
          cases e
          exact hc 0 _ rfl
        clear tc
        obtain ⟨f0, _⟩ := hbox4.c 1 rfl
        by_cases ht : t.data.toList = [118]
        · have s1 : (t.toList == [118]) = true := by rw [Lib.toList_data, ht]; rfl
          have s2 : (t.toList == [102]) = false := by rw [Lib.toList_data, ht]; rfl
          by_cases hf : st.fs = []
          · have hD := hide (wM_v (st := st) hN3.out ht hf)
            have hf0 : st.fs.length = 0 := by rw [hf]; rfl
            have hf1 : ((st.fs.length : Int) == 0) = true := by rw [hf0]; rfl
            replace ht := hide ht
            replace hf := hide hf
            replace hf0 := hide hf0
            go_upto_region 8 with fail
            obtain ⟨y0, _⟩ := hbox4.c 0 rfl
            obtain ⟨i0, hi, hz, h1, h2⟩ := info_parts info_v3
            refine wp_region_tree (fun wx => w4.grownBy wx none) [2, 2, 2, 2, 1, 2, 2, 1, 2, 2, 1, 2, 2, 1, 2, 0, 0, 2, 2, 0] (.bl 0 (.bl 1 (.bl 2 (.bl 3 (.bl 4 (.bl 5 (.bl 6 (.bl 7 (.bl 8 (.bl 9 (.bl 10 (.bl 11 (.bl 12 (.bl 13 (.bl 14 (.ef 15 (.ef 16 (.bl 17 (.bl 18 (.ef 19 .done)))))))))))))))))))) (by kernel_rfl) (by kernel_rfl) (gr_drew (World.grownBy.refl _ _)) ?_
            obtain ⟨W2, hW2⟩ : ∃ x, x = (w4).drew := ⟨_, rfl⟩
            rw [← hW2]
            have hgW2 : (w4).grownBy W2 none := by rw [hW2]; exact gr_drew (World.grownBy.refl _ _)
            clear hW2
            refine tree_p rfl rfl rfl rfl _ rfl (by simp) (fun K hK => ?_)
            apply Exists.intro
            refine ⟨fun wq K' hK' => ?_, ?_⟩
            · go_wp2_with fail
              exact hK'
            go_simp
            refine hK _ ?_
            clear hK K
            refine tree_p rfl rfl rfl rfl _ rfl (by simp) (fun K hK => ?_)
            apply Exists.intro
            refine ⟨fun wq K' hK' => ?_, ?_⟩
            · go_wp2_with fail
              exact hK'
            go_simp
            refine hK _ ?_
            clear hK K
            refine tree_n rfl rfl _ rfl _ rfl ?_
            try go_simp
            refine tree_p rfl rfl rfl rfl _ rfl (by simp) (fun K hK => ?_)
            apply Exists.intro
            refine ⟨fun wq K' hK' => ?_, ?_⟩
            · go_wp2_with fail
              exact hK'
            go_simp
            refine hK _ ?_
            clear hK K
            refine tree_b rfl rfl rfl rfl _ rfl (by simp) (fun K hK => ?_)
            apply Exists.intro
            refine ⟨fun wq hq K' hK' => ?_, ?_⟩
            · have u0 := hq.k y0
              have u1 := hq.k v0
              have u2 := hq.k v1
              have u3 := hq.k v2
              go_wp2_with fail
              exact hK'
            go_simp
            refine hK _ ?_
            clear hK K
            refine tree_p rfl rfl rfl rfl _ rfl (by simp) (fun K hK => ?_)
            apply Exists.intro
            refine ⟨fun wq K' hK' => ?_, ?_⟩
            · go_wp2_with fail
              exact hK'
            go_simp
            refine hK _ ?_
            clear hK K
            refine tree_p rfl rfl rfl rfl _ rfl (by simp) (fun K hK => ?_)
            apply Exists.intro
            refine ⟨fun wq K' hK' => ?_, ?_⟩
            · go_wp2_with fail
              exact hK'
            go_simp
            refine hK _ ?_
            clear hK K
            refine tree_b rfl rfl rfl rfl _ rfl (by simp) (fun K hK => ?_)
            apply Exists.intro
            refine ⟨fun wq hq K' hK' => ?_, ?_⟩
            · have u0 := hq.k y0
              have u1 := hq.k v0
              have u2 := hq.k v1
              have u3 := hq.k v2
              go_wp2_with fail
              exact hK'
            go_simp
            refine hK _ ?_
            clear hK K
            refine tree_p rfl rfl rfl rfl _ rfl (by simp) (fun K hK => ?_)
            apply Exists.intro
            refine ⟨fun wq K' hK' => ?_, ?_⟩
            · go_wp2_with fail
              exact hK'
            go_simp
            refine hK _ ?_
            clear hK K
            refine tree_p rfl rfl rfl rfl _ rfl (by simp) (fun K hK => ?_)
            apply Exists.intro
            refine ⟨fun wq K' hK' => ?_, ?_⟩
            · go_wp2_with fail
              exact hK'
            go_simp
            refine hK _ ?_
            clear hK K
            refine tree_b rfl rfl rfl rfl _ rfl (by simp) (fun K hK => ?_)
            apply Exists.intro
            refine ⟨fun wq hq K' hK' => ?_, ?_⟩
            · have u0 := hq.k y0
              have u1 := hq.k v0
              have u2 := hq.k v1
              have u3 := hq.k v2
              go_wp2_with fail
              exact hK'
            go_simp
            refine hK _ ?_
            clear hK K
            refine tree_p rfl rfl rfl rfl _ rfl (by simp) (fun K hK => ?_)
            apply Exists.intro
            refine ⟨fun wq K' hK' => ?_, ?_⟩
            · go_wp2_with fail
              exact hK'
            go_simp
            refine hK _ ?_
            clear hK K
            refine tree_p rfl rfl rfl rfl _ rfl (by simp) (fun K hK => ?_)
            apply Exists.intro
            refine ⟨fun wq K' hK' => ?_, ?_⟩
            · go_wp2_with fail
              exact hK'
            go_simp
            refine hK _ ?_
            clear hK K
            refine tree_b rfl rfl rfl rfl _ rfl (by simp) (fun K hK => ?_)
            apply Exists.intro
            refine ⟨fun wq hq K' hK' => ?_, ?_⟩
            · have u0 := hq.k y0
              have u1 := hq.k v0
              have u2 := hq.k v1
              have u3 := hq.k v2
              go_wp2_with fail
              exact hK'
            go_simp
            refine hK _ ?_
            clear hK K
            refine tree_p rfl rfl rfl rfl _ rfl (by simp) (fun K hK => ?_)
            apply Exists.intro
            refine ⟨fun wq K' hK' => ?_, ?_⟩
            · go_wp2_with fail
              exact hK'
            go_simp
            refine hK _ ?_
            clear hK K
            refine tree_e rfl rfl (fun K hK => ?_)
            go_wp2_with fail
            try go_simp
            refine hK _ _ (gr_alloc (gr_trans hgW2 (World.grownBy.refl _ _)) _) ?_
            clear hK K
            obtain ⟨w88, hw88⟩ : ∃ x, x = (W2).alloc (.cells [.int .i64 n0, .int .i64 n1, .int .i64 n2].toArray 46) := ⟨_, rfl⟩
            have hg88 : (W2).grownBy w88 none := by rw [hw88]; exact gr_alloc (World.grownBy.refl _ _) _
            have hb88 : Box w88 (W2).heap.size 46 [.int .i64 n0, .int .i64 n1, .int .i64 n2] := by rw [hw88]; exact Box.new _ _ _
            rw [← hw88]
            clear hw88
            obtain ⟨x88, hx88⟩ : ∃ x, x = (W2).heap.size := ⟨_, rfl⟩
            rw [← hx88] at hb88 ⊢
            have hxl88 : (W2).heap.size ≤ x88 := by omega
            clear hx88
            have hg488 : w4.grownBy w88 none := gr_trans hgW2 hg88
            have hV88 := hV4.pure hg488
            have hF88 := hF4.pure hg488
            have hbox88 := hbox4.pure hg488
            refine tree_e0 (by kernel_rfl) rfl rfl (fun K hK => ?_)
            refine wp_pushAt (α := V3) _ (.tmp 46) (.tmp 57) _ rfl lo 46 i0 _ 24 Tryz.underlying26 hi hz h1 h2 rfl _ _ _ st.vs rfl (by first | rfl | exact rfl) (by first | exact hV88 | exact hF88) 0 ⟨x88, 0, none⟩ _ _ [(⟨n0, n1, n2⟩ : V3)] rfl rfl (hb88.sl ⟨_, [], rfl, rfl, rfl⟩ (Nat.zero_le _) (by simp [maxLen])) ?_ ?_ ?_ ?_
            · simp; omega
            · simp [maxLen]; omega
            · have := (hg488).size; omega
            intro A5 c5 w5 hown5 hG5
            have hblkV : ∀ g, blk A1 = some g → lo ≤ g := fun g hgg => (hV88.blk_lt hgg).1
            have hblkF : ∀ g, blk B1 = some g → lo ≤ g := fun g hgg => (hF88.blk_lt hgg).1
            have hblk : ∀ g, blk A5 = some g → lo ≤ g := fun g hgg => (hown5.blk_lt hgg).1
            have hbox5 := hbox88.gr hG5.1 (fun e => by first | (have := hblkV _ e; omega) | (have := hblkF _ e; omega))
            have hg5 := gr_row (hg04.t hg488) hG5.1 (fun g hgg => by first | (have := hblkV _ hgg; omega) | (have := hblkF _ hgg; omega))
            obtain ⟨z0, _⟩ := hbox5.c 0 rfl
            have hboxF := hbox5.set_ 0 (.slice A5 (st.vs ++ [(⟨n0, n1, n2⟩ : V3)]).length c5) (by simp)
            have hownF := hown5.set_other (g' := xo) (i := 0) (.slice A5 (st.vs ++ [(⟨n0, n1, n2⟩ : V3)]).length c5) (fun e => by have := hblk _ e; omega)
            have hO5 := hF88.ne hG5.1 (fun g e1 e2 => (hF88.ne_own hV88 (by decide) e1) e2)
            have hothF := hO5.set_other (g' := xo) (i := 0) (.slice A5 (st.vs ++ [(⟨n0, n1, n2⟩ : V3)]).length c5) (fun e => by first | (have := hblkF _ e; omega) | (have := hblkV _ e; omega))
            have hgF := gr_set hg5 (p := ⟨xo, 0, none⟩) (.inr (by simp only; omega)) (.slice A5 (st.vs ++ [(⟨n0, n1, n2⟩ : V3)]).length c5)
            have hszF : lo ≤ (w5.setCell ⟨xo, 0, none⟩ (.slice A5 (st.vs ++ [(⟨n0, n1, n2⟩ : V3)]).length c5)).heap.size := by have h9 := hg488.size; have h10 := hG5.1.size; have h11 := (gr_set (World.grownBy.refl w5 (some xo)) (p := ⟨xo, 0, none⟩) (.inl rfl) (.slice A5 (st.vs ++ [(⟨n0, n1, n2⟩ : V3)]).length c5)).size; omega
            have hlen5 : (st.vs ++ [(⟨n0, n1, n2⟩ : V3)]).length = st.vs.length + 1 := by simp
            rw [hlen5] at hownF hothF hboxF hgF hszF
            replace hlen5 := hide hlen5
            try go_simp
            refine hK _ _ trivial ?_
            clear hK K
            refine tree_n rfl rfl _ rfl _ rfl ?_
            try go_simp
            refine tree_p rfl rfl rfl rfl _ rfl (by simp) (fun K hK => ?_)
            apply Exists.intro
            refine ⟨fun wq K' hK' => ?_, ?_⟩
            · go_wp2_with fail
              exact hK'
            go_simp
            refine hK _ ?_
            clear hK K
            refine tree_e0 (by kernel_rfl) rfl rfl (fun K hK => ?_)
            go_wp2_with fail
            try go_simp
            refine hK _ _ trivial ?_
            clear hK K
            refine tree_done ?_
            go_wp2_with fail
            go_ret
            rw [hD.out]
            refine ⟨rfl, fun st2 e => ?_, hgF⟩
            injection e with e
            subst e
            exact ⟨A5, c5, B1, d1, hownF, hothF, by rw [hlen5.out]; exact hboxF, by rw [hlen5.out]; omega, by simp only; omega, hgF, h0, hxl, hszF⟩
          · have hD := hide (wM_no (st := st) hN3.out (fun e => hf e.2) (by rw [ht]; decide))
            have hf1 : ((st.fs.length : Int) == 0) = false := by rw [beq_eq_false_iff_ne]; intro e; exact hf (List.eq_nil_of_length_eq_zero (by omega))
            replace ht := hide ht
            replace hf := hide hf
            go_wp2_with fail
            all_goals (go_ret; rw [hD.out]; exact ⟨rfl, (fun st2 e => by cases e), hg04⟩)
        · have s1 : (t.toList == [118]) = false := by rw [Lib.toList_data]; exact beq_eq_false_iff_ne.2 ht
          by_cases ht2 : t.data.toList = [102]
          · have s2 : (t.toList == [102]) = true := by rw [Lib.toList_data, ht2]; rfl
            have hD := hide (wM_f (st := st) hN3.out ht2)
            replace ht := hide ht
            replace ht2 := hide ht2
            go_upto_region 11 with fail
            obtain ⟨y0, _⟩ := hbox4.c 1 rfl
            obtain ⟨i0, hi, hz, h1, h2⟩ := info_parts info_face
            refine wp_region_tree (fun wx => w4.grownBy wx none) [2, 2, 2, 2, 1, 2, 2, 1, 2, 2, 1, 2, 2, 1, 2, 0, 0, 2, 2, 0] (.bl 0 (.bl 1 (.bl 2 (.bl 3 (.bl 4 (.bl 5 (.bl 6 (.bl 7 (.bl 8 (.bl 9 (.bl 10 (.bl 11 (.bl 12 (.bl 13 (.bl 14 (.ef 15 (.ef 16 (.bl 17 (.bl 18 (.ef 19 .done)))))))))))))))))))) (by kernel_rfl) (by kernel_rfl) (gr_drew (World.grownBy.refl _ _)) ?_
            obtain ⟨W2, hW2⟩ : ∃ x, x = (w4).drew := ⟨_, rfl⟩
            rw [← hW2]
            have hgW2 : (w4).grownBy W2 none := by rw [hW2]; exact gr_drew (World.grownBy.refl _ _)
            clear hW2
            refine tree_p rfl rfl rfl rfl _ rfl (by simp) (fun K hK => ?_)
            apply Exists.intro
            refine ⟨fun wq K' hK' => ?_, ?_⟩
            · go_wp2_with fail
              exact hK'
            go_simp
            refine hK _ ?_
            clear hK K
            refine tree_p rfl rfl rfl rfl _ rfl (by simp) (fun K hK => ?_)
            apply Exists.intro
            refine ⟨fun wq K' hK' => ?_, ?_⟩
            · go_wp2_with fail
              exact hK'
            go_simp
            refine hK _ ?_
            clear hK K
            refine tree_n rfl rfl _ rfl _ rfl ?_
            try go_simp
            refine tree_p rfl rfl rfl rfl _ rfl (by simp) (fun K hK => ?_)
            apply Exists.intro
            refine ⟨fun wq K' hK' => ?_, ?_⟩
            · go_wp2_with fail
              exact hK'
            go_simp
            refine hK _ ?_
            clear hK K
            refine tree_b rfl rfl rfl rfl _ rfl (by simp) (fun K hK => ?_)
            apply Exists.intro
            refine ⟨fun wq hq K' hK' => ?_, ?_⟩
            · have u0 := hq.k y0
              have u1 := hq.k v0
              have u2 := hq.k v1
              have u3 := hq.k v2
              go_wp2_with fail
              exact hK'
            go_simp
            refine hK _ ?_
            clear hK K
            refine tree_p rfl rfl rfl rfl _ rfl (by simp) (fun K hK => ?_)
            apply Exists.intro
            refine ⟨fun wq K' hK' => ?_, ?_⟩
            · go_wp2_with fail
              exact hK'
            go_simp
            refine hK _ ?_
            clear hK K
            refine tree_p rfl rfl rfl rfl _ rfl (by simp) (fun K hK => ?_)
            apply Exists.intro
            refine ⟨fun wq K' hK' => ?_, ?_⟩
            · go_wp2_with fail
              exact hK'
            go_simp
            refine hK _ ?_
            clear hK K
            refine tree_b rfl rfl rfl rfl _ rfl (by simp) (fun K hK => ?_)
            apply Exists.intro
            refine ⟨fun wq hq K' hK' => ?_, ?_⟩
            · have u0 := hq.k y0
              have u1 := hq.k v0
              have u2 := hq.k v1
              have u3 := hq.k v2
              go_wp2_with fail
              exact hK'
            go_simp
            refine hK _ ?_
            clear hK K
            refine tree_p rfl rfl rfl rfl _ rfl (by simp) (fun K hK => ?_)
            apply Exists.intro
            refine ⟨fun wq K' hK' => ?_, ?_⟩
            · go_wp2_with fail
              exact hK'
            go_simp
            refine hK _ ?_
            clear hK K
            refine tree_p rfl rfl rfl rfl _ rfl (by simp) (fun K hK => ?_)
            apply Exists.intro
            refine ⟨fun wq K' hK' => ?_, ?_⟩
            · go_wp2_with fail
              exact hK'
            go_simp
            refine hK _ ?_
            clear hK K
            refine tree_b rfl rfl rfl rfl _ rfl (by simp) (fun K hK => ?_)
            apply Exists.intro
            refine ⟨fun wq hq K' hK' => ?_, ?_⟩
            · have u0 := hq.k y0
              have u1 := hq.k v0
              have u2 := hq.k v1
              have u3 := hq.k v2
              go_wp2_with fail
              exact hK'
            go_simp
            refine hK _ ?_
            clear hK K
            refine tree_p rfl rfl rfl rfl _ rfl (by simp) (fun K hK => ?_)
            apply Exists.intro
            refine ⟨fun wq K' hK' => ?_, ?_⟩
            · go_wp2_with fail
              exact hK'
            go_simp
            refine hK _ ?_
            clear hK K
            refine tree_p rfl rfl rfl rfl _ rfl (by simp) (fun K hK => ?_)
            apply Exists.intro
            refine ⟨fun wq K' hK' => ?_, ?_⟩
            · go_wp2_with fail
              exact hK'
            go_simp
            refine hK _ ?_
            clear hK K
            refine tree_b rfl rfl rfl rfl _ rfl (by simp) (fun K hK => ?_)
            apply Exists.intro
            refine ⟨fun wq hq K' hK' => ?_, ?_⟩
            · have u0 := hq.k y0
              have u1 := hq.k v0
              have u2 := hq.k v1
              have u3 := hq.k v2
              go_wp2_with fail
              exact hK'
            go_simp
            refine hK _ ?_
            clear hK K
            refine tree_p rfl rfl rfl rfl _ rfl (by simp) (fun K hK => ?_)
            apply Exists.intro
            refine ⟨fun wq K' hK' => ?_, ?_⟩
            · go_wp2_with fail
              exact hK'
            go_simp
            refine hK _ ?_
            clear hK K
            refine tree_e rfl rfl (fun K hK => ?_)
            go_wp2_with fail
            try go_simp
            refine hK _ _ (gr_alloc (gr_trans hgW2 (World.grownBy.refl _ _)) _) ?_
            clear hK K
            obtain ⟨w88, hw88⟩ : ∃ x, x = (W2).alloc (.cells [.int .i64 n0, .int .i64 n1, .int .i64 n2].toArray 51) := ⟨_, rfl⟩
            have hg88 : (W2).grownBy w88 none := by rw [hw88]; exact gr_alloc (World.grownBy.refl _ _) _
            have hb88 : Box w88 (W2).heap.size 51 [.int .i64 n0, .int .i64 n1, .int .i64 n2] := by rw [hw88]; exact Box.new _ _ _
            rw [← hw88]
            clear hw88
            obtain ⟨x88, hx88⟩ : ∃ x, x = (W2).heap.size := ⟨_, rfl⟩
            rw [← hx88] at hb88 ⊢
            have hxl88 : (W2).heap.size ≤ x88 := by omega
            clear hx88
            have hg488 : w4.grownBy w88 none := gr_trans hgW2 hg88
            have hV88 := hV4.pure hg488
            have hF88 := hF4.pure hg488
            have hbox88 := hbox4.pure hg488
            refine tree_e0 (by kernel_rfl) rfl rfl (fun K hK => ?_)
            refine wp_pushAt (α := Fc) _ (.tmp 70) (.tmp 81) _ rfl lo 51 i0 _ 24 Tryz.underlying27 hi hz h1 h2 rfl _ _ _ st.fs rfl (by first | rfl | exact rfl) (by first | exact hV88 | exact hF88) 0 ⟨x88, 0, none⟩ _ _ [(⟨n0, n1, n2⟩ : Fc)] rfl rfl (hb88.sl ⟨_, [], rfl, rfl, rfl⟩ (Nat.zero_le _) (by simp [maxLen])) ?_ ?_ ?_ ?_
            · simp; omega
            · simp [maxLen]; omega
            · have := (hg488).size; omega
            intro A5 c5 w5 hown5 hG5
            have hblkV : ∀ g, blk A1 = some g → lo ≤ g := fun g hgg => (hV88.blk_lt hgg).1
            have hblkF : ∀ g, blk B1 = some g → lo ≤ g := fun g hgg => (hF88.blk_lt hgg).1
            have hblk : ∀ g, blk A5 = some g → lo ≤ g := fun g hgg => (hown5.blk_lt hgg).1
            have hbox5 := hbox88.gr hG5.1 (fun e => by first | (have := hblkV _ e; omega) | (have := hblkF _ e; omega))
            have hg5 := gr_row (hg04.t hg488) hG5.1 (fun g hgg => by first | (have := hblkV _ hgg; omega) | (have := hblkF _ hgg; omega))
            obtain ⟨z0, _⟩ := hbox5.c 1 rfl
            have hboxF := hbox5.set_ 1 (.slice A5 (st.fs ++ [(⟨n0, n1, n2⟩ : Fc)]).length c5) (by simp)
            have hownF := hown5.set_other (g' := xo) (i := 1) (.slice A5 (st.fs ++ [(⟨n0, n1, n2⟩ : Fc)]).length c5) (fun e => by have := hblk _ e; omega)
            have hO5 := hV88.ne hG5.1 (fun g e1 e2 => (hV88.ne_own hF88 (by decide) e1) e2)
            have hothF := hO5.set_other (g' := xo) (i := 1) (.slice A5 (st.fs ++ [(⟨n0, n1, n2⟩ : Fc)]).length c5) (fun e => by first | (have := hblkF _ e; omega) | (have := hblkV _ e; omega))
            have hgF := gr_set hg5 (p := ⟨xo, 1, none⟩) (.inr (by simp only; omega)) (.slice A5 (st.fs ++ [(⟨n0, n1, n2⟩ : Fc)]).length c5)
            have hszF : lo ≤ (w5.setCell ⟨xo, 1, none⟩ (.slice A5 (st.fs ++ [(⟨n0, n1, n2⟩ : Fc)]).length c5)).heap.size := by have h9 := hg488.size; have h10 := hG5.1.size; have h11 := (gr_set (World.grownBy.refl w5 (some xo)) (p := ⟨xo, 1, none⟩) (.inl rfl) (.slice A5 (st.fs ++ [(⟨n0, n1, n2⟩ : Fc)]).length c5)).size; omega
            have hlen5 : (st.fs ++ [(⟨n0, n1, n2⟩ : Fc)]).length = st.fs.length + 1 := by simp
            rw [hlen5] at hownF hothF hboxF hgF hszF
            replace hlen5 := hide hlen5
            try go_simp
            refine hK _ _ trivial ?_
            clear hK K
            refine tree_n rfl rfl _ rfl _ rfl ?_
            try go_simp
            refine tree_p rfl rfl rfl rfl _ rfl (by simp) (fun K hK => ?_)
            apply Exists.intro
            refine ⟨fun wq K' hK' => ?_, ?_⟩
            · go_wp2_with fail
              exact hK'
            go_simp
            refine hK _ ?_
            clear hK K
            refine tree_e0 (by kernel_rfl) rfl rfl (fun K hK => ?_)
            go_wp2_with fail
            try go_simp
            refine hK _ _ trivial ?_
            clear hK K
            refine tree_done ?_
            go_wp2_with fail
            go_ret
            rw [hD.out]
            refine ⟨rfl, fun st2 e => ?_, hgF⟩
            injection e with e
            subst e
            exact ⟨A1, c1, A5, c5, hothF, hownF, by rw [hlen5.out]; exact hboxF, by simp only; omega, by rw [hlen5.out]; omega, hgF, h0, hxl, hszF⟩
          · have s2 : (t.toList == [102]) = false := by rw [Lib.toList_data]; exact beq_eq_false_iff_ne.2 ht2
            have hD := hide (wM_no (st := st) hN3.out (fun e => ht e.1) ht2)
            replace ht := hide ht
            replace ht2 := hide ht2
            go_wp2_with fail
            all_goals (go_ret; rw [hD.out]; exact ⟨rfl, (fun st2 e => by cases e), hg04⟩)
    · have hD := hide (wM_len (st := st) h4)
      have hb4 : ((ps.length : Int) != 4) = true := by simp; omega
      replace h4 := hide h4
      replace hok := hide hok
      go_wp2_with fail
      all_goals (go_ret; rw [hD.out]; exact ⟨rfl, (fun st2 e => by cases e), hgA⟩)

set_option maxHeartbeats 8000000 in
set_option maxRecDepth 100000 in
theorem rdmClo_any (W0 : World) (xo lo k : Nat) (st : MeshV) (x : ByteArray) (w : World) (hS : RdM W0 xo lo k st w) (hx : x.size ≤ 200000) (hk : k ≤ 300000) (hT : Tab W0) :
    Calls Tryz.prog 43 #[.string x, .pointer (some ⟨xo, 0, none⟩)] w fun e w' => e = .returned (.bool (stepM st x.data.toList).isSome) ∧ (∀ st', stepM st x.data.toList = some st' → RdM W0 xo lo (k + 1) st' w') ∧ W0.grownBy w' none := by
  obtain ⟨A1, c1, B1, d1, hV, hF, hbox, hkv, hkf, hg, h0, hxl, hlo⟩ := hS
  have hW := split_any x 32 w (by omega)
  obtain ⟨hp1, hp2⟩ := piecesB_small 32 hx
  rw [stepM_pieces]
  generalize piecesB 32 x = ps at *
  go_enter Tryz.func43, Tryz.ntmps43
  go_wp2_with fail
  refine hW.mono ?_
  rintro e w3 ⟨rfl, hl', hg3⟩
  clear hW
  have hl := hl'.mono (Nat.zero_le _)
  clear hl'
  have hgA := hg.t hg3
  generalize (some ⟨w.heap.size, 0, none⟩ : Option Addr) = A3 at *
  by_cases h4 : ps.length = 4
  · obtain ⟨t, a, b, c, rfl⟩ : ∃ t a b c, ps = [t, a, b, c] := by
      match ps, h4 with
      | [t, a, b, c], _ => exact ⟨t, a, b, c, rfl⟩
    clear h4
    obtain ⟨g, o, rfl, -, hgl⟩ := Sl.cells hl (by simp) (by decide)
    have hl1 : Sl w3 0 (some ⟨g, o + 1, none⟩) [a, b, c] := hl.drop 1
    have hN := fun cc wx (hx : w3.grownBy wx none) => numbersIn_any (some ⟨g, o + 1, none⟩) cc [a, b, c] wx (hl1.pure hx) (fun u hu => hp1 u (List.mem_cons_of_mem _ hu)) (by simp) (hT.gr (hgA.t hx))
    obtain ⟨R, hR⟩ : ∃ R, numsB [a, b, c] = R := ⟨_, rfl⟩
    rw [hR] at hN
    simp only [List.length_cons, List.length_nil, Nat.zero_add, Nat.reduceAdd] at hN
    cases R with
    | none =>
      have hD := hide (wM_none (st := st) (t := t) hR)
      simp only [Option.isSome_none] at hN
      replace hR := hide hR
      clear hl1 hp1
      go_wp2_with fail
      refine (hN _ _ (World.grownBy.refl _ _)).mono ?_
      rintro e w4 ⟨A4, r, c4, rfl, -, -, hO4, hg4⟩
      clear hN
      go_wp2_with fail
      all_goals (go_ret; rw [hD.out]; exact ⟨rfl, (fun st2 e => by cases e), hgA.t hg4⟩)
    | some r =>
      obtain ⟨n0, n1, n2, rfl⟩ : ∃ n0 n1 n2, r = [n0, n1, n2] := by
        have := numsK_len hR
        match r, this with
        | [x, y, z], _ => exact ⟨x, y, z, rfl⟩
      simp only [Option.isSome_some] at hN
      have hN3 := hide hR
      clear hR hl1 hp1
      go_wp2_with fail
      refine (hN _ _ (World.grownBy.refl _ _)).mono ?_
      rintro e w4 ⟨A4, r, c4, rfl, -, hr, hO4, hg4⟩
      obtain rfl := hr _ rfl
      clear hN hr
      have hl4 := hO4.sl.mono (Nat.zero_le _)
      clear hO4
      have hV4 := hV.pure (hg3.t hg4)
      have hF4 := hF.pure (hg3.t hg4)
      have hbox4 := hbox.pure (hg3.t hg4)
      have hg04 := hgA.t hg4
      have hsz4 : lo ≤ w4.heap.size := Nat.le_trans hlo (hg3.t hg4).size
      obtain ⟨g4, o4, rfl, -, hgl4⟩ := Sl.cells hl4 (by simp) (by decide)
      have v0 : w4.cell? ⟨g4, o4, none⟩ = some (.int .i64 n0) := by
        obtain ⟨g', o', cx, e, _, _, rfl, hc⟩ := hl4.at_ (by decide) (show 0 < 3 by decide)
        cases e
        exact hc 0 _ rfl
      have v1 : w4.cell? ⟨g4, o4 + 1, none⟩ = some (.int .i64 n1) := by
        obtain ⟨g', o', cx, e, _, _, rfl, hc⟩ := hl4.at_ (by decide) (show 1 < 3 by decide)
        cases e
        exact hc 0 _ rfl
      have v2 : w4.cell? ⟨g4, o4 + 2, none⟩ = some (.int .i64 n2) := by
        obtain ⟨g', o', cx, e, _, _, rfl, hc⟩ := hl4.at_ (by decide) (show 2 < 3 by decide)
        cases e
        exact hc 0 _ rfl
      have tc := (hl.pure hg4).at_ (by decide) (show 0 < 4 by decide)
      have t0 : w4.cell? ⟨g, o, none⟩ = some (.string t) := by
        obtain ⟨g', o', cx, e, _, _, rfl, hc⟩ := tc
        cases e
        exact hc 0 _ rfl
      clear tc
      obtain ⟨f0, _⟩ := hbox4.c 1 rfl
      by_cases ht : t.data.toList = [118]
      · have s1 : (t.toList == [118]) = true := by rw [Lib.toList_data, ht]; rfl
        have s2 : (t.toList == [102]) = false := by rw [Lib.toList_data, ht]; rfl
        by_cases hf : st.fs = []
        · have hD := hide (wM_v (st := st) hN3.out ht hf)
          have hf0 : st.fs.length = 0 := by rw [hf]; rfl
          have hf1 : ((st.fs.length : Int) == 0) = true := by rw [hf0]; rfl
          replace ht := hide ht
          replace hf := hide hf
          replace hf0 := hide hf0
          go_upto_region 7 with fail
          obtain ⟨y0, _⟩ := hbox4.c 0 rfl
          obtain ⟨i0, hi, hz, h1, h2⟩ := info_parts info_v3
          refine wp_region_tree (fun wx => w4.grownBy wx none) [2, 1, 2, 2, 1, 2, 2, 1, 2, 2, 1, 2, 0, 0, 2, 0] (.bl 0 (.bl 1 (.bl 2 (.bl 3 (.bl 4 (.bl 5 (.bl 6 (.bl 7 (.bl 8 (.bl 9 (.bl 10 (.bl 11 (.ef 12 (.ef 13 (.bl 14 (.ef 15 .done)))))))))))))))) (by kernel_rfl) (by kernel_rfl) (gr_drew (World.grownBy.refl _ _)) ?_
          obtain ⟨W2, hW2⟩ : ∃ x, x = (w4).drew := ⟨_, rfl⟩
          rw [← hW2]
          have hgW2 : (w4).grownBy W2 none := by rw [hW2]; exact gr_drew (World.grownBy.refl _ _)
          clear hW2
          refine tree_p rfl rfl rfl rfl _ rfl (by simp) (fun K hK => ?_)
          apply Exists.intro
          refine ⟨fun wq K' hK' => ?_, ?_⟩
          · go_wp2_with fail
            exact hK'
          go_simp
          refine hK _ ?_
          clear hK K
          refine tree_b rfl rfl rfl rfl _ rfl (by simp) (fun K hK => ?_)
          apply Exists.intro
          refine ⟨fun wq hq K' hK' => ?_, ?_⟩
          · have u0 := hq.k y0
            have u1 := hq.k v0
            have u2 := hq.k v1
            have u3 := hq.k v2
            go_wp2_with fail
            exact hK'
          go_simp
          refine hK _ ?_
          clear hK K
          refine tree_p rfl rfl rfl rfl _ rfl (by simp) (fun K hK => ?_)
          apply Exists.intro
          refine ⟨fun wq K' hK' => ?_, ?_⟩
          · go_wp2_with fail
            exact hK'
          go_simp
          refine hK _ ?_
          clear hK K
          refine tree_p rfl rfl rfl rfl _ rfl (by simp) (fun K hK => ?_)
          apply Exists.intro
          refine ⟨fun wq K' hK' => ?_, ?_⟩
          · go_wp2_with fail
            exact hK'
          go_simp
          refine hK _ ?_
          clear hK K
          refine tree_b rfl rfl rfl rfl _ rfl (by simp) (fun K hK => ?_)
          apply Exists.intro
          refine ⟨fun wq hq K' hK' => ?_, ?_⟩
          · have u0 := hq.k y0
            have u1 := hq.k v0
            have u2 := hq.k v1
            have u3 := hq.k v2
            go_wp2_with fail
            exact hK'
          go_simp
          refine hK _ ?_
          clear hK K
          refine tree_p rfl rfl rfl rfl _ rfl (by simp) (fun K hK => ?_)
          apply Exists.intro
          refine ⟨fun wq K' hK' => ?_, ?_⟩
          · go_wp2_with fail
            exact hK'
          go_simp
          refine hK _ ?_
          clear hK K
          refine tree_p rfl rfl rfl rfl _ rfl (by simp) (fun K hK => ?_)
          apply Exists.intro
          refine ⟨fun wq K' hK' => ?_, ?_⟩
          · go_wp2_with fail
            exact hK'
          go_simp
          refine hK _ ?_
          clear hK K
          refine tree_b rfl rfl rfl rfl _ rfl (by simp) (fun K hK => ?_)
          apply Exists.intro
          refine ⟨fun wq hq K' hK' => ?_, ?_⟩
          · have u0 := hq.k y0
            have u1 := hq.k v0
            have u2 := hq.k v1
            have u3 := hq.k v2
            go_wp2_with fail
            exact hK'
          go_simp
          refine hK _ ?_
          clear hK K
          refine tree_p rfl rfl rfl rfl _ rfl (by simp) (fun K hK => ?_)
          apply Exists.intro
          refine ⟨fun wq K' hK' => ?_, ?_⟩
          · go_wp2_with fail
            exact hK'
          go_simp
          refine hK _ ?_
          clear hK K
          refine tree_p rfl rfl rfl rfl _ rfl (by simp) (fun K hK => ?_)
          apply Exists.intro
          refine ⟨fun wq K' hK' => ?_, ?_⟩
          · go_wp2_with fail
            exact hK'
          go_simp
          refine hK _ ?_
          clear hK K
          refine tree_b rfl rfl rfl rfl _ rfl (by simp) (fun K hK => ?_)
          apply Exists.intro
          refine ⟨fun wq hq K' hK' => ?_, ?_⟩
          · have u0 := hq.k y0
            have u1 := hq.k v0
            have u2 := hq.k v1
            have u3 := hq.k v2
            go_wp2_with fail
            exact hK'
          go_simp
          refine hK _ ?_
          clear hK K
          refine tree_p rfl rfl rfl rfl _ rfl (by simp) (fun K hK => ?_)
          apply Exists.intro
          refine ⟨fun wq K' hK' => ?_, ?_⟩
          · go_wp2_with fail
            exact hK'
          go_simp
          refine hK _ ?_
          clear hK K
          refine tree_e rfl rfl (fun K hK => ?_)
          go_wp2_with fail
          try go_simp
          refine hK _ _ (gr_alloc (gr_trans hgW2 (World.grownBy.refl _ _)) _) ?_
          clear hK K
          obtain ⟨w88, hw88⟩ : ∃ x, x = (W2).alloc (.cells [.int .i64 n0, .int .i64 n1, .int .i64 n2].toArray 46) := ⟨_, rfl⟩
          have hg88 : (W2).grownBy w88 none := by rw [hw88]; exact gr_alloc (World.grownBy.refl _ _) _
          have hb88 : Box w88 (W2).heap.size 46 [.int .i64 n0, .int .i64 n1, .int .i64 n2] := by rw [hw88]; exact Box.new _ _ _
          rw [← hw88]
          clear hw88
          obtain ⟨x88, hx88⟩ : ∃ x, x = (W2).heap.size := ⟨_, rfl⟩
          rw [← hx88] at hb88 ⊢
          have hxl88 : (W2).heap.size ≤ x88 := by omega
          clear hx88
          have hg488 : w4.grownBy w88 none := gr_trans hgW2 hg88
          have hV88 := hV4.pure hg488
          have hF88 := hF4.pure hg488
          have hbox88 := hbox4.pure hg488
          refine tree_e0 (by kernel_rfl) rfl rfl (fun K hK => ?_)
          refine wp_pushAt (α := V3) _ (.tmp 33) (.tmp 44) _ rfl lo 46 i0 _ 24 Tryz.underlying26 hi hz h1 h2 rfl _ _ _ st.vs rfl (by first | rfl | exact rfl) (by first | exact hV88 | exact hF88) 0 ⟨x88, 0, none⟩ _ _ [(⟨n0, n1, n2⟩ : V3)] rfl rfl (hb88.sl ⟨_, [], rfl, rfl, rfl⟩ (Nat.zero_le _) (by simp [maxLen])) ?_ ?_ ?_ ?_
          · simp; omega
          · simp [maxLen]; omega
          · have := (hg488).size; omega
          intro A5 c5 w5 hown5 hG5
          have hblkV : ∀ g, blk A1 = some g → lo ≤ g := fun g hgg => (hV88.blk_lt hgg).1
          have hblkF : ∀ g, blk B1 = some g → lo ≤ g := fun g hgg => (hF88.blk_lt hgg).1
          have hblk : ∀ g, blk A5 = some g → lo ≤ g := fun g hgg => (hown5.blk_lt hgg).1
          have hbox5 := hbox88.gr hG5.1 (fun e => by first | (have := hblkV _ e; omega) | (have := hblkF _ e; omega))
          have hg5 := gr_row (hg04.t hg488) hG5.1 (fun g hgg => by first | (have := hblkV _ hgg; omega) | (have := hblkF _ hgg; omega))
          obtain ⟨z0, _⟩ := hbox5.c 0 rfl
          have hboxF := hbox5.set_ 0 (.slice A5 (st.vs ++ [(⟨n0, n1, n2⟩ : V3)]).length c5) (by simp)
          have hownF := hown5.set_other (g' := xo) (i := 0) (.slice A5 (st.vs ++ [(⟨n0, n1, n2⟩ : V3)]).length c5) (fun e => by have := hblk _ e; omega)
          have hO5 := hF88.ne hG5.1 (fun g e1 e2 => (hF88.ne_own hV88 (by decide) e1) e2)
          have hothF := hO5.set_other (g' := xo) (i := 0) (.slice A5 (st.vs ++ [(⟨n0, n1, n2⟩ : V3)]).length c5) (fun e => by first | (have := hblkF _ e; omega) | (have := hblkV _ e; omega))
          have hgF := gr_set hg5 (p := ⟨xo, 0, none⟩) (.inr (by simp only; omega)) (.slice A5 (st.vs ++ [(⟨n0, n1, n2⟩ : V3)]).length c5)
          have hszF : lo ≤ (w5.setCell ⟨xo, 0, none⟩ (.slice A5 (st.vs ++ [(⟨n0, n1, n2⟩ : V3)]).length c5)).heap.size := by have h9 := hg488.size; have h10 := hG5.1.size; have h11 := (gr_set (World.grownBy.refl w5 (some xo)) (p := ⟨xo, 0, none⟩) (.inl rfl) (.slice A5 (st.vs ++ [(⟨n0, n1, n2⟩ : V3)]).length c5)).size; omega
          have hlen5 : (st.vs ++ [(⟨n0, n1, n2⟩ : V3)]).length = st.vs.length + 1 := by simp
          rw [hlen5] at hownF hothF hboxF hgF hszF
          replace hlen5 := hide hlen5
          try go_simp
          refine hK _ _ trivial ?_
          clear hK K
          refine tree_p rfl rfl rfl rfl _ rfl (by simp) (fun K hK => ?_)
          apply Exists.intro
          refine ⟨fun wq K' hK' => ?_, ?_⟩
          · go_wp2_with fail
            exact hK'
          go_simp
          refine hK _ ?_
          clear hK K
          refine tree_e0 (by kernel_rfl) rfl rfl (fun K hK => ?_)
          go_wp2_with fail
          try go_simp
          refine hK _ _ trivial ?_
          clear hK K
          refine tree_done ?_
          go_wp2_with fail
          go_ret
          rw [hD.out]
          refine ⟨rfl, fun st2 e => ?_, hgF⟩
          injection e with e
          subst e
          exact ⟨A5, c5, B1, d1, hownF, hothF, by rw [hlen5.out]; exact hboxF, by rw [hlen5.out]; omega, by simp only; omega, hgF, h0, hxl, hszF⟩
        · have hD := hide (wM_no (st := st) hN3.out (fun e => hf e.2) (by rw [ht]; decide))
          have hf1 : ((st.fs.length : Int) == 0) = false := by rw [beq_eq_false_iff_ne]; intro e; exact hf (List.eq_nil_of_length_eq_zero (by omega))
          replace ht := hide ht
          replace hf := hide hf
          go_wp2_with fail
          all_goals (go_ret; rw [hD.out]; exact ⟨rfl, (fun st2 e => by cases e), hg04⟩)
      · have s1 : (t.toList == [118]) = false := by rw [Lib.toList_data]; exact beq_eq_false_iff_ne.2 ht
        by_cases ht2 : t.data.toList = [102]
        · have s2 : (t.toList == [102]) = true := by rw [Lib.toList_data, ht2]; rfl
          have hD := hide (wM_f (st := st) hN3.out ht2)
          replace ht := hide ht
          replace ht2 := hide ht2
          go_upto_region 9 with fail
          obtain ⟨y0, _⟩ := hbox4.c 1 rfl
          obtain ⟨i0, hi, hz, h1, h2⟩ := info_parts info_face
          refine wp_region_tree (fun wx => w4.grownBy wx none) [2, 1, 2, 2, 1, 2, 2, 1, 2, 2, 1, 2, 0, 0, 2, 0] (.bl 0 (.bl 1 (.bl 2 (.bl 3 (.bl 4 (.bl 5 (.bl 6 (.bl 7 (.bl 8 (.bl 9 (.bl 10 (.bl 11 (.ef 12 (.ef 13 (.bl 14 (.ef 15 .done)))))))))))))))) (by kernel_rfl) (by kernel_rfl) (gr_drew (World.grownBy.refl _ _)) ?_
          obtain ⟨W2, hW2⟩ : ∃ x, x = (w4).drew := ⟨_, rfl⟩
          rw [← hW2]
          have hgW2 : (w4).grownBy W2 none := by rw [hW2]; exact gr_drew (World.grownBy.refl _ _)
          clear hW2
          refine tree_p rfl rfl rfl rfl _ rfl (by simp) (fun K hK => ?_)
          apply Exists.intro
          refine ⟨fun wq K' hK' => ?_, ?_⟩
          · go_wp2_with fail
            exact hK'
          go_simp
          refine hK _ ?_
          clear hK K
          refine tree_b rfl rfl rfl rfl _ rfl (by simp) (fun K hK => ?_)
          apply Exists.intro
          refine ⟨fun wq hq K' hK' => ?_, ?_⟩
          · have u0 := hq.k y0
            have u1 := hq.k v0
            have u2 := hq.k v1
            have u3 := hq.k v2
            go_wp2_with fail
            exact hK'
          go_simp
          refine hK _ ?_
          clear hK K
          refine tree_p rfl rfl rfl rfl _ rfl (by simp) (fun K hK => ?_)
          apply Exists.intro
          refine ⟨fun wq K' hK' => ?_, ?_⟩
          · go_wp2_with fail
            exact hK'
          go_simp
          refine hK _ ?_
          clear hK K
          refine tree_p rfl rfl rfl rfl _ rfl (by simp) (fun K hK => ?_)
          apply Exists.intro
          refine ⟨fun wq K' hK' => ?_, ?_⟩
          · go_wp2_with fail
            exact hK'
          go_simp
          refine hK _ ?_
          clear hK K
          refine tree_b rfl rfl rfl rfl _ rfl (by simp) (fun K hK => ?_)
          apply Exists.intro
          refine ⟨fun wq hq K' hK' => ?_, ?_⟩
          · have u0 := hq.k y0
            have u1 := hq.k v0
            have u2 := hq.k v1
            have u3 := hq.k v2
            go_wp2_with fail
            exact hK'
          go_simp
          refine hK _ ?_
          clear hK K
          refine tree_p rfl rfl rfl rfl _ rfl (by simp) (fun K hK => ?_)
          apply Exists.intro
          refine ⟨fun wq K' hK' => ?_, ?_⟩
          · go_wp2_with fail
            exact hK'
          go_simp
          refine hK _ ?_
          clear hK K
          refine tree_p rfl rfl rfl rfl _ rfl (by simp) (fun K hK => ?_)
          apply Exists.intro
          refine ⟨fun wq K' hK' => ?_, ?_⟩
          · go_wp2_with fail
            exact hK'
          go_simp
          refine hK _ ?_
          clear hK K
          refine tree_b rfl rfl rfl rfl _ rfl (by simp) (fun K hK => ?_)
          apply Exists.intro
          refine ⟨fun wq hq K' hK' => ?_, ?_⟩
          · have u0 := hq.k y0
            have u1 := hq.k v0
            have u2 := hq.k v1
            have u3 := hq.k v2
            go_wp2_with fail
            exact hK'
          go_simp
          refine hK _ ?_
          clear hK K
          refine tree_p rfl rfl rfl rfl _ rfl (by simp) (fun K hK => ?_)
          apply Exists.intro
          refine ⟨fun wq K' hK' => ?_, ?_⟩
          · go_wp2_with fail
            exact hK'
          go_simp
          refine hK _ ?_
          clear hK K
          refine tree_p rfl rfl rfl rfl _ rfl (by simp) (fun K hK => ?_)
          apply Exists.intro
          refine ⟨fun wq K' hK' => ?_, ?_⟩
          · go_wp2_with fail
            exact hK'
          go_simp
          refine hK _ ?_
          clear hK K
          refine tree_b rfl rfl rfl rfl _ rfl (by simp) (fun K hK => ?_)
          apply Exists.intro
          refine ⟨fun wq hq K' hK' => ?_, ?_⟩
          · have u0 := hq.k y0
            have u1 := hq.k v0
            have u2 := hq.k v1
            have u3 := hq.k v2
            go_wp2_with fail
            exact hK'
          go_simp
          refine hK _ ?_
          clear hK K
          refine tree_p rfl rfl rfl rfl _ rfl (by simp) (fun K hK => ?_)
          apply Exists.intro
          refine ⟨fun wq K' hK' => ?_, ?_⟩
          · go_wp2_with fail
            exact hK'
          go_simp
          refine hK _ ?_
          clear hK K
          refine tree_e rfl rfl (fun K hK => ?_)
          go_wp2_with fail
          try go_simp
          refine hK _ _ (gr_alloc (gr_trans hgW2 (World.grownBy.refl _ _)) _) ?_
          clear hK K
          obtain ⟨w88, hw88⟩ : ∃ x, x = (W2).alloc (.cells [.int .i64 n0, .int .i64 n1, .int .i64 n2].toArray 51) := ⟨_, rfl⟩
          have hg88 : (W2).grownBy w88 none := by rw [hw88]; exact gr_alloc (World.grownBy.refl _ _) _
          have hb88 : Box w88 (W2).heap.size 51 [.int .i64 n0, .int .i64 n1, .int .i64 n2] := by rw [hw88]; exact Box.new _ _ _
          rw [← hw88]
          clear hw88
          obtain ⟨x88, hx88⟩ : ∃ x, x = (W2).heap.size := ⟨_, rfl⟩
          rw [← hx88] at hb88 ⊢
          have hxl88 : (W2).heap.size ≤ x88 := by omega
          clear hx88
          have hg488 : w4.grownBy w88 none := gr_trans hgW2 hg88
          have hV88 := hV4.pure hg488
          have hF88 := hF4.pure hg488
          have hbox88 := hbox4.pure hg488
          refine tree_e0 (by kernel_rfl) rfl rfl (fun K hK => ?_)
          refine wp_pushAt (α := Fc) _ (.tmp 56) (.tmp 67) _ rfl lo 51 i0 _ 24 Tryz.underlying27 hi hz h1 h2 rfl _ _ _ st.fs rfl (by first | rfl | exact rfl) (by first | exact hV88 | exact hF88) 0 ⟨x88, 0, none⟩ _ _ [(⟨n0, n1, n2⟩ : Fc)] rfl rfl (hb88.sl ⟨_, [], rfl, rfl, rfl⟩ (Nat.zero_le _) (by simp [maxLen])) ?_ ?_ ?_ ?_
          · simp; omega
          · simp [maxLen]; omega
          · have := (hg488).size; omega
          intro A5 c5 w5 hown5 hG5
          have hblkV : ∀ g, blk A1 = some g → lo ≤ g := fun g hgg => (hV88.blk_lt hgg).1
          have hblkF : ∀ g, blk B1 = some g → lo ≤ g := fun g hgg => (hF88.blk_lt hgg).1
          have hblk : ∀ g, blk A5 = some g → lo ≤ g := fun g hgg => (hown5.blk_lt hgg).1
          have hbox5 := hbox88.gr hG5.1 (fun e => by first | (have := hblkV _ e; omega) | (have := hblkF _ e; omega))
          have hg5 := gr_row (hg04.t hg488) hG5.1 (fun g hgg => by first | (have := hblkV _ hgg; omega) | (have := hblkF _ hgg; omega))
          obtain ⟨z0, _⟩ := hbox5.c 1 rfl
          have hboxF := hbox5.set_ 1 (.slice A5 (st.fs ++ [(⟨n0, n1, n2⟩ : Fc)]).length c5) (by simp)
          have hownF := hown5.set_other (g' := xo) (i := 1) (.slice A5 (st.fs ++ [(⟨n0, n1, n2⟩ : Fc)]).length c5) (fun e => by have := hblk _ e; omega)
          have hO5 := hV88.ne hG5.1 (fun g e1 e2 => (hV88.ne_own hF88 (by decide) e1) e2)
          have hothF := hO5.set_other (g' := xo) (i := 1) (.slice A5 (st.fs ++ [(⟨n0, n1, n2⟩ : Fc)]).length c5) (fun e => by first | (have := hblkF _ e; omega) | (have := hblkV _ e; omega))
          have hgF := gr_set hg5 (p := ⟨xo, 1, none⟩) (.inr (by simp only; omega)) (.slice A5 (st.fs ++ [(⟨n0, n1, n2⟩ : Fc)]).length c5)
          have hszF : lo ≤ (w5.setCell ⟨xo, 1, none⟩ (.slice A5 (st.fs ++ [(⟨n0, n1, n2⟩ : Fc)]).length c5)).heap.size := by have h9 := hg488.size; have h10 := hG5.1.size; have h11 := (gr_set (World.grownBy.refl w5 (some xo)) (p := ⟨xo, 1, none⟩) (.inl rfl) (.slice A5 (st.fs ++ [(⟨n0, n1, n2⟩ : Fc)]).length c5)).size; omega
          have hlen5 : (st.fs ++ [(⟨n0, n1, n2⟩ : Fc)]).length = st.fs.length + 1 := by simp
          rw [hlen5] at hownF hothF hboxF hgF hszF
          replace hlen5 := hide hlen5
          try go_simp
          refine hK _ _ trivial ?_
          clear hK K
          refine tree_p rfl rfl rfl rfl _ rfl (by simp) (fun K hK => ?_)
          apply Exists.intro
          refine ⟨fun wq K' hK' => ?_, ?_⟩
          · go_wp2_with fail
            exact hK'
          go_simp
          refine hK _ ?_
          clear hK K
          refine tree_e0 (by kernel_rfl) rfl rfl (fun K hK => ?_)
          go_wp2_with fail
          try go_simp
          refine hK _ _ trivial ?_
          clear hK K
          refine tree_done ?_
          go_wp2_with fail
          go_ret
          rw [hD.out]
          refine ⟨rfl, fun st2 e => ?_, hgF⟩
          injection e with e
          subst e
          exact ⟨A1, c1, A5, c5, hothF, hownF, by rw [hlen5.out]; exact hboxF, by simp only; omega, by rw [hlen5.out]; omega, hgF, h0, hxl, hszF⟩
        · have s2 : (t.toList == [102]) = false := by rw [Lib.toList_data]; exact beq_eq_false_iff_ne.2 ht2
          have hD := hide (wM_no (st := st) hN3.out (fun e => ht e.1) ht2)
          replace ht := hide ht
          replace ht2 := hide ht2
          go_wp2_with fail
          all_goals (go_ret; rw [hD.out]; exact ⟨rfl, (fun st2 e => by cases e), hg04⟩)
  · have hD := hide (wM_len (st := st) h4)
    have hb4 : ((ps.length : Int) != 4) = true := by simp; omega
    replace h4 := hide h4
    go_wp2_with fail
    all_goals (go_ret; rw [hD.out]; exact ⟨rfl, (fun st2 e => by cases e), hgA⟩)

end Go.Proofs.YtcglkjpfnnehhaaGreatDoor

namespace Go.Proofs.YtcglkjpfnnehhaaGreatDoor
open Go Go.RowKit Go.Bl

set_option maxHeartbeats 4000000 in
set_option maxRecDepth 100000 in
theorem linesRdm_any (W0 : World) (xo lo : Nat) (s : ByteArray) (w : World) (R : MeshV × Option Nat) (S0 : MeshV) (hS : RdM W0 xo lo 0 S0 w) (hs : s.size ≤ 200000) (hT : Tab W0) (hR : readL stepM S0 0 (linesK s.data.toList).1 (linesK s.data.toList).2 = R) :
    Calls Tryz.prog 42 #[.string s, .func (.func 43) #[] #[.pointer (some ⟨xo, 0, none⟩)]] w fun e w' => (∀ st i, R = (st, some i) → e = .returned (.tuple #[.int .i64 i, .bool false]) ∧ W0.grownBy w' none) ∧ (∀ st, R = (st, none) → e = .returned (.tuple #[.int .i64 0, .bool true]) ∧ RdM W0 xo lo 200001 st w') := by
  replace hR := hide hR
  replace hS := hide hS
  go_enter Tryz.func42, Tryz.ntmps42
  go_wp2_with fail
  go_loopw [0, 6] (fun o i wr => ∃ (k : Nat) (u : ByteArray) (st : MeshV), i = .int .i64 k ∧ o = .string u ∧ k + u.size ≤ 200000 ∧ Hid (readL stepM st k (linesK u.data.toList).1 (linesK u.data.toList).2 = R) ∧ Hid (RdM W0 xo lo k st wr)) (fun _ i _ => 200001 - (intOf i).toNat)
  case atStart => exact ⟨0, s, S0, rfl, rfl, by omega, hR, hS⟩
  case round =>
    clear hR hS
    obtain ⟨k, u, st, rfl, rfl, hku, hR, hS⟩ := hrel
    have hemp : u.toList.isEmpty = u.data.toList.isEmpty := by rw [Lib.toList_data]
    by_cases h0 : u.data.toList = []
    · have hRe : R = (st, none) := by rw [← hR.out, h0]; rfl
      rw [h0] at hemp
      simp only [List.isEmpty_nil] at hemp
      replace h0 := hide h0
      replace hRe := hide hRe
      go_wp2_with fail
      go_ret2
      refine ⟨fun st2 i e => ?_, fun st2 e => ?_⟩
      · rw [hRe.out] at e; cases e
      · rw [hRe.out] at e
        injection e with e1 _
        subst e1
        exact ⟨rfl, RdM.more hS.out (by omega)⟩
    · have hne : u.data.toList.isEmpty = false := by cases h : u.data.toList with
        | nil => exact absurd h h0
        | cons => rfl
      rw [hne] at hemp
      have hgS : W0.grownBy wr none := RdM.gr hS.out
      by_cases h10 : (10 : UInt8) ∈ u.data.toList
      · obtain ⟨x, r, hxr, hx⟩ := first_at h10
        have hu : u = mkB (x ++ 10 :: r) := mkB_ext hxr
        subst hu
        rw [mkB_data] at *
        have hul : (mkB (x ++ 10 :: r)).size = x.length + r.length + 1 := by rw [mkB_size]; simp; omega
        rw [hul] at hku
        have hcut := cut_hit x r 10 wr hx (by omega)
        have hR2 := hR.out
        rw [linesK_hit r hx] at hR2
        have hCl := fun wx (hSx : RdM W0 xo lo k st wx) => rdmClo_any W0 xo lo k st (mkB x) wx hSx (by rw [mkB_size]; omega) (by omega) hT
        rw [mkB_data] at hCl
        have hSg : ∀ wx, wr.grownBy wx none → RdM W0 xo lo k st wx := fun wx hgx => RdM.up hS.out hgx
        generalize hU : mkB (x ++ 10 :: r) = U at *
        clear hxr h10 h0 hne hul hU hR hS
        cases hst : stepM st x with
        | none =>
          rw [hst] at hCl
          rw [readL_bad _ _ _ hst] at hR2
          replace hR2 := hide hR2
          replace hx := hide hx
          clear hst
          go_wp2_with fail
          refine hcut.mono ?_
          rintro e w2 ⟨rfl, hg2⟩
          clear hcut
          go_wp2_with fail
          refine (hCl _ (hSg _ hg2)).mono ?_
          rintro e w3 ⟨rfl, -, hg3⟩
          go_wp2_with fail
          all_goals go_ret2
          all_goals exact ⟨fun st2 i e => by rw [← hR2.out] at e; injection e with e1 e2; injection e2 with e2; subst e2; exact ⟨rfl, hg3⟩, fun st2 e => by rw [← hR2.out] at e; cases e⟩
        | some st2 =>
          rw [hst] at hCl
          rw [readL_good _ _ _ hst (linesK_rest r)] at hR2
          replace hR2 := hide hR2
          replace hx := hide hx
          clear hst
          go_wp2_with fail
          refine hcut.mono ?_
          rintro e w2 ⟨rfl, hg2⟩
          clear hcut
          go_wp2_with fail
          refine (hCl _ (hSg _ hg2)).mono ?_
          rintro e w3 ⟨rfl, hn, hg3⟩
          have hS3 := hide (hn st2 rfl)
          go_wp2_with fail
          first
            | exact ⟨⟨k + 1, mkB r, st2, by go_num, rfl, by rw [mkB_size]; omega, hR2, hS3⟩, by simp [intOf]; omega⟩
            | (go_roundw; (case rel => exact ⟨k + 1, mkB r, st2, by go_num, rfl, by rw [mkB_size]; omega, hR2, hS3⟩); (case measure => simp [intOf]; omega))
      · have hR2 := hR.out
        rw [linesK_none h0 h10, readL_open] at hR2
        have hcut := cut_miss u 10 wr h10
        replace hR2 := hide hR2
        replace h0 := hide h0
        replace h10 := hide h10
        clear hR hS hne
        go_wp2_with fail
        refine hcut.mono ?_
        rintro e w2 ⟨rfl, hg2⟩
        clear hcut
        go_wp2_with fail
        all_goals go_ret2
        all_goals exact ⟨fun st2 i e => by rw [← hR2.out] at e; injection e with e1 e2; injection e2 with e2; subst e2; exact ⟨rfl, hgS.t hg2⟩, fun st2 e => by rw [← hR2.out] at e; cases e⟩

theorem rdM_start (w : World) : RdM w w.heap.size (w.heap.size + 1) 0 noM { w with heap := w.heap.push (.cells #[.slice none 0 0, .slice none 0 0] 29) } := by
  have hga := gr_alloc (World.grownBy.refl w none) (.cells #[.slice none 0 0, .slice none 0 0] 29)
  refine ⟨none, 0, none, 0, Own.nil _ _ _, Own.nil _ _ _, Box.new w _ _, Nat.le_refl _, Nat.le_refl _, hga, Nat.le_refl _, Nat.lt_succ_self _, ?_⟩
  simp
/-- two cells of the result's box are set: all else stays -/
theorem res_gr {w wz : World} {xr : Nat} (hg : w.grownBy wz none) (hx : w.heap.size ≤ xr) (v1 v2 : Value) : w.grownBy ((wz.setCell ⟨xr, 0, none⟩ v1).setCell ⟨xr, 1, none⟩ v2) none :=
  gr_set (gr_set hg (p := ⟨xr, 0, none⟩) (.inr hx) v1) (p := ⟨xr, 1, none⟩) (.inr hx) v2

theorem res_sl {α : Type} [Enc α] {wz : World} {xr lo : Nat} {A : Option Addr} {l : List α} (h : Sl wz lo A l) (hx : xr < lo) (v1 v2 : Value) : Sl ((wz.setCell ⟨xr, 0, none⟩ v1).setCell ⟨xr, 1, none⟩ v2) 0 A l :=
  (h.gr (gr_set (gr_set (World.grownBy.refl wz (some xr)) (p := ⟨xr, 0, none⟩) (.inl rfl) v1) (p := ⟨xr, 1, none⟩) (.inl rfl) v2) (fun g e => by injection e; omega)).mono (Nat.zero_le _)

set_option maxHeartbeats 4000000 in
set_option maxRecDepth 100000 in
theorem meshReadRef_any (s : ByteArray) (w : World) (hT : Tab w) :
    Calls Tryz.prog 13 #[.string s] w fun e w' => ∃ A c B d, e = .returned (.tuple #[.agg #[.slice A (readM s.data.toList).1.vs.length c, .slice B (readM s.data.toList).1.fs.length d], .int .i64 (readM s.data.toList).2.1, .int .i64 (readM s.data.toList).2.2]) ∧ Sl w' 0 A (readM s.data.toList).1.vs ∧ Sl w' 0 B (readM s.data.toList).1.fs ∧ w.grownBy w' none := by
  have hsz := Lib.size_eq s
  obtain ⟨RR, hRR⟩ : ∃ r, readM s.data.toList = r := ⟨_, rfl⟩
  rw [hRR]
  by_cases hbig : 200000 < s.size
  · have hend : Hid ((noM, 0, 2) = RR) := by rw [Hid, ← hRR]; unfold readM; rw [if_pos (by omega)]
    clear hRR hsz
    have hb : decide ((s.size : Int) > 200000) = true := by simp; omega
    go_enter Tryz.func13, Tryz.ntmps13
    go_upto_region 1 with fail
    obtain ⟨w2, hw2⟩ : ∃ x, x = (w).alloc (.cells [.slice none 0 0, .slice none 0 0].toArray 29) := ⟨_, rfl⟩
    have hg2 : (w).grownBy w2 none := by rw [hw2]; exact gr_alloc (World.grownBy.refl _ _) _
    have hb2 : Box w2 (w).heap.size 29 [.slice none 0 0, .slice none 0 0] := by rw [hw2]; exact Box.new _ _ _
    have hxs2 := hb2.lt
    rw [← hw2]
    clear hw2
    obtain ⟨x2, hx2⟩ : ∃ x, x = (w).heap.size := ⟨_, rfl⟩
    rw [← hx2] at hb2 hxs2 ⊢
    have hxl2 : (w).heap.size ≤ x2 := by omega
    clear hx2
    have hgE := hg2
    have hbR := hb2
    obtain ⟨r0, r1⟩ := hbR.c 0 rfl
    obtain ⟨r2, r3⟩ := hbR.c 1 rfl
    go_wp2_with fail
    exact bodyPost_ret (v := .tuple #[.agg #[.slice none 0 0, .slice none 0 0], .int .i64 0, .int .i64 2]) (by simp [results, Tryz.results13, go_sem, r0, r1, r2, r3]) rfl ⟨none, 0, none, 0, by rw [← hend.out]; rfl, by rw [← hend.out]; exact Sl.nil, by rw [← hend.out]; exact Sl.nil, res_gr hgE hxl2 _ _⟩
  · have hb : decide ((s.size : Int) > 200000) = false := by simp; omega
    obtain ⟨Q, hQ⟩ : ∃ q, readL stepM noM 0 (linesK s.data.toList).1 (linesK s.data.toList).2 = q := ⟨_, rfl⟩
    have hR : endM Q = RR := by rw [← hRR]; unfold readM; rw [if_neg (by omega), hQ]
    have hLn := fun w2 (hg2 : w.grownBy w2 none) => linesRdm_any w2 w2.heap.size (w2.heap.size + 1) s _ Q noM (rdM_start w2) (by omega) (hT.gr hg2) hQ
    clear hRR hQ hsz
    rcases Q with ⟨st, _ | i⟩
    · have hfin : finM st = RR := hR
      have hn := fun w2 wx (e : Ending) (h : (∀ st2 i, (st, (none : Option Nat)) = (st2, some i) → e = .returned (.tuple #[.int .i64 i, .bool false]) ∧ w2.grownBy wx none) ∧ (∀ st2, (st, (none : Option Nat)) = (st2, none) → e = .returned (.tuple #[.int .i64 0, .bool true]) ∧ RdM w2 w2.heap.size (w2.heap.size + 1) 200001 st2 wx)) => h.2 st rfl
      replace hfin := hide hfin
      replace hn := hide hn
      clear hR
      go_enter Tryz.func13, Tryz.ntmps13
      go_upto_region 1 with fail
      obtain ⟨w2, hw2⟩ : ∃ x, x = (w).alloc (.cells [.slice none 0 0, .slice none 0 0].toArray 29) := ⟨_, rfl⟩
      have hg2 : (w).grownBy w2 none := by rw [hw2]; exact gr_alloc (World.grownBy.refl _ _) _
      have hb2 : Box w2 (w).heap.size 29 [.slice none 0 0, .slice none 0 0] := by rw [hw2]; exact Box.new _ _ _
      have hxs2 := hb2.lt
      rw [← hw2]
      clear hw2
      obtain ⟨x2, hx2⟩ : ∃ x, x = (w).heap.size := ⟨_, rfl⟩
      rw [← hx2] at hb2 hxs2 ⊢
      have hxl2 : (w).heap.size ≤ x2 := by omega
      clear hx2
      have hLn2 := hLn w2 hg2
      clear hLn
      go_wp2_with fail
      refine hLn2.mono ?_
      intro e w4 hh
      obtain ⟨rfl, hS⟩ := hn.out _ _ _ hh
      clear hLn2 hh hn
      obtain ⟨A2, c2, B2, d2, hV, hF, hbox, hrk, hrk2, hg, h0, hxl, hlo⟩ := hS
      obtain ⟨y0, y1⟩ := hbox.c 0 rfl
      obtain ⟨y2, y3⟩ := hbox.c 1 rfl
      have hsl := hV.sl.mono (Nat.zero_le _)
      have hsf := hF.sl.mono (Nat.zero_le _)
      have hxlo : x2 < w2.heap.size + 1 := by omega
      have hC := fun wx (hx : w4.grownBy wx none) => meshFault_any A2 c2 st.vs B2 d2 st.fs wx (hsl.pure hx) (hsf.pure hx)
      obtain ⟨F, hFe⟩ : ∃ F, meshF ⟨st.vs, st.fs⟩ = F := ⟨_, rfl⟩
      rw [hFe] at hC
      have hend := hfin.out
      unfold finM at hend
      have hst : st = ⟨st.vs, st.fs⟩ := rfl
      rw [show meshF st = F from hFe] at hend
      clear hst hFe hfin
      by_cases hF0 : F = 0
      · subst hF0
        rw [if_pos rfl] at hend
        replace hend := hide hend
        go_wp2_with fail
        refine (hC _ (World.grownBy.refl _ _)).mono ?_
        rintro e w3 ⟨rfl, hg3⟩
        have hb3 := hbox.pure hg3
        obtain ⟨z0, z1⟩ := hb3.c 0 rfl
        obtain ⟨z2, z3⟩ := hb3.c 1 rfl
        have hbR := hb2.pure (hg.t hg3)
        have hgE := hg2.t (hg.t hg3)
        clear hC y0 y1 y2 y3
        obtain ⟨r0, r1⟩ := hbR.c 0 rfl
        obtain ⟨r2, r3⟩ := hbR.c 1 rfl
        go_wp2_with fail
        exact bodyPost_ret (v := .tuple #[.agg #[.slice A2 st.vs.length c2, .slice B2 st.fs.length d2], .int .i64 0, .int .i64 0]) (by simp [results, Tryz.results13, go_sem, r0, r1, r2, r3]) rfl ⟨A2, c2, B2, d2, by rw [← hend.out], by rw [← hend.out]; exact res_sl (hV.sl.pure hg3) hxlo _ _, by rw [← hend.out]; exact res_sl (hF.sl.pure hg3) hxlo _ _, res_gr hgE hxl2 _ _⟩
      · have hb0 : (F != 0) = true := by simp [hF0]
        rw [if_neg hF0] at hend
        replace hend := hide hend
        replace hF0 := hide hF0
        go_wp2_with fail
        refine (hC _ (World.grownBy.refl _ _)).mono ?_
        rintro e w3 ⟨rfl, hg3⟩
        clear hC
        have hbR := hb2.pure (hg.t hg3)
        have hgE := hg2.t (hg.t hg3)
        obtain ⟨r0, r1⟩ := hbR.c 0 rfl
        obtain ⟨r2, r3⟩ := hbR.c 1 rfl
        go_wp2_with fail
        exact bodyPost_ret (v := .tuple #[.agg #[.slice none 0 0, .slice none 0 0], .int .i64 0, .int .i64 F]) (by simp [results, Tryz.results13, go_sem, r0, r1, r2, r3]) rfl ⟨none, 0, none, 0, by rw [← hend.out]; rfl, by rw [← hend.out]; exact Sl.nil, by rw [← hend.out]; exact Sl.nil, res_gr hgE hxl2 _ _⟩
    · have hend : Hid ((noM, (i : Int), 9) = RR) := hR
      have hn := fun w2 wx (e : Ending) (h : (∀ st2 j, (st, some i) = (st2, some j) → e = .returned (.tuple #[.int .i64 j, .bool false]) ∧ w2.grownBy wx none) ∧ (∀ st2, (st, some i) = (st2, none) → e = .returned (.tuple #[.int .i64 0, .bool true]) ∧ RdM w2 w2.heap.size (w2.heap.size + 1) 200001 st2 wx)) => h.1 st i rfl
      replace hn := hide hn
      clear hR
      go_enter Tryz.func13, Tryz.ntmps13
      go_upto_region 1 with fail
      obtain ⟨w2, hw2⟩ : ∃ x, x = (w).alloc (.cells [.slice none 0 0, .slice none 0 0].toArray 29) := ⟨_, rfl⟩
      have hg2 : (w).grownBy w2 none := by rw [hw2]; exact gr_alloc (World.grownBy.refl _ _) _
      have hb2 : Box w2 (w).heap.size 29 [.slice none 0 0, .slice none 0 0] := by rw [hw2]; exact Box.new _ _ _
      have hxs2 := hb2.lt
      rw [← hw2]
      clear hw2
      obtain ⟨x2, hx2⟩ : ∃ x, x = (w).heap.size := ⟨_, rfl⟩
      rw [← hx2] at hb2 hxs2 ⊢
      have hxl2 : (w).heap.size ≤ x2 := by omega
      clear hx2
      have hLn2 := hLn w2 hg2
      clear hLn
      go_wp2_with fail
      refine hLn2.mono ?_
      intro e w4 hh
      obtain ⟨rfl, hgA⟩ := hn.out _ _ _ hh
      clear hLn2 hh hn
      have hbR := hb2.pure hgA
      have hgE := hg2.t hgA
      obtain ⟨r0, r1⟩ := hbR.c 0 rfl
      obtain ⟨r2, r3⟩ := hbR.c 1 rfl
      go_wp2_with fail
      exact bodyPost_ret (v := .tuple #[.agg #[.slice none 0 0, .slice none 0 0], .int .i64 i, .int .i64 9]) (by simp [results, Tryz.results13, go_sem, r0, r1, r2, r3]) rfl ⟨none, 0, none, 0, by rw [← hend.out]; rfl, by rw [← hend.out]; exact Sl.nil, by rw [← hend.out]; exact Sl.nil, res_gr hgE hxl2 _ _⟩

end Go.Proofs.YtcglkjpfnnehhaaGreatDoor

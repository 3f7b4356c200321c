/- Contracts of functions that this seat's laws reach, each: what one call returns and what it leaves in memory; no condition beyond each theorem's own hypotheses. -/
import Derived.Test.YtejmbaiioblfeaaGreatDoorZqGeoA
import Derived.Test.YtejmbaiioblfeaaGreatDoorZqPtsCat
import Derived.Test.YtejmbaiioblfeaaGreatDoorZqFlowD
import Derived.Test.YtejmbaiioblfeaaGreatDoorZqJm
set_option linter.unusedVariables false
set_option linter.unusedSimpArgs false
namespace Go.Proofs.YtejmbaiioblfeaaGreatDoor
open Go Go.RowKit Go.Bl

theorem notinP_snoc {l : List Pt} {s : Pt} {k : Nat} (h : k < l.length) (h1 : s ∉ l.take k) (h2 : s ≠ l[k]) : s ∉ l.take (k + 1) := by
  rw [take_snoc h, List.mem_append]
  rintro (e | e)
  · exact h1 e
  · exact h2 (List.mem_singleton.1 e)

set_option maxHeartbeats 800000 in
theorem indexPt_any (A : Option Addr) (c : Nat) (l : List Pt) (s : Pt) (w : World) (hl : Sl w 0 A l) :
    Calls Tryz.prog 34 #[.slice A l.length c, .agg #[.int .i64 s.x, .int .i64 s.y]] w fun e w' => ∃ r : Int, e = .returned (.int .i64 r) ∧ decide (0 ≤ r) = decide (s ∈ l) ∧ w.grownBy w' none := by
  have hm := hl.1
  unfold maxLen at hm
  have hg0 := gr_alloc (World.grownBy.refl w none) (.cells #[.int .i64 s.x, .int .i64 s.y] 29)
  have b0 := hide ((Cell.new w [.int .i64 s.x, .int .i64 s.y] 29 0 _ rfl _ rfl).1)
  have b1 := hide ((Cell.new w [.int .i64 s.x, .int .i64 s.y] 29 1 _ rfl _ rfl).1)
  go_enter Tryz.func34, Tryz.ntmps34
  go_wp2_with fail
  generalize w.alloc (.cells #[.int .i64 s.x, .int .i64 s.y] 29) = W at *
  have hWW := World.grownBy.refl W none
  go_loopw [8] (fun i wr => ∃ k : Nat, k ≤ l.length ∧ i = .int .i64 k ∧ w.grownBy wr none ∧ W.grownBy wr none ∧ Hid (s ∉ l.take k)) (fun i _ => l.length - (intOf i).toNat)
  case atStart => exact ⟨0, Nat.zero_le _, rfl, hg0, hWW, by simp [Hid]⟩
  case round =>
    obtain ⟨k, hk, rfl, hg, hgW, hall⟩ := hrel
    replace b0 := hgW.k b0.out
    replace b1 := hgW.k b1.out
    by_cases hlt : k < l.length
    · obtain ⟨g, o, cx, rfl, hb0, hb1, rfl, hc⟩ := (hl.pure hg).at_ (by decide) hlt
      have v0 : wr.cell? ⟨g, o + k * 2, none⟩ = some (.int .i64 l[k].x) := hc 0 _ rfl
      have v1 : wr.cell? ⟨g, o + k * 2 + 1, none⟩ = some (.int .i64 l[k].y) := hc 1 _ rfl
      clear hc
      have HI : Hid (l[k].x = s.x → l[k].y = s.y → s ∈ l) := fun h1 h2 => by
        have : s = l[k] := by cases hh : l[k]; cases s; simp_all
        rw [this]; exact List.getElem_mem _
      have HN : Hid (¬ (s.x = l[k].x ∧ s.y = l[k].y) → s ∉ l.take (k + 1)) := fun h => notinP_snoc hlt hall.out (fun e => h (by rw [e]; exact ⟨rfl, rfl⟩))
      generalize l[k] = y at *
      go_wp2_with fail
      refine wp_region_fix 5 ((fun wx => wr.grownBy wx none)) (by kernel_rfl) (by kernel_rfl) (gr_drew (World.grownBy.refl _ _)) ?_
      simp only [List.take_succ_cons, List.take_zero, List.drop_succ_cons, List.drop_zero]
      iterate 5 ((refine fix_b (fun K hK => ?_); apply Exists.intro; refine ⟨fun wx hC K' hK' => ?_, ?_⟩; (focus (replace hK' := hide hK'; (have c0 := hC.k b0; have c1 := hC.k b1; have c2 := hC.k v0; have c3 := hC.k v1); go_wp2_with fail; exact hK'.out _ hC)); go_simp; refine hK _ ?_; clear hK K))
      refine fix_nil ?_
      intro wz hC
      replace hg := gr_trans hg hC
      replace hgW := gr_trans hgW hC
      obtain ⟨su, sv⟩ := s
      obtain ⟨yu, yv⟩ := y
      simp only at *
      by_cases h1 : su = yu
      · subst h1
        by_cases h2 : sv = yv
        · subst h2
          go_wp2
          go_ret
          exact ⟨k, rfl, by have hX := HI.out trivial trivial; simp [hX], hg⟩
        · go_wp2
          go_roundw
          case rel => exact ⟨k + 1, by omega, by go_num, hg, hgW, HN.out (fun h => h2 h.2)⟩
          case measure => simp [intOf]; omega
      · go_wp2
        go_roundw
        case rel => exact ⟨k + 1, by omega, by go_num, hg, hgW, HN.out (fun h => h1 h.1)⟩
        case measure => simp [intOf]; omega
    · have HB : s ∉ l := by have := hall.out; rwa [List.take_of_length_le (by omega)] at this
      go_wp2
      go_ret
      exact ⟨-1, rfl, by simp [HB], hg⟩

set_option maxHeartbeats 800000 in
theorem containsPt_any (A : Option Addr) (n c : Nat) (l : List Pt) (s : Pt) (w : World) (hl : Sl w 0 A l) (hn : l.length = n) :
    Calls Tryz.prog 90 #[.slice A n c, .agg #[.int .i64 s.x, .int .i64 s.y]] w fun e w' => e = .returned (.bool (decide (s ∈ l))) ∧ w.grownBy w' none := by
  subst hn
  have hg0 := gr_alloc (World.grownBy.refl w none) (.cells #[.int .i64 s.x, .int .i64 s.y] 29)
  go_enter Tryz.func90, Tryz.ntmps90
  go_wp2_with fail
  refine (indexPt_any A c l s _ (hl.pure hg0)).mono ?_
  rintro e w1 ⟨r, rfl, hr, hg⟩
  replace hr := hide hr
  go_wp2_with fail
  go_ret
  exact ⟨ret_bool hr.out, gr_trans hg0 hg⟩

theorem info_sg : (Tryz.prog.info? 105).map (fun i => (i.zero, i.size, i.bytes)) = some (some (.agg #[.int .i64 0, .int .i64 0, .int .i64 0, .int .i64 0]), 4, 32) := by kernel_rfl

set_option maxHeartbeats 8000000 in
set_option maxRecDepth 100000 in
theorem sidesRef_any (A : Option Addr) (c : Nat) (r : List Pt) (w : World) (hsl : Sl w 0 A r) (hrl : r.length ≤ 100000) :
    Calls Tryz.prog 66 #[.slice A r.length c] w fun e w' => ∃ A' c', e = .returned (.slice A' r.length c') ∧ Own w' w.heap.size 105 A' c' (segK r r.length) ∧ w.grownBy w' none := by
  go_enter Tryz.func66, Tryz.ntmps66
  go_wp2_with fail
  go_loopw [3, 8] (fun o i wr => ∃ (m : Nat) (A' : Option Addr) (c' : Nat), m ≤ r.length ∧ i = .int .i64 m ∧ o = .slice A' (segK r m).length c' ∧ Own wr w.heap.size 105 A' c' (segK r m) ∧ w.grownBy wr none) (fun _ i _ => r.length - (intOf i).toNat)
  case atStart => exact ⟨0, none, 0, Nat.zero_le _, rfl, rfl, Own.nil _ _ _, World.grownBy.refl _ _⟩
  case round =>
    obtain ⟨m, A', c', hm2, rfl, rfl, hown, hg⟩ := hrel
    by_cases hml : m < r.length
    · obtain ⟨gr, or_, rfl, -, hbr, hcell⟩ := hsl.pt (by omega)
      obtain ⟨j1, hj1⟩ : ∃ j, j = (m + 1) % r.length := ⟨_, rfl⟩
      have hj1b : ((m : Int) + 1) % r.length = j1 := by rw [hj1]; simp
      have hj1l : j1 < r.length := by rw [hj1]; exact Nat.mod_lt _ (by omega)
      have q0 := hg.k (hcell m hml).1
      have q1 := hg.k (hcell m hml).2
      have s0 := hg.k (hcell j1 hj1l).1
      have s1 := hg.k (hcell j1 hj1l).2
      have e1 : cor r m = r[m] := cor_lt hml
      have e2 : cor r (m + 1) = r[j1] := by unfold cor; rw [← hj1]; simp [List.getD, hj1l]
      have hsn : Hid (segK r (m + 1) = segK r m ++ [⟨cor r m, cor r (m + 1)⟩]) := segK_snoc r m
      have hMl := hide (segK_len r m)
      rw [← e1] at q0 q1
      rw [← e2] at s0 s1
      generalize cor r m = p at *
      generalize cor r (m + 1) = q at *
      replace hj1 := hide hj1
      clear e1 e2 hcell
      generalize hM : segK r m = M at *
      clear hM
      go_upto_region 5 with fail
      obtain ⟨w5, hw5⟩ : ∃ x, x = (wr).alloc (.cells [.int .i64 p.x, .int .i64 p.y].toArray 29) := ⟨_, rfl⟩
      have hg5 : (wr).grownBy w5 none := by rw [hw5]; exact gr_alloc (World.grownBy.refl _ _) _
      have hb5 : Box w5 (wr).heap.size 29 [.int .i64 p.x, .int .i64 p.y] := by rw [hw5]; exact Box.new _ _ _
      have hxs5 := hb5.lt
      rw [← hw5]
      clear hw5
      obtain ⟨x5, hx5⟩ : ∃ x, x = (wr).heap.size := ⟨_, rfl⟩
      rw [← hx5] at hb5 hxs5 ⊢
      have hxl5 : (wr).heap.size ≤ x5 := by omega
      clear hx5
      replace q0 := hg5.k q0
      replace q1 := hg5.k q1
      replace s0 := hg5.k s0
      replace s1 := hg5.k s1
      replace hg := gr_trans hg hg5
      replace hown := hown.pure hg5
      obtain ⟨y0, -⟩ := hb5.c 0 rfl
      obtain ⟨y1, -⟩ := hb5.c 1 rfl
      clear hg5 q0 q1
      refine wp_region_tree (fun wx => w5.grownBy wx none) [2, 1, 2, 2, 2, 2, 2, 2, 2, 1, 2, 0, 0, 2] (.bl 0 (.bl 1 (.bl 2 (.bl 3 (.bl 4 (.bl 5 (.bl 6 (.bl 7 (.bl 8 (.bl 9 (.bl 10 (.ef 11 (.ef 12 (.bl 13 .done)))))))))))))) (by kernel_rfl) (by kernel_rfl) (gr_drew (World.grownBy.refl _ _)) ?_
      obtain ⟨W1, hW1⟩ : ∃ x, x = (w5).drew := ⟨_, rfl⟩
      rw [← hW1]
      have hgW1 : (w5).grownBy W1 none := by rw [hW1]; exact gr_drew (World.grownBy.refl _ _)
      clear hW1
      replace hg := gr_trans hg hgW1
      replace hown := hown.pure hgW1
      refine tree_p rfl rfl rfl rfl _ rfl (by simp) (fun K hK => ?_)
      apply Exists.intro
      refine ⟨fun wq K' hK' => ?_, ?_⟩
      · go_wp2_with fail
        exact hK'
      go_simp
      refine hK _ ?_
      clear hK K
      refine tree_b rfl rfl rfl rfl _ rfl (by simp) (fun K hK => ?_)
      apply Exists.intro
      refine ⟨fun wq hq K' hK' => ?_, ?_⟩
      · have ss0 := hq.k s0
        have ss1 := hq.k s1
        have yy0 := hq.k y0
        have yy1 := hq.k y1
        go_wp2_with fail
        exact hK'
      go_simp
      refine hK _ ?_
      clear hK K
      refine tree_p rfl rfl rfl rfl _ rfl (by simp) (fun K hK => ?_)
      apply Exists.intro
      refine ⟨fun wq K' hK' => ?_, ?_⟩
      · go_wp2_with fail
        exact hK'
      go_simp
      refine hK _ ?_
      clear hK K
      refine tree_p rfl rfl rfl rfl _ rfl (by simp) (fun K hK => ?_)
      apply Exists.intro
      refine ⟨fun wq K' hK' => ?_, ?_⟩
      · go_wp2_with fail
        exact hK'
      go_simp
      refine hK _ ?_
      clear hK K
      refine tree_p rfl rfl rfl rfl _ rfl (by simp) (fun K hK => ?_)
      apply Exists.intro
      refine ⟨fun wq K' hK' => ?_, ?_⟩
      · go_wp2_with fail
        exact hK'
      go_simp
      refine hK _ ?_
      clear hK K
      refine tree_p rfl rfl rfl rfl _ rfl (by simp) (fun K hK => ?_)
      apply Exists.intro
      refine ⟨fun wq K' hK' => ?_, ?_⟩
      · go_wp2_with fail
        exact hK'
      go_simp
      refine hK _ ?_
      clear hK K
      refine tree_p rfl rfl rfl rfl _ rfl (by simp) (fun K hK => ?_)
      apply Exists.intro
      refine ⟨fun wq K' hK' => ?_, ?_⟩
      · go_wp2_with fail
        exact hK'
      go_simp
      refine hK _ ?_
      clear hK K
      refine tree_p rfl rfl rfl rfl _ rfl (by simp) (fun K hK => ?_)
      apply Exists.intro
      refine ⟨fun wq K' hK' => ?_, ?_⟩
      · go_wp2_with fail
        exact hK'
      go_simp
      refine hK _ ?_
      clear hK K
      refine tree_p rfl rfl rfl rfl _ rfl (by simp) (fun K hK => ?_)
      apply Exists.intro
      refine ⟨fun wq K' hK' => ?_, ?_⟩
      · go_wp2_with fail
        exact hK'
      go_simp
      refine hK _ ?_
      clear hK K
      refine tree_b rfl rfl rfl rfl _ rfl (by simp) (fun K hK => ?_)
      apply Exists.intro
      refine ⟨fun wq hq K' hK' => ?_, ?_⟩
      · have ss0 := hq.k s0
        have ss1 := hq.k s1
        have yy0 := hq.k y0
        have yy1 := hq.k y1
        go_wp2_with fail
        exact hK'
      go_simp
      refine hK _ ?_
      clear hK K
      refine tree_p rfl rfl rfl rfl _ rfl (by simp) (fun K hK => ?_)
      apply Exists.intro
      refine ⟨fun wq K' hK' => ?_, ?_⟩
      · go_wp2_with fail
        exact hK'
      go_simp
      refine hK _ ?_
      clear hK K
      refine tree_e0 (by kernel_rfl) rfl rfl (fun K hK => ?_)
      go_wp2_with fail
      try go_simp
      refine hK _ _ trivial ?_
      clear hK K
      obtain ⟨w12, hw12⟩ : ∃ x, x = (W1).alloc (.cells [.int .i64 p.x, .int .i64 p.y, .int .i64 q.x, .int .i64 q.y].toArray 105) := ⟨_, rfl⟩
      have hg12 : (W1).grownBy w12 none := by rw [hw12]; exact gr_alloc (World.grownBy.refl _ _) _
      have hb12 : Box w12 (W1).heap.size 105 [.int .i64 p.x, .int .i64 p.y, .int .i64 q.x, .int .i64 q.y] := by rw [hw12]; exact Box.new _ _ _
      rw [← hw12]
      clear hw12
      obtain ⟨x12, hx12⟩ : ∃ x, x = (W1).heap.size := ⟨_, rfl⟩
      rw [← hx12] at hb12 ⊢
      have hxl12 : (W1).heap.size ≤ x12 := by omega
      clear hx12
      replace hg := gr_trans hg hg12
      replace hown := hown.pure hg12
      refine tree_e0 (by kernel_rfl) rfl rfl (fun K hK => ?_)
      obtain ⟨i0, hi, hz, h1, h2⟩ := info_parts info_sg
      refine wp_pushAt (α := Sg) _ (.tmp 13) (.tmp 24) _ rfl w.heap.size 105 i0 _ 32 Tryz.underlying102 hi hz h1 h2 rfl _ _ _ M rfl rfl hown 0 ⟨x12, 0, none⟩ _ _ [⟨p, q⟩] rfl rfl (hb12.sl ⟨_, [], rfl, rfl, rfl⟩ (Nat.zero_le _) (by simp [maxLen])) ?_ ?_ ?_ ?_
      · have := hMl.out; simp; omega
      · have := hMl.out; simp [maxLen]; omega
      · exact hg.size
      intro A5 c5 w5b hown5 hG5
      try go_simp
      refine hK _ _ trivial ?_
      clear hK K
      refine tree_p rfl rfl rfl rfl _ rfl (by simp) (fun K hK => ?_)
      apply Exists.intro
      refine ⟨fun wq K' hK' => ?_, ?_⟩
      · go_wp2_with fail
        exact hK'
      go_simp
      refine hK _ ?_
      clear hK K
      refine tree_done ?_
      have hg5b : w.grownBy w5b none := gr_row hg hG5.1 (fun x e => (hown.blk_lt e).1)
      have hl5 : Hid ((segK r (m + 1)).length = M.length + 1) := by rw [Hid, hsn.out, List.length_append]; rfl
      clear hown hg
      go_wp2_with fail
      first
        | exact ⟨⟨m + 1, A5, c5, by omega, by go_num, by rw [hl5.out], by rw [hsn.out]; exact hown5, hg5b⟩, by simp [intOf]; omega⟩
        | (go_roundw; (case rel => exact ⟨m + 1, A5, c5, by omega, by go_num, by rw [hl5.out], by rw [hsn.out]; exact hown5, hg5b⟩); (case measure => simp [intOf]; omega))
    · have hm3 : m = r.length := by omega
      subst hm3
      go_wp2_with fail
      go_ret
      exact ⟨A', c', by rw [segK_len]; rfl, hown, hg⟩

theorem sl_sg {w : World} {lo : Nat} {A : Option Addr} {l : List Sg} (h : Sl w lo A l) (hn : 0 < l.length) : ∃ g o, A = some ⟨g, o, none⟩ ∧ lo ≤ g ∧ g < w.heap.size ∧
    ∀ k (hk : k < l.length), (w.cell? ⟨g, o + k * 4, none⟩ = some (.int .i64 l[k].a.x) ∧ w.cell? ⟨g, o + k * 4 + 1, none⟩ = some (.int .i64 l[k].a.y)) ∧ w.cell? ⟨g, o + k * 4 + 2, none⟩ = some (.int .i64 l[k].b.x) ∧ w.cell? ⟨g, o + k * 4 + 3, none⟩ = some (.int .i64 l[k].b.y) := by
  obtain ⟨g, o, _, rfl, h1, h2, _, _⟩ := h.at_ (by decide) hn
  refine ⟨g, o, rfl, h1, h2, fun k hk => ?_⟩
  obtain ⟨g', o', c, e, _, _, rfl, hc⟩ := h.at_ (by decide) hk
  cases e
  exact ⟨⟨hc 0 _ rfl, hc 1 _ rfl⟩, hc 2 _ rfl, hc 3 _ rfl⟩

theorem points_zero {r : List Pt} (h : r.any farP = false) : ∀ p ∈ r, bdP p := fun p hp => far_bd (by have := List.any_eq_false.1 h p hp; simpa using this)

set_option maxHeartbeats 8000000 in
set_option maxRecDepth 100000 in
theorem ringFaultRef_any (A : Option Addr) (c : Nat) (r : List Pt) (w : World) (hl : Sl w 0 A r) (hrc : r.length ≤ c) :
    Calls Tryz.prog 65 #[.slice A r.length c] w fun e w' => e = .returned (.int .i64 (ringR r)) ∧ w.grownBy w' none := by
  have hm := hl.1
  unfold maxLen at hm
  have hV : Hid (ringR r = if r.length < 3 then 3 else if 500 < r.length then 2 else if r.any farP then 1 else if twiceB r then 6 else refS r) := rfl
  by_cases h3 : r.length < 3
  · have hF : Hid (ringR r = 3) := by rw [Hid, hV.out, if_pos h3]
    clear hV
    go_enter Tryz.func65, Tryz.ntmps65
    go_wp2_with fail
    go_ret
    exact ⟨ret_int hF.out.symm, World.grownBy.refl _ _⟩
  by_cases h5 : 500 < r.length
  · have hF : Hid (ringR r = 2) := by rw [Hid, hV.out, if_neg h3, if_pos h5]
    clear hV
    go_enter Tryz.func65, Tryz.ntmps65
    go_wp2_with fail
    go_ret
    exact ⟨ret_int hF.out.symm, World.grownBy.refl _ _⟩
  have hPF := pointFault_any A c r w hl
  cases hfar : r.any farP with
  | true =>
    have hF : Hid (ringR r = 1) := by rw [Hid, hV.out, if_neg h3, if_neg h5, hfar]; rfl
    rw [pointsF_yes hfar] at hPF
    replace hfar := hide hfar
    clear hV
    go_enter Tryz.func65, Tryz.ntmps65
    go_wp2_with fail
    refine hPF.mono ?_
    rintro e w1 ⟨rfl, hg1⟩
    go_wp2_with fail
    go_ret
    exact ⟨ret_int hF.out.symm, hg1⟩
  | false =>
    have hbd := points_zero hfar
    have hcb : Hid (∀ i, bdP (cor r i)) := fun i => hbd _ (cor_mem (by omega) i)
    rw [pointsF_no hfar] at hPF
    have hV2 : Hid (ringR r = if twiceB r then 6 else refS r) := by rw [Hid, hV.out, if_neg h3, if_neg h5, hfar]; rfl
    have hT1 : Hid (∀ k, k < r.length → cor r k ∈ r.take k → ringR r = 6) := fun k hk h => by
      have ht : twiceB r = true := any_yes hk (by simpa using h)
      rw [hV2.out, if_pos ht]
    have hT0 : Hid ((∀ k, k < r.length → cor r k ∉ r.take k) → ringR r = refS r) := fun h => by
      have ht : twiceB r = false := any_no fun k hk => by simpa using h k hk
      rw [hV2.out, ht]; simp
    replace hfar := hide hfar
    clear hV hV2 hbd
    go_enter Tryz.func65, Tryz.ntmps65
    go_wp2_with fail
    refine hPF.mono ?_
    rintro e w1 ⟨rfl, hg1⟩
    clear hPF
    go_wp2_with fail
    go_loopw [26] (fun i wr => ∃ k : Nat, k ≤ r.length ∧ i = .int .i64 k ∧ w.grownBy wr none ∧ Hid (∀ j, j < k → cor r j ∉ r.take j)) (fun i _ => r.length - (intOf i).toNat)
    case atStart => exact ⟨0, Nat.zero_le _, rfl, hg1, fun j hj => by omega⟩
    case round =>
      clear hg1
      obtain ⟨k, hk, rfl, hg, hall⟩ := hrel
      by_cases hlt : k < r.length
      · obtain ⟨gr, or_, hA, -, hbr, hcell⟩ := hl.pt (by omega)
        have q0 := hg.k (hcell k hlt).1
        have q1 := hg.k (hcell k hlt).2
        have e1 : cor r k = r[k] := cor_lt hlt
        rw [← e1] at q0 q1
        have hTk := hide (hT1.out k hlt)
        have hlk := hl.take k
        generalize hp : cor r k = p at *
        clear e1 hcell
        subst hA
        go_upto_region 11 with fail
        obtain ⟨w5, hw5⟩ : ∃ x, x = (wr).alloc (.cells [.int .i64 p.x, .int .i64 p.y].toArray 29) := ⟨_, rfl⟩
        have hg5 : (wr).grownBy w5 none := by rw [hw5]; exact gr_alloc (World.grownBy.refl _ _) _
        have hb5 : Box w5 (wr).heap.size 29 [.int .i64 p.x, .int .i64 p.y] := by rw [hw5]; exact Box.new _ _ _
        have hxs5 := hb5.lt
        rw [← hw5]
        clear hw5
        obtain ⟨x5, hx5⟩ : ∃ x, x = (wr).heap.size := ⟨_, rfl⟩
        rw [← hx5] at hb5 hxs5 ⊢
        have hxl5 : (wr).heap.size ≤ x5 := by omega
        clear hx5
        obtain ⟨y0, -⟩ := hb5.c 0 rfl
        obtain ⟨y1, -⟩ := hb5.c 1 rfl
        clear q0 q1
        have hCt := fun wx cc (hx : w5.grownBy wx none) => containsPt_any (some ⟨gr, or_, none⟩) k cc (r.take k) p wx (hlk.pure (hg.t (hg5.t hx))) (by rw [List.length_take]; omega)
        obtain ⟨bb, hbb⟩ : ∃ b, decide (p ∈ r.take k) = b := ⟨_, rfl⟩
        rw [hbb] at hCt
        refine wp_region_tree (fun wx => w5.grownBy wx none) [2, 2, 2, 1, 0] (.bl 0 (.bl 1 (.bl 2 (.bl 3 (.ef 4 .done))))) (by kernel_rfl) (by kernel_rfl) (gr_drew (World.grownBy.refl _ _)) ?_
        obtain ⟨W1, hW1⟩ : ∃ x, x = (w5).drew := ⟨_, rfl⟩
        rw [← hW1]
        have hgW1 : (w5).grownBy W1 none := by rw [hW1]; exact gr_drew (World.grownBy.refl _ _)
        clear hW1
        refine tree_p rfl rfl rfl rfl _ rfl (by simp) (fun K hK => ?_)
        apply Exists.intro
        refine ⟨fun wq K' hK' => ?_, ?_⟩
        · go_wp2_with fail
          exact hK'
        go_simp
        refine hK _ ?_
        clear hK K
        refine tree_p rfl rfl rfl rfl _ rfl (by simp) (fun K hK => ?_)
        apply Exists.intro
        refine ⟨fun wq K' hK' => ?_, ?_⟩
        · go_wp2_with fail
          exact hK'
        go_simp
        refine hK _ ?_
        clear hK K
        refine tree_p rfl rfl rfl rfl _ rfl (by simp) (fun K hK => ?_)
        apply Exists.intro
        refine ⟨fun wq K' hK' => ?_, ?_⟩
        · go_wp2_with fail
          exact hK'
        go_simp
        refine hK _ ?_
        clear hK K
        refine tree_b rfl rfl rfl rfl _ rfl (by simp) (fun K hK => ?_)
        apply Exists.intro
        refine ⟨fun wq hq K' hK' => ?_, ?_⟩
        · have yy0 := hq.k y0
          have yy1 := hq.k y1
          go_wp2_with fail
          exact hK'
        go_simp
        refine hK _ ?_
        clear hK K
        refine tree_e0 (by kernel_rfl) rfl rfl (fun K hK => ?_)
        go_wp2_with fail
        refine (hCt _ _ (gr_trans hgW1 (World.grownBy.refl _ _))).mono ?_
        rintro e w4 ⟨rfl, hg4⟩
        go_wp2_with fail
        try go_simp
        refine hK _ _ trivial ?_
        clear hK K
        refine tree_done ?_
        have hgE := hg.t (hg5.t (gr_trans hgW1 hg4))
        clear hCt
        cases bb with
        | true =>
          have hF := hide (hTk.out (by simpa using hbb))
          clear hTk
          replace hbb := hide hbb
          go_wp2_with fail
          go_ret
          exact ⟨ret_int hF.out.symm, hgE⟩
        | false =>
          have hn : Hid (∀ j, j < k + 1 → cor r j ∉ r.take j) := fun j hj => by
            by_cases e : j < k
            · exact hall.out j e
            · rw [show j = k by omega, hp]; simpa using hbb
          replace hbb := hide hbb
          clear hTk hp
          go_wp2_with fail
          first
            | exact ⟨⟨k + 1, by omega, by go_num, hgE, hn⟩, by simp [intOf]; omega⟩
            | (go_roundw; (case rel => exact ⟨k + 1, by omega, by go_num, hgE, hn⟩); (case measure => simp [intOf]; omega))
      · obtain rfl : k = r.length := by omega
        have hR := hide (hT0.out hall.out)
        have hF1 : Hid (∀ i, i < r.length → (List.range i).any (refT r i) = true → ringR r = 13) := fun i hi h => by
          rw [hR.out]; unfold refS; rw [if_pos (any_yes hi h)]
        have hF0 : Hid ((∀ i, i < r.length → ∀ k, k < i → refT r i k = false) → ringR r = 0) := fun h => by
          have ht : (List.range r.length).any (refI r) = false := any_no (fun i hi => any_no (h i hi))
          rw [hR.out]; unfold refS; rw [ht]; simp
        clear hT1 hT0 hR hall
        have hS := sidesRef_any A c r wr (hl.pure hg) (by omega)
        go_wp2_with fail
        refine hS.mono ?_
        rintro e w6 ⟨A6, c6, rfl, hown, hg6⟩
        clear hS
        have hgw := hg.t hg6
        have hsl := hown.sl.mono (Nat.zero_le _)
        obtain ⟨g6, o6, rfl, -, hb6, hcell⟩ := sl_sg hsl (by rw [segK_len]; omega)
        have hcl : Hid (∀ (wx : World), w6.grownBy wx none → ∀ k, k < r.length → (wx.cell? ⟨g6, o6 + k * 4, none⟩ = some (.int .i64 (cor r k).x) ∧ wx.cell? ⟨g6, o6 + k * 4 + 1, none⟩ = some (.int .i64 (cor r k).y)) ∧ wx.cell? ⟨g6, o6 + k * 4 + 2, none⟩ = some (.int .i64 (cor r (k + 1)).x) ∧ wx.cell? ⟨g6, o6 + k * 4 + 3, none⟩ = some (.int .i64 (cor r (k + 1)).y)) := fun wx hx k hk => by
          obtain ⟨⟨h1, h2⟩, h3, h4⟩ := hcell k (by rw [segK_len]; exact hk)
          rw [segK_get] at h1 h2 h3 h4
          exact ⟨⟨hx.k h1, hx.k h2⟩, hx.k h3, hx.k h4⟩
        have hcap6 := hown.cap
        rw [segK_len] at hcap6
        clear hcell hsl hown hg hg6
        go_wp2_with fail
        go_loopw [41] (fun i wr => ∃ k : Nat, k ≤ r.length ∧ i = .int .i64 k ∧ w6.grownBy wr none ∧ Hid (∀ i, i < k → ∀ j, j < i → refT r i j = false)) (fun i _ => r.length - (intOf i).toNat)
        case atStart => exact ⟨0, Nat.zero_le _, rfl, World.grownBy.refl _ _, fun j hj => by omega⟩
        case round =>
          obtain ⟨i, hi, rfl, hg0, hall⟩ := hrel
          obtain ⟨wo, rfl⟩ : ∃ x, x = wr := ⟨wr, rfl⟩
          by_cases hlt : i < r.length
          · obtain ⟨⟨c0, c1⟩, c2, c3⟩ := hcl.out wo hg0 i hlt
            have hg := hgw.t hg0
            go_upto_region 18 with fail
            obtain ⟨w8, hw8⟩ : ∃ x, x = (wo).alloc (.cells [.int .i64 (cor r i).x, .int .i64 (cor r i).y, .int .i64 (cor r (i + 1)).x, .int .i64 (cor r (i + 1)).y].toArray 105) := ⟨_, rfl⟩
            have hg8 : (wo).grownBy w8 none := by rw [hw8]; exact gr_alloc (World.grownBy.refl _ _) _
            have hb8 : Box w8 (wo).heap.size 105 [.int .i64 (cor r i).x, .int .i64 (cor r i).y, .int .i64 (cor r (i + 1)).x, .int .i64 (cor r (i + 1)).y] := by rw [hw8]; exact Box.new _ _ _
            have hxs8 := hb8.lt
            rw [← hw8]
            clear hw8
            obtain ⟨x8, hx8⟩ : ∃ x, x = (wo).heap.size := ⟨_, rfl⟩
            rw [← hx8] at hb8 hxs8 ⊢
            have hxl8 : (wo).heap.size ≤ x8 := by omega
            clear hx8
            clear c0 c1 c2 c3
            go_wp2_with fail
            go_loopw [50] (fun s wx => ∃ k : Nat, k ≤ i ∧ s = .int .i64 k ∧ Box wx x8 105 [.int .i64 (cor r i).x, .int .i64 (cor r i).y, .int .i64 (cor r (i + 1)).x, .int .i64 (cor r (i + 1)).y] ∧ w6.grownBy wx none ∧ Hid (∀ k', k' < k → refT r i k' = false)) (fun s _ => i - (intOf s).toNat)
            case atStart => exact ⟨0, Nat.zero_le _, rfl, hb8, hg0.t hg8, fun k' hk' => by omega⟩
            case round =>
              clear hb8 hg8
              obtain ⟨k, hk, rfl, hb8, hgx, hin⟩ := hrel
              have hg := hgw.t hgx
              by_cases hkl : k < i
              · obtain ⟨⟨c0, c1⟩, c2, c3⟩ := hcl.out wr hgx k (by omega)
                go_upto_region 21 with fail
                obtain ⟨w10, hw10⟩ : ∃ x, x = (wr).alloc (.cells [.int .i64 (cor r k).x, .int .i64 (cor r k).y, .int .i64 (cor r (k + 1)).x, .int .i64 (cor r (k + 1)).y].toArray 105) := ⟨_, rfl⟩
                have hg10 : (wr).grownBy w10 none := by rw [hw10]; exact gr_alloc (World.grownBy.refl _ _) _
                have hb10 : Box w10 (wr).heap.size 105 [.int .i64 (cor r k).x, .int .i64 (cor r k).y, .int .i64 (cor r (k + 1)).x, .int .i64 (cor r (k + 1)).y] := by rw [hw10]; exact Box.new _ _ _
                have hxs10 := hb10.lt
                rw [← hw10]
                clear hw10
                obtain ⟨x10, hx10⟩ : ∃ x, x = (wr).heap.size := ⟨_, rfl⟩
                rw [← hx10] at hb10 hxs10 ⊢
                have hxl10 : (wr).heap.size ≤ x10 := by omega
                clear hx10
                clear c0 c1 c2 c3
                have hb8a := hb8.pure hg10
                obtain ⟨s0, -⟩ := hb8a.c 0 rfl
                obtain ⟨s1, -⟩ := hb8a.c 1 rfl
                obtain ⟨s2, -⟩ := hb8a.c 2 rfl
                obtain ⟨s3, -⟩ := hb8a.c 3 rfl
                obtain ⟨t0, -⟩ := hb10.c 0 rfl
                obtain ⟨t1, -⟩ := hb10.c 1 rfl
                obtain ⟨t2, -⟩ := hb10.c 2 rfl
                obtain ⟨t3, -⟩ := hb10.c 3 rfl
                clear hb8a
                by_cases h1 : k + 1 = i
                · have hd1 : ((k : Int) == (i : Int) - 1) = true := by simp; omega
                  have hTt : Hid (refT r i k = (onB (cor r k) (cor r i) (cor r (i + 1)) || onB (cor r (i + 1)) (cor r k) (cor r (k + 1)))) := by rw [Hid]; unfold refT; rw [if_pos h1]
                  have hO1 := hide fun w => onRef_any (cor r k) (cor r i) (cor r (i + 1)) w (hcb.out _) (hcb.out _) (hcb.out _)
                  have hO2 := hide fun w => onRef_any (cor r (i + 1)) (cor r k) (cor r (k + 1)) w (hcb.out _) (hcb.out _) (hcb.out _)
                  generalize onB (cor r k) (cor r i) (cor r (i + 1)) = o1 at *
                  generalize onB (cor r (i + 1)) (cor r k) (cor r (k + 1)) = o2 at *
                  replace h1 := hide h1
                  go_wp2_with fail
                  refine (hO1.out _).mono ?_
                  rintro e w1 ⟨rfl, hg1⟩
                  rcases ho1 : o1 with _ | _
                  · rw [ho1] at hTt
                    clear ho1
                    have hbA := hb8.pure (hg10.t hg1)
                    have hbB := hb10.pure hg1
                    clear s0 s1 s2 s3 t0 t1 t2 t3
                    obtain ⟨s0, -⟩ := hbA.c 0 rfl
                    obtain ⟨s1, -⟩ := hbA.c 1 rfl
                    obtain ⟨s2, -⟩ := hbA.c 2 rfl
                    obtain ⟨s3, -⟩ := hbA.c 3 rfl
                    obtain ⟨t0, -⟩ := hbB.c 0 rfl
                    obtain ⟨t1, -⟩ := hbB.c 1 rfl
                    obtain ⟨t2, -⟩ := hbB.c 2 rfl
                    obtain ⟨t3, -⟩ := hbB.c 3 rfl
                    go_wp2_with fail
                    refine (hO2.out _).mono ?_
                    rintro e w2 ⟨rfl, hg2⟩
                    have hgE := hg.t (hg10.t (hg1.t hg2))
                    have hgE' := hgx.t (hg10.t (hg1.t hg2))
                    have hb8' := hbA.pure hg2
                    clear s0 s1 s2 s3 t0 t1 t2 t3 hbA hbB
                    cases o2 with
                    | true =>
                      have hF := hide (hF1.out i hlt (any_yes hkl hTt.out))
                      go_wp2_with fail
                      go_ret
                      exact ⟨ret_int hF.out.symm, hgE⟩
                    | false =>
                      have hin2 : Hid (∀ k', k' < k + 1 → refT r i k' = false) := fun k' hk' => by
                        by_cases e : k' < k
                        · exact hin.out k' e
                        · rw [show k' = k by omega]; exact hTt.out
                      go_wp2_with fail
                      first
                        | exact ⟨⟨k + 1, by omega, by go_num, hb8', hgE', hin2⟩, by simp [intOf]; omega⟩
                        | (go_roundw; (case rel => exact ⟨k + 1, by omega, by go_num, hb8', hgE', hin2⟩); (case measure => simp [intOf]; omega))
                  · rw [ho1, Bool.true_or] at hTt
                    clear ho1
                    have hgE := hg.t (hg10.t hg1)
                    clear s0 s1 s2 s3 t0 t1 t2 t3
                    have hF := hide (hF1.out i hlt (any_yes hkl hTt.out))
                    go_wp2_with fail
                    go_ret
                    exact ⟨ret_int hF.out.symm, hgE⟩
                · have hd1 : ((k : Int) == (i : Int) - 1) = false := by rw [beq_eq_false_iff_ne]; omega
                  by_cases h2 : k = 0 ∧ i + 1 = r.length
                  · have hd2 : ((k : Int) == 0) = true := by simp; omega
                    have hd3 : ((i : Int) == (r.length : Int) - 1) = true := by simp; omega
                    have hTt : Hid (refT r i k = (onB (cor r i) (cor r k) (cor r (k + 1)) || onB (cor r (k + 1)) (cor r i) (cor r (i + 1)))) := by rw [Hid]; unfold refT; rw [if_neg h1, if_pos h2]
                    have hO1 := hide fun w => onRef_any (cor r i) (cor r k) (cor r (k + 1)) w (hcb.out _) (hcb.out _) (hcb.out _)
                    have hO2 := hide fun w => onRef_any (cor r (k + 1)) (cor r i) (cor r (i + 1)) w (hcb.out _) (hcb.out _) (hcb.out _)
                    generalize onB (cor r i) (cor r k) (cor r (k + 1)) = o1 at *
                    generalize onB (cor r (k + 1)) (cor r i) (cor r (i + 1)) = o2 at *
                    replace h1 := hide h1
                    replace h2 := hide h2
                    go_wp2_with fail
                    refine (hO1.out _).mono ?_
                    rintro e w1 ⟨rfl, hg1⟩
                    rcases ho1 : o1 with _ | _
                    · rw [ho1] at hTt
                      clear ho1
                      have hbA := hb8.pure (hg10.t hg1)
                      have hbB := hb10.pure hg1
                      clear s0 s1 s2 s3 t0 t1 t2 t3
                      obtain ⟨s0, -⟩ := hbA.c 0 rfl
                      obtain ⟨s1, -⟩ := hbA.c 1 rfl
                      obtain ⟨s2, -⟩ := hbA.c 2 rfl
                      obtain ⟨s3, -⟩ := hbA.c 3 rfl
                      obtain ⟨t0, -⟩ := hbB.c 0 rfl
                      obtain ⟨t1, -⟩ := hbB.c 1 rfl
                      obtain ⟨t2, -⟩ := hbB.c 2 rfl
                      obtain ⟨t3, -⟩ := hbB.c 3 rfl
                      go_wp2_with fail
                      refine (hO2.out _).mono ?_
                      rintro e w2 ⟨rfl, hg2⟩
                      have hgE := hg.t (hg10.t (hg1.t hg2))
                      have hgE' := hgx.t (hg10.t (hg1.t hg2))
                      have hb8' := hbA.pure hg2
                      clear s0 s1 s2 s3 t0 t1 t2 t3 hbA hbB
                      cases o2 with
                      | true =>
                        have hF := hide (hF1.out i hlt (any_yes hkl hTt.out))
                        go_wp2_with fail
                        go_ret
                        exact ⟨ret_int hF.out.symm, hgE⟩
                      | false =>
                        have hin2 : Hid (∀ k', k' < k + 1 → refT r i k' = false) := fun k' hk' => by
                          by_cases e : k' < k
                          · exact hin.out k' e
                          · rw [show k' = k by omega]; exact hTt.out
                        go_wp2_with fail
                        first
                          | exact ⟨⟨k + 1, by omega, by go_num, hb8', hgE', hin2⟩, by simp [intOf]; omega⟩
                          | (go_roundw; (case rel => exact ⟨k + 1, by omega, by go_num, hb8', hgE', hin2⟩); (case measure => simp [intOf]; omega))
                    · rw [ho1, Bool.true_or] at hTt
                      clear ho1
                      have hgE := hg.t (hg10.t hg1)
                      clear s0 s1 s2 s3 t0 t1 t2 t3
                      have hF := hide (hF1.out i hlt (any_yes hkl hTt.out))
                      go_wp2_with fail
                      go_ret
                      exact ⟨ret_int hF.out.symm, hgE⟩
                  · have hTt : Hid (refT r i k = meetR (cor r i) (cor r (i + 1)) (cor r k) (cor r (k + 1))) := by rw [Hid]; unfold refT; rw [if_neg h1, if_neg h2]
                    have hMe := hide fun w => meetRef_any (cor r i) (cor r (i + 1)) (cor r k) (cor r (k + 1)) w (hcb.out _) (hcb.out _) (hcb.out _) (hcb.out _)
                    generalize meetR (cor r i) (cor r (i + 1)) (cor r k) (cor r (k + 1)) = o2 at *
                    by_cases hk0 : k = 0
                    · have hd2 : ((k : Int) == 0) = true := by simp; omega
                      have hd3 : ((i : Int) == (r.length : Int) - 1) = false := by rw [beq_eq_false_iff_ne]; omega
                      replace h1 := hide h1
                      replace h2 := hide h2
                      replace hk0 := hide hk0
                      go_wp2_with fail
                      refine (hMe.out _).mono ?_
                      rintro e w2 ⟨rfl, hg2⟩
                      have hgE := hg.t (hg10.t hg2)
                      have hgE' := hgx.t (hg10.t hg2)
                      have hb8' := hb8.pure (hg10.t hg2)
                      clear s0 s1 s2 s3 t0 t1 t2 t3
                      cases o2 with
                      | true =>
                        have hF := hide (hF1.out i hlt (any_yes hkl hTt.out))
                        go_wp2_with fail
                        go_ret
                        exact ⟨ret_int hF.out.symm, hgE⟩
                      | false =>
                        have hin2 : Hid (∀ k', k' < k + 1 → refT r i k' = false) := fun k' hk' => by
                          by_cases e : k' < k
                          · exact hin.out k' e
                          · rw [show k' = k by omega]; exact hTt.out
                        go_wp2_with fail
                        first
                          | exact ⟨⟨k + 1, by omega, by go_num, hb8', hgE', hin2⟩, by simp [intOf]; omega⟩
                          | (go_roundw; (case rel => exact ⟨k + 1, by omega, by go_num, hb8', hgE', hin2⟩); (case measure => simp [intOf]; omega))
                    · have hd2 : ((k : Int) == 0) = false := by rw [beq_eq_false_iff_ne]; omega
                      replace h1 := hide h1
                      replace h2 := hide h2
                      replace hk0 := hide hk0
                      go_wp2_with fail
                      refine (hMe.out _).mono ?_
                      rintro e w2 ⟨rfl, hg2⟩
                      have hgE := hg.t (hg10.t hg2)
                      have hgE' := hgx.t (hg10.t hg2)
                      have hb8' := hb8.pure (hg10.t hg2)
                      clear s0 s1 s2 s3 t0 t1 t2 t3
                      cases o2 with
                      | true =>
                        have hF := hide (hF1.out i hlt (any_yes hkl hTt.out))
                        go_wp2_with fail
                        go_ret
                        exact ⟨ret_int hF.out.symm, hgE⟩
                      | false =>
                        have hin2 : Hid (∀ k', k' < k + 1 → refT r i k' = false) := fun k' hk' => by
                          by_cases e : k' < k
                          · exact hin.out k' e
                          · rw [show k' = k by omega]; exact hTt.out
                        go_wp2_with fail
                        first
                          | exact ⟨⟨k + 1, by omega, by go_num, hb8', hgE', hin2⟩, by simp [intOf]; omega⟩
                          | (go_roundw; (case rel => exact ⟨k + 1, by omega, by go_num, hb8', hgE', hin2⟩); (case measure => simp [intOf]; omega))
              · obtain rfl : k = i := by omega
                have hall2 : Hid (∀ i, i < k + 1 → ∀ j, j < i → refT r i j = false) := fun i' hi' j hj => by
                  by_cases e : i' < k
                  · exact hall.out i' e j hj
                  · obtain rfl : i' = k := by omega
                    exact hin.out j hj
                clear hb8
                go_wp2_with fail
                first
                  | exact ⟨⟨k + 1, by omega, by go_num, hgx, hall2⟩, by simp [intOf]; omega⟩
                  | (go_roundw; (case rel => exact ⟨k + 1, by omega, by go_num, hgx, hall2⟩); (case measure => simp [intOf]; omega))
          · obtain rfl : i = r.length := by omega
            have hF := hide (hF0.out hall.out)
            go_wp2_with fail
            go_ret
            exact ⟨ret_int hF.out.symm, hgw.t hg0⟩

end Go.Proofs.YtejmbaiioblfeaaGreatDoor

namespace Go.Proofs.YtejmbaiioblfeaaGreatDoor
open Go Go.RowKit Go.Bl

def meetS (s x : Sg) : Bool := meetR s.a s.b x.a x.b
/-- a captured side, beside a row of sides: all are near -/
structure SgH (w : World) (gc : Nat) (s : Sg) (l : List Sg) : Prop where
  c0 : w.cell? ⟨gc, 0, none⟩ = some (.int .i64 s.a.x)
  c1 : w.cell? ⟨gc, 1, none⟩ = some (.int .i64 s.a.y)
  c2 : w.cell? ⟨gc, 2, none⟩ = some (.int .i64 s.b.x)
  c3 : w.cell? ⟨gc, 3, none⟩ = some (.int .i64 s.b.y)
  bs : bdP s.a ∧ bdP s.b
  bl : ∀ x ∈ l, bdP x.a ∧ bdP x.b

theorem SgH.gr {w w' : World} {gc : Nat} {s : Sg} {l : List Sg} (h : SgH w gc s l) (hg : w.grownBy w' none) : SgH w' gc s l := ⟨hg.k h.c0, hg.k h.c1, hg.k h.c2, hg.k h.c3, h.bs, h.bl⟩

set_option maxHeartbeats 1000000 in
theorem regClo_any (s : Sg) (gc : Nat) (l : List Sg) (y : Sg) (w : World) (h : SgH w gc s l) (hx : bdP y.a ∧ bdP y.b) :
    Calls Tryz.prog 68 #[.agg #[.int .i64 y.a.x, .int .i64 y.a.y, .int .i64 y.b.x, .int .i64 y.b.y], .pointer (some ⟨gc, 0, none⟩)] w fun e w' => e = .returned (.bool (meetS s y)) ∧ w.grownBy w' none := by
  have hM := hide fun w => meetRef_any s.a s.b y.a y.b w h.bs.1 h.bs.2 hx.1 hx.2
  have hV : Hid (meetS s y = meetR s.a s.b y.a y.b) := rfl
  rw [hV.out]
  generalize meetR s.a s.b y.a y.b = m at *
  go_enter Tryz.func68, Tryz.ntmps68
  go_upto_region 1 with fail
  obtain ⟨w2, hw2⟩ : ∃ x, x = (w).alloc (.cells [.int .i64 y.a.x, .int .i64 y.a.y, .int .i64 y.b.x, .int .i64 y.b.y].toArray 105) := ⟨_, rfl⟩
  have hg2 : (w).grownBy w2 none := by rw [hw2]; exact gr_alloc (World.grownBy.refl _ _) _
  have hb2 : Box w2 (w).heap.size 105 [.int .i64 y.a.x, .int .i64 y.a.y, .int .i64 y.b.x, .int .i64 y.b.y] := by rw [hw2]; exact Box.new _ _ _
  have hxs2 := hb2.lt
  rw [← hw2]
  clear hw2
  obtain ⟨x2, hx2⟩ : ∃ x, x = (w).heap.size := ⟨_, rfl⟩
  rw [← hx2] at hb2 hxs2 ⊢
  have hxl2 : (w).heap.size ≤ x2 := by omega
  clear hx2
  have s0 := hg2.k h.c0
  have s1 := hg2.k h.c1
  have s2 := hg2.k h.c2
  have s3 := hg2.k h.c3
  obtain ⟨t0, -⟩ := hb2.c 0 rfl
  obtain ⟨t1, -⟩ := hb2.c 1 rfl
  obtain ⟨t2, -⟩ := hb2.c 2 rfl
  obtain ⟨t3, -⟩ := hb2.c 3 rfl
  clear h hx
  go_wp2_with fail
  refine (hM.out _).mono ?_
  rintro e w1 ⟨rfl, hg1⟩
  go_wp2_with fail
  go_ret
  exact ⟨rfl, hg2.t hg1⟩

set_option maxHeartbeats 800000 in
set_option maxRecDepth 100000 in
theorem indexSg_any (s : Sg) (gc : Nat) (A : Option Addr) (c : Nat) (l : List Sg) (w : World) (hl : Sl w 0 A l) (hp : SgH w gc s l) :
    Calls Tryz.prog 92 #[.slice A l.length c, .func (.func 68) #[] #[.pointer (some ⟨gc, 0, none⟩)]] w fun e w' => ∃ r : Int, e = .returned (.int .i64 r) ∧ decide (0 ≤ r) = l.any (meetS s) ∧ w.grownBy w' none := by
  have hm := hl.1
  unfold maxLen at hm
  go_enter Tryz.func92, Tryz.ntmps92
  go_wp2
  go_loopw [8] (fun i wr => ∃ k : Nat, k ≤ l.length ∧ i = .int .i64 k ∧ w.grownBy wr none ∧ Hid ((l.take k).any (meetS s) = false)) (fun i _ => l.length - (intOf i).toNat)
  case atStart => exact ⟨0, Nat.zero_le _, rfl, World.grownBy.refl _ _, by simp [Hid]⟩
  case round =>
    obtain ⟨k, hk, rfl, hg, hall⟩ := hrel
    by_cases hlt : k < l.length
    · obtain ⟨g, o, rfl, -, hb1, hcell⟩ := sl_sg (hl.pure hg) (by omega)
      obtain ⟨⟨c0, c1⟩, c2, c3⟩ := hcell k hlt
      clear hcell
      have HS : Hid ((l.take (k + 1)).any (meetS s) = ((l.take k).any (meetS s) || (meetS s) l[k])) := by rw [Hid, take_snoc hlt, List.any_append]; simp
      have HA : Hid ((meetS s) l[k] = true → l.any (meetS s) = true) := fun h => List.any_eq_true.2 ⟨_, List.getElem_mem _, h⟩
      have hmem := List.getElem_mem hlt
      have hp' := SgH.gr hp hg
      generalize l[k] = f at *
      obtain ⟨bb, hbb⟩ : ∃ bb, (meetS s) f = bb := ⟨_, rfl⟩
      have hcon := regClo_any s gc l f wr hp' (hp'.bl _ hmem)
      simp only [hbb] at hcon HS HA
      replace hcon := hide hcon
      replace hbb := hide hbb
      replace HS := hide HS
      replace HA := hide HA
      replace hmem := hide hmem
      go_wp2_with fail
      refine (hcon.out).mono ?_
      rintro e w' ⟨rfl, hg'⟩
      cases bb
      · go_wp2_with fail
        (go_roundw; (case rel => exact ⟨k + 1, by omega, by go_num, gr_trans hg hg', by rw [Hid, HS.out, hall.out]; rfl⟩); (case measure => simp [intOf]; omega))
      · have HB := hide (HA.out rfl)
        go_wp2_with fail
        go_ret
        exact ⟨k, rfl, by rw [HB.out]; simp, gr_trans hg hg'⟩
    · have HB : Hid (l.any (meetS s) = false) := by have := hall.out; rwa [List.take_of_length_le (by omega)] at this
      go_wp2
      go_ret
      exact ⟨-1, rfl, by rw [HB.out]; rfl, hg⟩

set_option maxHeartbeats 400000 in
theorem containsSg_any (s : Sg) (gc : Nat) (A : Option Addr) (c : Nat) (l : List Sg) (w : World) (hl : Sl w 0 A l) (hp : SgH w gc s l) :
    Calls Tryz.prog 67 #[.slice A l.length c, .func (.func 68) #[] #[.pointer (some ⟨gc, 0, none⟩)]] w fun e w' => e = .returned (.bool (l.any (meetS s))) ∧ w.grownBy w' none := by
  go_enter Tryz.func67, Tryz.ntmps67
  go_wp2_with fail
  refine (indexSg_any _ _ _ _ _ _ hl (by assumption)).mono ?_
  rintro e w1 ⟨r, rfl, hr, hg⟩
  replace hr := hide hr
  go_wp2_with fail
  go_ret
  exact ⟨ret_bool hr.out, hg⟩

theorem seg_any (r q : List Pt) (a : Nat) : (segK q q.length).any (meetS ⟨cor r a, cor r (a + 1)⟩) = (List.range q.length).any fun b => meetR (cor r a) (cor r (a + 1)) (cor q b) (cor q (b + 1)) := by
  unfold segK; rw [List.any_map]; rfl

theorem seg_bd {r : List Pt} (h : ∀ p ∈ r, bdP p) (h0 : 0 < r.length) : ∀ x ∈ segK r r.length, bdP x.a ∧ bdP x.b := by
  intro x hx
  unfold segK at hx
  obtain ⟨k, hk, rfl⟩ := List.mem_map.1 hx
  exact ⟨h _ (cor_mem h0 _), h _ (cor_mem h0 _)⟩

set_option maxHeartbeats 8000000 in
set_option maxRecDepth 100000 in
theorem regionFault_any (A : Option Addr) (c : Nat) (rs : List (List Pt)) (w : World) (hl : Sl w 0 A rs) (hs : (flatK rs rs.length).length ≤ 1000000) (hrc : rs.length ≤ c) :
    Calls Tryz.prog 28 #[.slice A rs.length c] w fun e w' => e = .returned (.int .i64 (regF rs)) ∧ w.grownBy w' none := by
  have hm := hl.1
  unfold maxLen at hm
  rw [regF_eq]
  have hV : Hid (regR rs = if 100 < rs.length ∨ 2000 < (flatK rs rs.length).length then 2
    else if scanN (fun k => ringR (rs.getD k [])) rs.length ≠ 0 then scanN (fun k => ringR (rs.getD k [])) rs.length
    else if pairsR rs then 13 else 0) := rfl
  by_cases h1 : 100 < rs.length
  · have hF : Hid (regR rs = 2) := by rw [Hid, hV.out, if_pos (.inl h1)]
    clear hV
    go_enter Tryz.func28, Tryz.ntmps28
    go_wp2_with fail
    go_ret
    exact ⟨ret_int hF.out.symm, World.grownBy.refl _ _⟩
  have hCo := concatRings_any A c rs w hl hs
  by_cases h2 : 2000 < (flatK rs rs.length).length
  · have hF : Hid (regR rs = 2) := by rw [Hid, hV.out, if_pos (.inr h2)]
    clear hV
    go_enter Tryz.func28, Tryz.ntmps28
    go_wp2_with fail
    refine hCo.mono ?_
    rintro e w1 ⟨A1, c1, rfl, -, hg1⟩
    go_wp2_with fail
    go_ret
    exact ⟨ret_int hF.out.symm, hg1⟩
  have hV2 : Hid (regR rs = if scanN (fun k => ringR (rs.getD k [])) rs.length ≠ 0 then scanN (fun k => ringR (rs.getD k [])) rs.length
    else if pairsR rs then 13 else 0) := by rw [Hid, hV.out, if_neg (by omega)]
  clear hV
  have hS1 : Hid (∀ k, k < rs.length → scanN (fun k => ringR (rs.getD k [])) k = 0 → ringR (rs.getD k []) ≠ 0 → regR rs = ringR (rs.getD k [])) := fun k hk h0 hf => by
    have := scanN_at (f := fun k => ringR (rs.getD k [])) h0 hf hk
    rw [hV2.out, if_pos (by rw [this]; exact hf), this]
  have hS0 : Hid (scanN (fun k => ringR (rs.getD k [])) rs.length = 0 → regR rs = if pairsR rs then 13 else 0) := fun h => by
    rw [hV2.out, if_neg (by rw [h]; simp)]
  have hfl := hide fun k => flatK_le rs k
  clear hV2
  go_enter Tryz.func28, Tryz.ntmps28
  go_wp2_with fail
  refine hCo.mono ?_
  rintro e w1 ⟨A1, c1, rfl, -, hg1⟩
  clear hCo
  go_wp2_with fail
  go_loopw [23] (fun i wr => ∃ k : Nat, k ≤ rs.length ∧ i = .int .i64 k ∧ w.grownBy wr none ∧ Hid (scanN (fun k => ringR (rs.getD k [])) k = 0)) (fun i _ => rs.length - (intOf i).toNat)
  case atStart => exact ⟨0, Nat.zero_le _, rfl, hg1, rfl⟩
  case round =>
    clear hg1
    obtain ⟨k, hk, rfl, hg, hall⟩ := hrel
    by_cases hlt : k < rs.length
    · obtain ⟨g, o, Bk, dk, rfl, hb1, c0, hdk, hsl⟩ := sl_inner' hl hlt
      replace c0 := hg.k c0
      have hRF := ringFaultRef_any Bk dk rs[k] wr (hsl.pure hg) hdk
      have e1 : rs.getD k [] = rs[k] := by simp [List.getD, hlt]
      have hA := hide (hS1.out k hlt hall.out)
      rw [e1] at hA
      have hN : Hid (ringR rs[k] = 0 → scanN (fun k => ringR (rs.getD k [])) (k + 1) = 0) := fun h => by
        unfold scanN
        rw [if_pos hall.out]
        simp only [e1]; exact h
      generalize ringR rs[k] = F at *
      replace hdk := hide hdk
      by_cases hz : F = 0
      · subst hz
        have hN2 := hide (hN.out rfl)
        clear hA hN e1
        go_wp2_with fail
        refine hRF.mono ?_
        rintro e w2 ⟨rfl, hg2⟩
        clear hRF
        go_wp2_with fail
        first
          | exact ⟨⟨k + 1, by omega, by go_num, hg.t hg2, hN2⟩, by simp [intOf]; omega⟩
          | (go_roundw; (case rel => exact ⟨k + 1, by omega, by go_num, hg.t hg2, hN2⟩); (case measure => simp [intOf]; omega))
      · have hF := hide (hA.out hz)
        have hb : (F != 0) = true := by simp [hz]
        clear hA hN e1
        replace hz := hide hz
        go_wp2_with fail
        refine hRF.mono ?_
        rintro e w2 ⟨rfl, hg2⟩
        clear hRF
        go_wp2_with fail
        go_ret
        exact ⟨ret_int hF.out.symm, hg.t hg2⟩
    · obtain rfl : k = rs.length := by omega
      have hP := hide (hS0.out hall.out)
      have hzz : Hid (∀ k (h : k < rs.length), 3 ≤ rs[k].length ∧ rs[k].length ≤ 500 ∧ ∀ p ∈ rs[k], bdP p) := fun k h => by
        have := scanN_zero' hall.out k h
        have e1 : rs.getD k [] = rs[k] := by simp [List.getD, h]
        simp only [e1] at this
        rw [← ringF_eq] at this
        have := ringF_ok this
        exact ⟨this.1, this.2.1, this.2.2.1⟩
      have hF1 : Hid (∀ i k, i < rs.length → k < i → ∀ a, a < (rs.getD i []).length → (segK (rs.getD k []) (rs.getD k []).length).any (meetS ⟨cor (rs.getD i []) a, cor (rs.getD i []) (a + 1)⟩) = true → regR rs = 13) := fun i k hi hk a ha h => by
        have : pairsR rs = true := any_yes hi (any_yes hk (any_yes ha (by rw [← seg_any]; exact h)))
        rw [hP.out, this]; rfl
      have hF0 : Hid ((∀ i k, i < rs.length → k < i → ∀ a, a < (rs.getD i []).length → (segK (rs.getD k []) (rs.getD k []).length).any (meetS ⟨cor (rs.getD i []) a, cor (rs.getD i []) (a + 1)⟩) = false) → regR rs = 0) := fun h => by
        have : pairsR rs = false := any_no fun i hi => any_no fun k hk => any_no fun a ha => by rw [← seg_any]; exact h i k hi hk a ha
        rw [hP.out, this]; rfl
      clear hS1 hS0 hP hall
      go_wp2_with fail
      go_loopw [35] (fun i wr => ∃ i' : Nat, i' ≤ rs.length ∧ i = .int .i64 i' ∧ w.grownBy wr none ∧ Hid (∀ i k, i < i' → k < i → ∀ a, a < (rs.getD i []).length → (segK (rs.getD k []) (rs.getD k []).length).any (meetS ⟨cor (rs.getD i []) a, cor (rs.getD i []) (a + 1)⟩) = false)) (fun i _ => rs.length - (intOf i).toNat)
      case atStart => exact ⟨0, Nat.zero_le _, rfl, hg, fun i k hi => by omega⟩
      case round =>
        clear hg
        obtain ⟨i, hi, rfl, hg, hall⟩ := hrel
        obtain ⟨wo, rfl⟩ : ∃ x, x = wr := ⟨wr, rfl⟩
        by_cases hlt : i < rs.length
        · obtain ⟨g, o, Bi, di, rfl, hb1, c0, hdi, hsli⟩ := sl_inner' hl hlt
          replace c0 := hg.k c0
          have ei : rs.getD i [] = rs[i] := by simp [List.getD, hlt]
          obtain ⟨hi3, hi5, hbi⟩ := hzz.out i hlt
          have hic : i ≤ c := by omega
          have hlc : ∀ (k : Nat), k < i → ∃ Bk dk, (∀ wx, w.grownBy wx none → wx.cell? ⟨g, o + k, none⟩ = some (.slice Bk (rs.getD k []).length dk)) ∧ Sl w 0 Bk (rs.getD k []) ∧ (3 ≤ (rs.getD k []).length ∧ (rs.getD k []).length ≤ 500 ∧ ∀ p ∈ rs.getD k [], bdP p) := fun k hk => by
            have hkl : k < rs.length := by omega
            obtain ⟨g', o', Bk, dk, e, -, c0, -, hslk⟩ := sl_inner' hl hkl
            cases e
            have ek : rs.getD k [] = rs[k] := by simp [List.getD, hkl]
            rw [ek]
            exact ⟨Bk, dk, fun wx hx => hx.k c0, hslk, hzz.out k hkl⟩
          have hall' := hall
          have hF1i : Hid (∀ k, k < i → ∀ a, a < rs[i].length → (segK (rs.getD k []) (rs.getD k []).length).any (meetS ⟨cor rs[i] a, cor rs[i] (a + 1)⟩) = true → regR rs = 13) := fun k hk a ha => by
            have := hF1.out i k hlt hk a (by rw [ei]; exact ha)
            rw [ei] at this; exact this
          have hNx : Hid ((∀ k, k < i → ∀ a, a < rs[i].length → (segK (rs.getD k []) (rs.getD k []).length).any (meetS ⟨cor rs[i] a, cor rs[i] (a + 1)⟩) = false) → ∀ i' k, i' < i + 1 → k < i' → ∀ a, a < (rs.getD i' []).length → (segK (rs.getD k []) (rs.getD k []).length).any (meetS ⟨cor (rs.getD i' []) a, cor (rs.getD i' []) (a + 1)⟩) = false) := fun h i' k hi' hk a ha => by
            by_cases e : i' < i
            · exact hall'.out i' k e hk a ha
            · obtain rfl : i' = i := by omega
              rw [ei] at ha ⊢
              exact h k hk a ha
          clear hall hall' ei
          generalize rs[i] = r at *
          replace hlc := hide hlc
          replace hbi := hide hbi
          replace hdi := hide hdi
          go_wp2_with fail
          go_loopw [44] (fun s wx => ∃ k : Nat, k ≤ i ∧ s = .int .i64 k ∧ w.grownBy wx none ∧ Hid (∀ k', k' < k → ∀ a, a < r.length → (segK (rs.getD k' []) (rs.getD k' []).length).any (meetS ⟨cor r a, cor r (a + 1)⟩) = false)) (fun s _ => i - (intOf s).toNat)
          case atStart => exact ⟨0, Nat.zero_le _, rfl, hg, fun k' hk' => by omega⟩
          case round =>
            clear hg c0
            obtain ⟨k, hk, rfl, hg, hin⟩ := hrel
            obtain ⟨wo2, rfl⟩ : ∃ x, x = wr := ⟨wr, rfl⟩
            by_cases hki : k < i
            · obtain ⟨Bk, dk, ck, hslk, hk3, hk5, hbk⟩ := hlc.out k hki
              have c0 := ck _ hg
              have hF1k := hide (hF1i.out k hki)
              have hNk : Hid ((∀ a, a < r.length → (segK (rs.getD k []) (rs.getD k []).length).any (meetS ⟨cor r a, cor r (a + 1)⟩) = false) → ∀ k', k' < k + 1 → ∀ a, a < r.length → (segK (rs.getD k' []) (rs.getD k' []).length).any (meetS ⟨cor r a, cor r (a + 1)⟩) = false) := fun h k' hk' => by
                by_cases e : k' < k
                · exact hin.out k' e
                · obtain rfl : k' = k := by omega
                  exact h
              clear hin ck
              generalize rs.getD k [] = q at *
              replace hbk := hide hbk
              have hSi := fun wx (hx : w.grownBy wx none) => sidesRef_any Bi di r wx (hsli.pure hx) (by omega)
              go_wp2_with fail
              refine (hSi _ hg).mono ?_
              rintro e w6 ⟨A6, c6, rfl, hown6, hg6⟩
              clear hSi c0
              have hsl6 := hown6.sl.mono (Nat.zero_le _)
              obtain ⟨g6, o6, rfl, -, hb6, hcell⟩ := sl_sg hsl6 (by rw [segK_len]; omega)
              have hcl : Hid (∀ (wx : World), w6.grownBy wx none → ∀ k, k < r.length → (wx.cell? ⟨g6, o6 + k * 4, none⟩ = some (.int .i64 (cor r k).x) ∧ wx.cell? ⟨g6, o6 + k * 4 + 1, none⟩ = some (.int .i64 (cor r k).y)) ∧ wx.cell? ⟨g6, o6 + k * 4 + 2, none⟩ = some (.int .i64 (cor r (k + 1)).x) ∧ wx.cell? ⟨g6, o6 + k * 4 + 3, none⟩ = some (.int .i64 (cor r (k + 1)).y)) := fun wx hx k hk => by
                obtain ⟨⟨h1, h2⟩, h3, h4⟩ := hcell k (by rw [segK_len]; exact hk)
                rw [segK_get] at h1 h2 h3 h4
                exact ⟨⟨hx.k h1, hx.k h2⟩, hx.k h3, hx.k h4⟩
              have hgw6 := hg.t hg6
              clear hcell hsl6 hown6 hg hg6
              go_wp2_with fail
              go_loopw [51] (fun s wx => ∃ a : Nat, a ≤ r.length ∧ s = .int .i64 a ∧ w6.grownBy wx none ∧ Hid (∀ a', a' < a → (segK q q.length).any (meetS ⟨cor r a', cor r (a' + 1)⟩) = false)) (fun s _ => r.length - (intOf s).toNat)
              case atStart => exact ⟨0, Nat.zero_le _, rfl, World.grownBy.refl _ _, fun a' ha' => by omega⟩
              case round =>
                obtain ⟨a, ha, rfl, hgx, hia⟩ := hrel
                by_cases hal : a < r.length
                · obtain ⟨⟨c0, c1⟩, c2, c3⟩ := hcl.out wr hgx a hal
                  have hgr := hgw6.t hgx
                  have hF1a := hide (hF1k.out a hal)
                  have hba : bdP (cor r a) := hbi.out _ (cor_mem (by omega) _)
                  have hba1 : bdP (cor r (a + 1)) := hbi.out _ (cor_mem (by omega) _)
                  go_upto_region 19 with fail
                  obtain ⟨w11, hw11⟩ : ∃ x, x = (wr).alloc (.cells [.int .i64 (cor r a).x, .int .i64 (cor r a).y, .int .i64 (cor r (a + 1)).x, .int .i64 (cor r (a + 1)).y].toArray 105) := ⟨_, rfl⟩
                  have hg11 : (wr).grownBy w11 none := by rw [hw11]; exact gr_alloc (World.grownBy.refl _ _) _
                  have hb11 : Box w11 (wr).heap.size 105 [.int .i64 (cor r a).x, .int .i64 (cor r a).y, .int .i64 (cor r (a + 1)).x, .int .i64 (cor r (a + 1)).y] := by rw [hw11]; exact Box.new _ _ _
                  have hxs11 := hb11.lt
                  rw [← hw11]
                  clear hw11
                  obtain ⟨x11, hx11⟩ : ∃ x, x = (wr).heap.size := ⟨_, rfl⟩
                  rw [← hx11] at hb11 hxs11 ⊢
                  have hxl11 : (wr).heap.size ≤ x11 := by omega
                  clear hx11
                  clear c0 c1 c2 c3
                  have hSk := fun wx (hx : w.grownBy wx none) => sidesRef_any Bk dk q wx (hslk.pure hx) (by omega)
                  go_wp2_with fail
                  refine (hSk _ (hgr.t hg11)).mono ?_
                  rintro e w7 ⟨A7, c7, rfl, hown7, hg7⟩
                  clear hSk
                  have hb11' := hb11.pure hg7
                  have hH : SgH w7 x11 ⟨cor r a, cor r (a + 1)⟩ (segK q q.length) := ⟨(hb11'.c 0 rfl).1, (hb11'.c 1 rfl).1, (hb11'.c 2 rfl).1, (hb11'.c 3 rfl).1, ⟨hba, hba1⟩, seg_bd hbk.out (by omega)⟩
                  have hCF := containsSg_any ⟨cor r a, cor r (a + 1)⟩ x11 A7 c7 (segK q q.length) w7 (hown7.sl.mono (Nat.zero_le _)) hH
                  rw [segK_len] at hCF
                  have hgE := hgx.t (hg11.t hg7)
                  clear hH hown7 hb11 hb11'
                  obtain ⟨bb, hbb⟩ : ∃ b, (segK q q.length).any (meetS ⟨cor r a, cor r (a + 1)⟩) = b := ⟨_, rfl⟩
                  rw [hbb] at hCF
                  cases bb with
                  | true =>
                    have hF := hide (hF1a.out hbb)
                    replace hbb := hide hbb
                    go_wp2_with fail
                    refine hCF.mono ?_
                    rintro e w8 ⟨rfl, hg8⟩
                    go_wp2_with fail
                    go_ret
                    exact ⟨ret_int hF.out.symm, hgw6.t (hgE.t hg8)⟩
                  | false =>
                    have hia2 : Hid (∀ a', a' < a + 1 → (segK q q.length).any (meetS ⟨cor r a', cor r (a' + 1)⟩) = false) := fun a' ha' => by
                      by_cases e : a' < a
                      · exact hia.out a' e
                      · obtain rfl : a' = a := by omega
                        exact hbb
                    clear hF1a
                    replace hbb := hide hbb
                    go_wp2_with fail
                    refine hCF.mono ?_
                    rintro e w8 ⟨rfl, hg8⟩
                    clear hCF
                    go_wp2_with fail
                    first
                      | exact ⟨⟨a + 1, by omega, by go_num, hgE.t hg8, hia2⟩, by simp [intOf]; omega⟩
                      | (go_roundw; (case rel => exact ⟨a + 1, by omega, by go_num, hgE.t hg8, hia2⟩); (case measure => simp [intOf]; omega))
                · obtain rfl : a = r.length := by omega
                  have hin2 := hide (hNk.out hia.out)
                  have hgr := hgw6.t hgx
                  clear hia hF1k hNk
                  go_wp2_with fail
                  first
                    | exact ⟨⟨k + 1, by omega, by go_num, hgr, hin2⟩, by simp [intOf]; omega⟩
                    | (go_roundw; (case rel => exact ⟨k + 1, by omega, by go_num, hgr, hin2⟩); (case measure => simp [intOf]; omega))
            · obtain rfl : k = i := by omega
              have hall2 := hide (hNx.out hin.out)
              go_wp2_with fail
              first
                | exact ⟨⟨k + 1, by omega, by go_num, hg, hall2⟩, by simp [intOf]; omega⟩
                | (go_roundw; (case rel => exact ⟨k + 1, by omega, by go_num, hg, hall2⟩); (case measure => simp [intOf]; omega))
        · obtain rfl : i = rs.length := by omega
          have hF := hide (hF0.out hall.out)
          go_wp2_with fail
          go_ret
          exact ⟨ret_int hF.out.symm, hg⟩

end Go.Proofs.YtejmbaiioblfeaaGreatDoor

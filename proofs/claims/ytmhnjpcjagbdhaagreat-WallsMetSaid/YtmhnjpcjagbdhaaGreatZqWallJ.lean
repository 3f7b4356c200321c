/- Contracts of functions that this seat's laws reach, each: what one call returns and what it leaves in memory; no condition beyond each theorem's own hypotheses. -/
import Derived.Test.YtmhnjpcjagbdhaaGreatZqWallH
import Derived.Test.YtmhnjpcjagbdhaaGreatZqWallI
import Derived.Test.YtmhnjpcjagbdhaaGreatZqPathE
set_option linter.unusedVariables false
set_option linter.unusedSimpArgs false
namespace Go.Proofs.YtmhnjpcjagbdhaaGreat
open Go Go.RowKit Go.Bl

theorem row_rawP {w : World} : ∀ {l : List PathV} {cs : List Value}, Row w 0 l cs → (∀ x ∈ l, 0 < x.pts.length) → ∃ raws : List RawP, raws.length = l.length ∧ Row w 0 raws cs ∧
    All2 (fun (r : RawP) (x : PathV) => r.n = x.pts.length ∧ r.b = x.cl ∧ r.n ≤ r.c ∧ Sl w 0 r.A x.pts ∧ ∀ g, blk r.A = some g → 0 ≤ g ∧ g < w.heap.size) raws l
  | [], cs, h, _ => ⟨[], rfl, h, .nil⟩
  | x :: l, cs, h, hn => by
    obtain ⟨c1, c2, rfl, ⟨A, c, rfl, hle, hs⟩, h2⟩ := h
    obtain ⟨raws, h3, h4, h5⟩ := row_rawP h2 (fun y hy => hn y (List.mem_cons_of_mem _ hy))
    refine ⟨⟨A, x.pts.length, c, x.cl⟩ :: raws, by simp [h3], ⟨_, _, rfl, rfl, h4⟩, .cons ⟨rfl, rfl, hle, hs, fun g hg => ⟨Nat.zero_le _, ?_⟩⟩ h5⟩
    obtain ⟨g', o, cx, e, _, hb, _⟩ := hs.at_ (by decide) (hn x (by simp))
    subst e
    cases hg
    exact hb

theorem sl_rawP {w : World} {A : Option Addr} {l : List PathV} (h : Sl w 0 A l) (hn : ∀ x ∈ l, 0 < x.pts.length) : ∃ raws : List RawP, raws.length = l.length ∧ Sl w 0 A raws ∧
    All2 (fun (r : RawP) (x : PathV) => r.n = x.pts.length ∧ r.b = x.cl ∧ r.n ≤ r.c ∧ Sl w 0 r.A x.pts ∧ ∀ g, blk r.A = some g → 0 ≤ g ∧ g < w.heap.size) raws l := by
  obtain ⟨hm, cs, hr, hl⟩ := h
  obtain ⟨raws, h1, h2, h3⟩ := row_rawP hr hn
  exact ⟨raws, h1, ⟨by rw [h1]; exact hm, cs, h2, hl⟩, h3⟩

set_option maxHeartbeats 400000 in
theorem cloneRawP_any (A : Option Addr) (c : Nat) (l : List RawP) (w : World) (hl : Sl w 0 A l) (hlen : l.length ≤ 1000000) :
    Calls Tryz.prog 54 #[.slice A l.length c] w fun e w' => ∃ A' c', e = .returned (.slice A' l.length c') ∧ Own w' w.heap.size 62 A' c' l ∧ w.grownBy w' none := by
  obtain ⟨i0, hi, hz, h1, h2⟩ := info_parts info_path
  have hq := fun W => Lib.run_eql_slice_nil (P := Tryz.prog) W 31 62 A l.length c 0 0 Tryz.underlying31
  rcases A with _ | ad
  · have hl0 : l = [] := by
      rcases Nat.eq_zero_or_pos l.length with h | h
      · exact List.eq_nil_of_length_eq_zero h
      · obtain ⟨g, o, cx, e, _⟩ := hl.at_ (by decide) h
        cases e
    subst hl0
    simp only [List.length_nil] at hq
    go_enter Tryz.func54, Tryz.ntmps54
    go_wp2_with fail
    go_ret
    exact ⟨none, 0, rfl, Own.nil _ _ _, World.grownBy.refl _ _⟩
  · go_enter Tryz.func54, Tryz.ntmps54
    go_wp2_with (at_builtin; refine wpList_push (α := RawP) _ rfl (.tmp 5) (.tmp 6) _ rfl w.heap.size 62 i0 _ 32 Tryz.underlying31 hi hz h1 h2 rfl _ _ _ [] rfl rfl (by exact Own.empty _ _ _ (Nat.le_refl _)) 0 ad _ c l rfl rfl (by exact hl.pure (gr_alloc (World.grownBy.refl _ _) _)) ?c2 ?c3 ?c4 ?_)
    case c2 => simp; omega
    case c3 => simp [maxLen]; omega
    case c4 => simp
    intro A2 c2 w2 hown hup
    go_wp2
    go_ret
    exact ⟨A2, c2, rfl, hown, hup.gr (Nat.le_refl _) (gr_alloc (World.grownBy.refl _ _) _)⟩

set_option maxHeartbeats 4000000 in
set_option maxRecDepth 100000 in
theorem chainedOf_any (A : Option Addr) (c : Nat) (p : List PathV) (w : World) (hl : Sl w 0 A p) (hF : pathsF p = 0) :
    Calls Tryz.prog 20 #[.slice A p.length c] w fun e w' => ∃ A' c', e = .returned (.tuple #[.slice A' (chRes p).length c', .int .i64 (pathsF (chainN p.length p))]) ∧ Sl w' 0 A' (chRes p) ∧ w.grownBy w' none := by
  obtain ⟨hp200, hpf⟩ := pathsF_zero hF
  have hful : Hid (fullB p) := fun x hx => (pathF_zero (hpf x hx)).1
  have h500 : Hid (∀ x ∈ p, x.pts.length ≤ 500) := fun x hx => (pathF_zero (hpf x hx)).2.1
  have htot : Hid (totP p ≤ 100000) := by
    have : ∀ (l : List PathV), (∀ x ∈ l, x.pts.length ≤ 500) → totP l ≤ 500 * l.length := by
      intro l h
      unfold totP
      induction l with
      | nil => simp
      | cons y l ih =>
        have h1 := h y (by simp)
        have h2 := ih (fun x hx => h x (List.mem_cons_of_mem _ hx))
        simp only [List.map_cons, List.sum_cons, List.length_cons]; omega
    have := this p h500.out
    rw [Hid]; omega
  clear hpf hF
  obtain ⟨raws0, hr0, hSr, hAr⟩ := sl_rawP hl (fun x hx => hful.out x hx)
  have hCl := cloneRawP_any A c raws0 w hSr (by omega)
  rw [hr0] at hCl
  go_enter Tryz.func20, Tryz.ntmps20
  go_wp2_with fail
  refine hCl.mono ?_
  rintro e w1 ⟨A1, c1, rfl, hO1, hg1⟩
  have hN1 : OwnN RawP w1 0 62 A1 c1 p := ⟨raws0, hO1.lower (Nat.zero_le _), hAr.imp fun x y hx => ⟨NestOf.gr (ρ := RawP) (lo := 0) hx hg1 (fun q _ e => by cases e), fun q hq e => by have h3 := (hO1.blk_lt e).1; have h4 := (hx.2.2.2.2 q hq).2; omega⟩⟩
  have hB1 : ∀ g, blk A1 = some g → w.heap.size ≤ g := fun g e => (hO1.blk_lt e).1
  clear hCl hO1 hAr hSr hr0
  go_wp2_with fail
  go_loopw [0] (fun o wr => ∃ (m : List PathV) (A3 : Option Addr) (c3 : Nat), o = .slice A3 m.length c3 ∧ OwnN RawP wr 0 62 A3 c3 m ∧ (∀ g, blk A3 = some g → w.heap.size ≤ g) ∧ w.grownBy wr none ∧ Hid (fullB m ∧ totP m ≤ 100000) ∧ Hid (chainN p.length p = chainN m.length m)) (fun o _ => lenOf o)
  case atStart => exact ⟨p, A1, c1, rfl, hN1, hB1, hg1, ⟨hful.out, htot.out⟩, rfl⟩
  case round =>
    clear hN1 hB1 hg1
    obtain ⟨m, A3, c3, rfl, hown, hblk, hg, hfm, hcm⟩ := hrel
    have hlm := hown.sl.mono (Nat.zero_le _)
    have hJ := joint_any A3 c3 m wr hlm (fun q hq => ⟨hfm.out.1 q hq, by have := tot_mem q hq; have := hfm.out.2; omega⟩)
    replace hJ := hide hJ
    go_wp2_with fail
    refine hJ.out.mono ?_
    rintro e w2 ⟨h, hg2⟩
    clear hJ
    rcases h with ⟨h1, rfl⟩ | ⟨i, k, h1, rfl⟩
    · have hno : chain1 m = none := by unfold chain1; rw [h1]; rfl
      have hm : Hid (chainN p.length p = m) := by rw [Hid, hcm.out, chainN_id hno]
      have hCk := pathsFaultRef_any A3 c3 m w2 (hlm.pure hg2)
      have hRes : Hid (chRes p = if pathsF m = 0 then m else []) := by rw [Hid]; unfold chRes; rw [hm.out]
      have hFm : Hid (pathsF (chainN p.length p) = pathsF m) := by rw [Hid, hm.out]
      obtain ⟨F, hFe⟩ : ∃ F, pathsF m = F := ⟨_, rfl⟩
      rw [hFe] at hCk hRes hFm
      clear hFe hno h1
      have hgx := hg.t hg2
      by_cases hF0 : F = 0
      · subst hF0
        rw [if_pos rfl] at hRes
        go_wp2_with fail
        refine hCk.mono ?_
        rintro e w3 ⟨rfl, hg3⟩
        go_wp2_with fail
        go_ret2
        exact ⟨A3, c3, by rw [hRes.out, hFm.out]; rfl, by rw [hRes.out]; exact hlm.pure (hg2.t hg3), hgx.t hg3⟩
      · rw [if_neg hF0] at hRes
        have hb0 : (F != 0) = true := by simp [hF0]
        replace hF0 := hide hF0
        go_wp2_with fail
        refine hCk.mono ?_
        rintro e w3 ⟨rfl, hg3⟩
        go_wp2_with fail
        go_ret2
        exact ⟨none, 0, by rw [hRes.out, hFm.out]; rfl, by rw [hRes.out]; exact Sl.nil, hgx.t hg3⟩
    · obtain ⟨hil, hci, hkl, hfit⟩ := pairK_some h1
      obtain ⟨hki, hck, -⟩ := fitB_parts hfit
      have hc1 : Hid (chain1 m = some (joinP m i k)) := by rw [Hid, chain1, h1]; rfl
      clear h1 hfit
      obtain ⟨raws, hO, hA2⟩ := hown
      have hrl := hA2.len
      obtain ⟨gg, rfl, hggl, hggr⟩ := hO.shape (by omega)
      have hgw : w.heap.size ≤ gg := hblk gg rfl
      have hO2 := hO.pure hg2
      have hA22 := hA2.grN hg2
      have hl2 := hlm.pure hg2
      have hgx := hg.t hg2
      obtain ⟨_, _, cx, e, -, -, ⟨Ai, ci, rfl, hcpi, hpi⟩, hc⟩ := hl2.at_ (by decide) hil
      cases e
      have ci0 : w2.cell? ⟨gg, i * 2, none⟩ = some (.slice Ai m[i].pts.length ci) := by have := hc 0 _ rfl; rw [Nat.zero_add] at this; exact this
      clear hc
      obtain ⟨_, _, cx, e, -, -, ⟨Ak, ck, rfl, hcpk, hpk⟩, hc⟩ := hl2.at_ (by decide) hkl
      cases e
      have ck0 : w2.cell? ⟨gg, k * 2, none⟩ = some (.slice Ak m[k].pts.length ck) := by have := hc 0 _ rfl; rw [Nat.zero_add] at this; exact this
      clear hc
      rw [getD_at hil] at hci
      have hki0 := hfm.out.1 m[k] (List.getElem_mem _)
      have hii0 := hfm.out.1 m[i] (List.getElem_mem _)
      have hti := tot_mem m[i] (List.getElem_mem hil)
      have htk := tot_mem m[k] (List.getElem_mem hkl)
      have htm := hfm.out.2
      obtain ⟨n, hn⟩ : ∃ n, m[k].pts.length = n + 1 := ⟨m[k].pts.length - 1, by omega⟩
      obtain ⟨gk, ok, cx, rfl, -, -, -, -⟩ := hpk.at_ (by decide) (show 0 < m[k].pts.length by omega)
      rw [hn] at ck0
      have hmc : n + 1 ≤ ck := by rw [← hn]; exact hcpk
      have hm1 : (1 : Int) ≤ (n : Int) + 1 := by omega
      obtain ⟨A4, hA4, hp4⟩ : ∃ A4 : Addr, (if ck = 1 then (some ⟨gk, ok, none⟩ : Option Addr) else some ⟨gk, ok + 2, none⟩) = some A4 ∧ Hid (Sl w2 0 (some A4) (m[k].pts.drop 1)) := by
        by_cases hq : ck = 1
        · have h0 : m[k].pts.drop 1 = [] := by rw [List.drop_eq_nil_iff]; omega
          exact ⟨_, by rw [if_pos hq], by rw [Hid, h0]; exact Sl.nil⟩
        · exact ⟨_, by rw [if_neg hq], by have := Sl.drop hpk 1; exact this⟩
      have hdl : (m[k].pts.drop 1).length = n := by rw [List.length_drop, hn]; rfl
      have hJ : Hid (joinedP m i k = ⟨m[i].pts ++ m[k].pts.drop 1, false⟩) := by rw [Hid, joinedP, getD_at hil, getD_at hkl, hci]
      have hil2 : m[i].pts.length ≤ 100000 := by omega
      have hnl : n ≤ 100000 := by omega
      have hjl : Hid ((joinP m i k).length = m.length - 1) := by have := joinP_len (i := i) hkl; rw [Hid]; omega
      have hlen := chain1_len hc1.out
      have hT := hide (chain1_tot hc1.out hfm.out.1)
      have hS := hide (chainN_step hc1.out)
      have hcm2 := Own.capMax hO2
      have hir : i < raws.length := by omega
      have hmm : m.length ≤ 9223372036854775807 := by have := hlm.1; unfold maxLen at this; omega
      replace hn := hide hn
      have hkn : m[k].pts.length ≤ 1000000 := by omega
      go_upto_region 4 with fail
      refine wp_region_tree (fun wx => w2.grownBy wx none) [2, 2, 2, 2, 2, 2, 1, 0, 2, 2, 2, 2, 1, 2, 0, 2, 2, 0] (.bl 0 (.bl 1 (.bl 2 (.bl 3 (.bl 4 (.bl 5 (.bl 6 (.bl 8 (.bl 9 (.bl 10 (.bl 11 (.bl 12 (.bl 13 (.ef 7 (.ef 14 (.bl 15 (.bl 16 (.ef 17 .done)))))))))))))))))) (by kernel_rfl) (by kernel_rfl) (gr_drew (World.grownBy.refl _ _)) ?_
      obtain ⟨W1, hW1⟩ : ∃ x, x = (w2).drew := ⟨_, rfl⟩
      rw [← hW1]
      have hgW1 : (w2).grownBy W1 none := by rw [hW1]; exact gr_drew (World.grownBy.refl _ _)
      clear hW1
      refine tree_p rfl rfl rfl rfl _ rfl (by simp) (fun K hK => ?_)
      apply Exists.intro
      refine ⟨fun wq K' hK' => ?_, ?_⟩
      · go_wp2_with fail
        exact hK'
      go_simp
      refine hK _ ?_
      clear hK K
      refine tree_p rfl rfl rfl rfl _ rfl (by simp) (fun K hK => ?_)
      apply Exists.intro
      refine ⟨fun wq K' hK' => ?_, ?_⟩
      · go_wp2_with fail
        exact hK'
      go_simp
      refine hK _ ?_
      clear hK K
      refine tree_p rfl rfl rfl rfl _ rfl (by simp) (fun K hK => ?_)
      apply Exists.intro
      refine ⟨fun wq K' hK' => ?_, ?_⟩
      · go_wp2_with fail
        exact hK'
      go_simp
      refine hK _ ?_
      clear hK K
      refine tree_p rfl rfl rfl rfl _ rfl (by simp) (fun K hK => ?_)
      apply Exists.intro
      refine ⟨fun wq K' hK' => ?_, ?_⟩
      · go_wp2_with fail
        exact hK'
      go_simp
      refine hK _ ?_
      clear hK K
      refine tree_p rfl rfl rfl rfl _ rfl (by simp) (fun K hK => ?_)
      apply Exists.intro
      refine ⟨fun wq K' hK' => ?_, ?_⟩
      · go_wp2_with fail
        exact hK'
      go_simp
      refine hK _ ?_
      clear hK K
      refine tree_p rfl rfl rfl rfl _ rfl (by simp) (fun K hK => ?_)
      apply Exists.intro
      refine ⟨fun wq K' hK' => ?_, ?_⟩
      · go_wp2_with fail
        exact hK'
      go_simp
      refine hK _ ?_
      clear hK K
      refine tree_b rfl rfl rfl rfl _ rfl (by simp) (fun K hK => ?_)
      apply Exists.intro
      refine ⟨fun wq hq K' hK' => ?_, ?_⟩
      · have y0 := hq.k ci0
        have y1 := hq.k ck0
        go_wp2_with fail
        exact hK'
      go_simp
      refine hK _ ?_
      clear hK K
      refine tree_p rfl rfl rfl rfl _ rfl (by simp) (fun K hK => ?_)
      apply Exists.intro
      refine ⟨fun wq K' hK' => ?_, ?_⟩
      · go_wp2_with fail
        exact hK'
      go_simp
      refine hK _ ?_
      clear hK K
      refine tree_p rfl rfl rfl rfl _ rfl (by simp) (fun K hK => ?_)
      apply Exists.intro
      refine ⟨fun wq K' hK' => ?_, ?_⟩
      · go_wp2_with fail
        exact hK'
      go_simp
      refine hK _ ?_
      clear hK K
      refine tree_p rfl rfl rfl rfl _ rfl (by simp) (fun K hK => ?_)
      apply Exists.intro
      refine ⟨fun wq K' hK' => ?_, ?_⟩
      · go_wp2_with fail
        exact hK'
      go_simp
      refine hK _ ?_
      clear hK K
      refine tree_p rfl rfl rfl rfl _ rfl (by simp) (fun K hK => ?_)
      apply Exists.intro
      refine ⟨fun wq K' hK' => ?_, ?_⟩
      · go_wp2_with fail
        exact hK'
      go_simp
      refine hK _ ?_
      clear hK K
      refine tree_b rfl rfl rfl rfl _ rfl (by simp) (fun K hK => ?_)
      apply Exists.intro
      refine ⟨fun wq hq K' hK' => ?_, ?_⟩
      · have y0 := hq.k ci0
        have y1 := hq.k ck0
        go_wp2_with fail
        exact hK'
      go_simp
      refine hK _ ?_
      clear hK K
      refine tree_p rfl rfl rfl rfl _ rfl (by simp) (fun K hK => ?_)
      apply Exists.intro
      refine ⟨fun wq K' hK' => ?_, ?_⟩
      · go_wp2_with fail
        exact hK'
      go_simp
      refine hK _ ?_
      clear hK K
      refine tree_e rfl rfl (fun K hK => ?_)
      go_wp2_with fail
      refine (clonePt_any Ai ci m[i].pts W1 (hpi.pure (gr_trans hgW1 (World.grownBy.refl _ _))) (by omega)).mono ?_
      rintro e w7 ⟨A7, c7, rfl, ho7, hg7⟩
      have hW7 : w2.grownBy w7 none := gr_trans (gr_trans hgW1 (World.grownBy.refl _ _)) hg7
      have hv7 : w2.heap.size ≤ (W1).heap.size := (gr_trans hgW1 (World.grownBy.refl _ _)).size
      go_wp2_with fail
      try go_simp
      refine hK _ _ (hW7) ?_
      clear hK K
      refine tree_e0 (by kernel_rfl) rfl rfl (fun K hK => ?_)
      obtain ⟨i0, hi, hz, h1, h2⟩ := info_parts info_pt
      refine wp_pushAt (α := Pt) _ (.tmp 25) (.tmp 31) _ rfl w2.heap.size 29 i0 _ 16 Tryz.underlying56 hi hz h1 h2 rfl _ _ _ m[i].pts rfl rfl (by exact (ho7.lower hv7).pure (World.grownBy.refl _ _)) 0 A4 _ _ (m[k].pts.drop 1) (by first | rfl | (simp [hA4])) (by rw [hdl]) (by exact hp4.out.pure (gr_trans hW7 (World.grownBy.refl _ _))) ?_ ?_ ?_ ?_
      · rw [hdl]; omega
      · rw [hdl]; unfold maxLen; omega
      · exact hW7.size
      intro A8 c8 w8 hO8 hG8
      generalize m[i].pts ++ List.drop 1 m[k].pts = L at hO8 hJ ⊢
      try go_simp
      refine hK _ _ trivial ?_
      clear hK K
      refine tree_p rfl rfl rfl rfl _ rfl (by simp) (fun K hK => ?_)
      apply Exists.intro
      refine ⟨fun wq K' hK' => ?_, ?_⟩
      · go_wp2_with fail
        exact hK'
      go_simp
      refine hK _ ?_
      clear hK K
      refine tree_p rfl rfl rfl rfl _ rfl (by simp) (fun K hK => ?_)
      apply Exists.intro
      refine ⟨fun wq K' hK' => ?_, ?_⟩
      · go_wp2_with fail
        exact hK'
      go_simp
      refine hK _ ?_
      clear hK K
      refine tree_e0 (by kernel_rfl) rfl rfl (fun K hK => ?_)
      have hu8 : w2.grownBy w8 none := gr_row hW7 hG8.1 (fun g e => Nat.le_trans hv7 (ho7.blk_lt e).1)
      have hO9 := hO2.pure hu8
      have hA9 := hA22.grN hu8
      obtain ⟨f0, f1⟩ := hO9.cell_rawp hir
      have f2 := hO9.frozen (i * 2)
      have f3 := hO9.frozen (i * 2 + 1)
      go_wp2_with fail
      try go_simp
      refine hK _ _ trivial ?_
      clear hK K
      refine tree_done ?_
      obtain ⟨w9, hw9⟩ : ∃ x, x = (w8.setCell ⟨gg, i * 2, none⟩ (.slice A8 L.length c8)).setCell ⟨gg, i * 2 + 1, none⟩ (.bool false) := ⟨_, rfl⟩
      rw [← hw9]
      have hput1 := hO9.put (j := 0) hir (x := ⟨A8, L.length, c8, raws[i].b⟩) (u := .slice A8 L.length c8) (by decide) (by rintro c1 rfl; rfl)
      have hput2 := hput1.put (i := i) (j := 1) (x := ⟨A8, L.length, c8, false⟩) (u := .bool false) (by simpa using hir) (by decide) (by rintro c1 hc; simp at hc; rw [hc]; rfl)
      simp only [List.set_set] at hput2
      have hput3 : Own w9 0 62 (some ⟨gg, 0, none⟩) c3 (raws.set i ⟨A8, L.length, c8, false⟩) := by rw [hw9]; exact hput2
      have hg9 : w8.grownBy w9 (some gg) := by rw [hw9]; exact gr_set (gr_set (World.grownBy.refl w8 (some gg)) (p := ⟨gg, i * 2, none⟩) (.inl rfl) _) (p := ⟨gg, i * 2 + 1, none⟩) (.inl rfl) _
      have hnew : NOk RawP w8 0 (some ⟨gg, 0, none⟩) ⟨A8, L.length, c8, false⟩ (joinedP m i k) := by
        rw [hJ.out]
        refine ⟨⟨rfl, rfl, hO8.cap, hO8.sl.mono (Nat.zero_le _), fun q hq => ⟨Nat.zero_le _, (hO8.blk_lt hq).2⟩⟩, fun q hq e => ?_⟩
        have h1 := (hO8.blk_lt hq).1
        have h2 := hg2.size
        injection e with e
        simp only at e
        omega
      have hA10 := (hA9.set_ i hnew).grB hg9 rfl
      have hgy := gr_row (hgx.t hu8) hg9 (fun g e => by cases e; exact hgw)
      have hD := delPath_any gg c3 _ m.length k 0 w9 hput3 (by rw [List.length_set]; exact hrl) hkl hcm2
      clear hw9 hput1 hput2 hput3 hnew hA9 hO9 hO8 hG8 hg7 ho7 hW7 hgW1 hp4 hpi hpk ci0 ck0 f0 f1 f2 f3 hu8 hA22 hO2 hO hl2 hlm
      replace hD := hide hD
      go_wp2_with fail
      refine hD.out.mono ?_
      rintro e w14 ⟨rfl, hO14, hg14⟩
      have hgz := gr_row hgy hg14 (fun g e => by cases e; exact hgw)
      go_wp2_with fail
      go_roundw
      case rel => exact ⟨joinP m i k, some ⟨gg, 0, none⟩, c3, by rw [hjl.out], ⟨_, hO14, (All2.erase hA10 k).grB hg14 rfl⟩, fun g e => by cases e; exact hgw, hgz, ⟨hT.out.1, by have := hT.out.2; have := hfm.out.2; omega⟩, by rw [Hid, hcm.out, hS.out]⟩
      case measure => simp [lenOf]; omega

end Go.Proofs.YtmhnjpcjagbdhaaGreat

/- Contracts of functions that this seat's laws reach, each: what one call returns and what it leaves in memory; no condition beyond each theorem's own hypotheses. -/
import Derived.Test.YtlefdcodfjifcaaGreatDoorMStayP
import Derived.Test.YtlefdcodfjifcaaGreatDoorMChainBT
import Derived.Test.YtlefdcodfjifcaaGreatDoorMChainLaw
import Derived.Test.YtlefdcodfjifcaaGreatDoorMNearB
import Derived.Test.YtlefdcodfjifcaaGreatDoorMRightP
import Derived.Test.YtlefdcodfjifcaaGreatDoorMPrintData
import Derived.Test.YtlefdcodfjifcaaGreatDoorMReady
set_option linter.unusedVariables false
set_option linter.unusedSimpArgs false
namespace Go.Proofs.YtlefdcodfjifcaaGreatDoor
open Go Go.RowKit Go.Bl

theorem OwnT.keep {w w' : World} {lo : Nat} {e : TypeId} {A : Option Addr} {c : Nat} {l : List PathV} {q : Option Nat} (h : OwnT w lo e A c l) (hg : w.grownBy w' q) (hq : ∀ g, q = some g → g < lo) : OwnT w' lo e A c l := by
  obtain ⟨raws, ho, ha⟩ := h
  exact ⟨raws, ho.keep hg hq, ha.imp fun _ _ x => NOkT.gr x hg (fun g hb e => by have := (NestOf.lt x.1.1 (g := g) hb).1; have := hq g e; omega)⟩

theorem tot_six' {l : List PathV} (h : l.length ≤ 6) (h4 : ∀ p ∈ l, p.pts.length ≤ 4) : totP l ≤ 24 := by
  have : ∀ (l : List PathV), (∀ x ∈ l, x.pts.length ≤ 4) → totP l ≤ 4 * l.length := by
    intro l h
    unfold totP
    induction l with
    | nil => simp
    | cons y l ih =>
      have h1 := h y (by simp)
      have h2 := ih (fun x hx => h x (List.mem_cons_of_mem _ hx))
      simp only [List.map_cons, List.sum_cons, List.length_cons]; omega
  have := this l h4
  omega

set_option maxHeartbeats 4000000 in
set_option maxRecDepth 100000 in
theorem pathsStay_law (A : Option Addr) (n c : Nat) (L : List Int) (w : World) (hL : Sl w 0 A L) (hn : L.length = n) :
    Calls Tryz.prog 7 #[.slice A n c] w fun e w' => e = .returned (.bool true) ∧ w.grownBy w' none := by
  have hs0 := strm_new (c := c) 25 hL hn
  have hg0 := gr_alloc (World.grownBy.refl w none) (.cells #[.slice A n c, .int .i64 0] 25)
  have hS0 := SOut.refl hs0
  have hR := rightPaths_any _ 0 4 _ hs0 (by omega) (by omega)
  go_enter Tryz.func7, Tryz.ntmps7
  go_wp2_with fail
  refine hR.mono ?_
  rintro e w1 ⟨p, A1, c1, rfl, hp, hpF, hp6, hp4, ho1⟩
  replace hS0 := hS0.trans ho1
  have hl := hp.mono (Nat.zero_le _)
  have hgw : w.grownBy w1 none := gr_new hg0 hS0.1 (Nat.le_refl _)
  clear ho1 hS0 hs0 hg0 hL hR hp
  have ht := tot_six' (by omega) hp4
  have h500 : Hid (∀ x ∈ p, x.pts.length ≤ 500) := fun x hx => by have := hp4 x hx; omega
  have hp200 : p.length ≤ 200 := by omega
  obtain ⟨k1, -, -, k4, k5⟩ := chainN_keeps p.length p hpF (by omega)
  have hst0 : near ⟨0, 0⟩ := by unfold near; simp
  have hsf0 : farP ⟨0, 0⟩ = false := by decide
  have hno := near_order hpF ⟨0, 0⟩
  replace hpF := hide hpF
  replace k1 := hide k1
  replace hno := hide hno
  replace ht := hide ht
  replace hp4 := hide hp4
  clear k4
  go_wp2_with fail
  go_loopw [5, 32] (fun o i wr => ∃ (k : Nat) (l : List PathV) (A2 : Option Addr) (c2 : Nat), k ≤ p.length ∧ i = .int .i64 k ∧ o = .slice A2 l.length c2 ∧ Hid (l.length = k) ∧ Hid (l = p.take k) ∧ OwnT wr w1.heap.size 36 A2 c2 l ∧ w1.grownBy wr none) (fun _ i _ => p.length - (intOf i).toNat)
  case atStart => exact ⟨0, [], none, 0, Nat.zero_le _, rfl, rfl, rfl, rfl, OwnT.nil _ _ _, World.grownBy.refl _ _⟩
  case round =>
    obtain ⟨k, l, A2, c2, hk, rfl, rfl, hlk, hlt0, hown, hg⟩ := hrel
    by_cases hlt : k < p.length
    · obtain ⟨g, o, cx, rfl, hb0, hb1, ⟨A', c', rfl, hcp, hpts⟩, hc⟩ := (hl.pure hg).at_ (by decide) hlt
      have c0 : wr.cell? ⟨g, o + k * 2, none⟩ = some (.slice A' p[k].pts.length c') := hc 0 _ rfl
      have c1 : wr.cell? ⟨g, o + k * 2 + 1, none⟩ = some (.bool p[k].cl) := hc 1 _ rfl
      clear hc
      have hll : l.length ≤ 200 := by have := hlk.out; omega
      have hpl := h500.out _ (List.getElem_mem hlt)
      have htk := take_snoc hlt
      have hgs := hg.size
      obtain ⟨raws, hO, hA2⟩ := hown
      have hrl := hide hA2.len
      have hrl2 : raws.length ≤ 200 := by rw [hrl.out]; exact hll
      go_upto_region 7 with fail
      obtain ⟨w7, hw7⟩ : ∃ x, x = (wr).alloc (.cells [.slice A' p[k].pts.length c', .bool p[k].cl].toArray 36) := ⟨_, rfl⟩
      have hg7 : (wr).grownBy w7 none := by rw [hw7]; exact gr_alloc (World.grownBy.refl _ _) _
      have hb7 : Box w7 (wr).heap.size 36 [.slice A' p[k].pts.length c', .bool p[k].cl] := by rw [hw7]; exact Box.new _ _ _
      have hxs7 := hb7.lt
      rw [← hw7]
      clear hw7
      obtain ⟨x7, hx7⟩ : ∃ x, x = (wr).heap.size := ⟨_, rfl⟩
      rw [← hx7] at hb7 hxs7 ⊢
      have hxl7 : (wr).heap.size ≤ x7 := by omega
      clear hx7
      obtain ⟨b0, _⟩ := hb7.c 0 rfl
      obtain ⟨b1, _⟩ := hb7.c 1 rfl
      clear c0 c1
      rw [← hrl.out]
      refine wp_region_tree (fun wx => w7.grownBy wx none) [2, 2, 1, 0, 2, 1, 2, 0, 0, 2] (.bl 0 (.bl 1 (.bl 2 (.bl 4 (.bl 5 (.ef 3 (.bl 6 (.ef 7 (.ef 8 (.bl 9 .done)))))))))) (by kernel_rfl) (by kernel_rfl) (gr_drew (World.grownBy.refl _ _)) ?_
      obtain ⟨W1, hW1⟩ : ∃ x, x = (w7).drew := ⟨_, rfl⟩
      rw [← hW1]
      have hgW1 : (w7).grownBy W1 none := by rw [hW1]; exact gr_drew (World.grownBy.refl _ _)
      clear hW1
      refine tree_p rfl rfl rfl rfl _ rfl (by simp) (fun K hK => ?_)
      apply Exists.intro
      refine ⟨fun wq K' hK' => ?_, ?_⟩
      · go_wp2_with fail
        exact hK'
      go_simp
      refine hK _ ?_
      clear hK K
      refine tree_p rfl rfl rfl rfl _ rfl (by simp) (fun K hK => ?_)
      apply Exists.intro
      refine ⟨fun wq K' hK' => ?_, ?_⟩
      · go_wp2_with fail
        exact hK'
      go_simp
      refine hK _ ?_
      clear hK K
      refine tree_b rfl rfl rfl rfl _ rfl (by simp) (fun K hK => ?_)
      apply Exists.intro
      refine ⟨fun wq hq K' hK' => ?_, ?_⟩
      · have y0 := hq.k b0
        have y1 := hq.k b1
        go_wp2_with fail
        exact hK'
      go_simp
      refine hK _ ?_
      clear hK K
      refine tree_p rfl rfl rfl rfl _ rfl (by simp) (fun K hK => ?_)
      apply Exists.intro
      refine ⟨fun wq K' hK' => ?_, ?_⟩
      · go_wp2_with fail
        exact hK'
      go_simp
      refine hK _ ?_
      clear hK K
      refine tree_b rfl rfl rfl rfl _ rfl (by simp) (fun K hK => ?_)
      apply Exists.intro
      refine ⟨fun wq hq K' hK' => ?_, ?_⟩
      · have y0 := hq.k b0
        have y1 := hq.k b1
        go_wp2_with fail
        exact hK'
      go_simp
      refine hK _ ?_
      clear hK K
      refine tree_e rfl rfl (fun K hK => ?_)
      go_wp2_with fail
      refine (clonePt_any A' c' p[k].pts W1 ((hpts.mono (Nat.zero_le _)).pure (hg7.t (gr_trans hgW1 (World.grownBy.refl _ _)))) (by omega)).mono ?_
      rintro e w3 ⟨A3, c3, rfl, ho3, hg3⟩
      have hW3 : w7.grownBy w3 none := gr_trans (gr_trans hgW1 (World.grownBy.refl _ _)) hg3
      have hv3 : w7.heap.size ≤ (W1).heap.size := (gr_trans hgW1 (World.grownBy.refl _ _)).size
      go_wp2_with fail
      try go_simp
      refine hK _ _ (hW3) ?_
      clear hK K
      refine tree_p rfl rfl rfl rfl _ rfl (by simp) (fun K hK => ?_)
      apply Exists.intro
      refine ⟨fun wq K' hK' => ?_, ?_⟩
      · go_wp2_with fail
        exact hK'
      go_simp
      refine hK _ ?_
      clear hK K
      refine tree_e0 (by kernel_rfl) rfl rfl (fun K hK => ?_)
      go_wp2_with fail
      try go_simp
      refine hK _ _ trivial ?_
      clear hK K
      obtain ⟨w27, hw27⟩ : ∃ x, x = (w3).alloc (.cells [.slice A3 p[k].pts.length c3, .bool p[k].cl].toArray 36) := ⟨_, rfl⟩
      have hg27 : (w3).grownBy w27 none := by rw [hw27]; exact gr_alloc (World.grownBy.refl _ _) _
      have hb27 : Box w27 (w3).heap.size 36 [.slice A3 p[k].pts.length c3, .bool p[k].cl] := by rw [hw27]; exact Box.new _ _ _
      rw [← hw27]
      clear hw27
      obtain ⟨x27, hx27⟩ : ∃ x, x = (w3).heap.size := ⟨_, rfl⟩
      rw [← hx27] at hb27 ⊢
      have hxl27 : (w3).heap.size ≤ x27 := by omega
      clear hx27
      refine tree_e0 (by kernel_rfl) rfl rfl (fun K hK => ?_)
      obtain ⟨i0, hi, hz, h1, h2⟩ := info_parts info_path
      have hO8 := hO.pure (w' := w27) (hg7.t (hW3.t hg27))
      refine wp_pushAt (α := RawP) _ (.tmp 36) (.tmp 43) _ rfl w1.heap.size 36 i0 _ 32 Tryz.underlying26 hi hz h1 h2 rfl _ _ _ raws rfl rfl hO8 0 ⟨x27, 0, none⟩ _ _ [⟨A3, p[k].pts.length, c3, p[k].cl⟩] rfl rfl (hb27.sl ⟨_, [], rfl, rfl, rfl⟩ (Nat.zero_le _) (by simp [maxLen])) ?_ ?_ ?_ ?_
      · first | omega | (simp; omega)
      · first | (simp [maxLen]; omega) | (unfold maxLen; omega)
      · exact (hg.t (hg7.t (hW3.t hg27))).size
      intro A5 c5 w5 hown5 hG5
      try go_simp
      refine hK _ _ trivial ?_
      clear hK K
      refine tree_p rfl rfl rfl rfl _ rfl (by simp) (fun K hK => ?_)
      apply Exists.intro
      refine ⟨fun wq K' hK' => ?_, ?_⟩
      · go_wp2_with fail
        exact hK'
      go_simp
      refine hK _ ?_
      clear hK K
      refine tree_done ?_
      have hgA := hg.t (hg7.t (hW3.t hg27))
      have hg5 : w1.grownBy w5 none := gr_row hgA hG5.1 (fun x e => (hO8.blk_lt e).1)
      have hA8 := grNT hA2 (hg7.t (hW3.t hg27))
      have ho27 := ho3.pure hg27
      have hnew0 : NOk RawP w27 w1.heap.size A2 ⟨A3, p[k].pts.length, c3, p[k].cl⟩ p[k] := by
        refine ⟨⟨rfl, rfl, ho27.cap, ho27.sl.mono ?_, fun q hq => ?_⟩, fun q hq e => ?_⟩
        · have := hg7.size; omega
        · have := ho27.blk_lt hq; have := hg7.size; exact ⟨by omega, by omega⟩
        · have h1 := ho27.blk_lt hq; have h2 := hO.blk_lt e; have := hg7.size; omega
      have hnew : NOkT w27 w1.heap.size A2 ⟨A3, p[k].pts.length, c3, p[k].cl⟩ p[k] := ⟨hnew0, Thaw.own ho27⟩
      clear hnew0
      have hN5 : OwnT w5 w1.heap.size 36 A5 c5 (l ++ [p[k]]) := OwnT.push hA8 hown5 hG5 hnew
      have hl5 : Hid (raws.length + 1 = (l ++ [p[k]]).length) := by rw [Hid, List.length_append, hrl.out]; rfl
      have hl6 : Hid ((l ++ [p[k]]).length = k + 1) := by rw [Hid, List.length_append, hlk.out]; rfl
      have hl7 : Hid (l ++ [p[k]] = p.take (k + 1)) := by rw [Hid, htk, ← hlt0.out]
      clear hgA hA8 ho27 hnew hown5 hG5 hO hA2 htk hg27 hW3 hO8 hb27 hg7 hb7 b0 b1 ho3 hg3 hpts hgW1
      go_wp2_with fail
      (go_roundw; (case rel => exact ⟨k + 1, _, A5, c5, by omega, by go_num, by rw [hl5.out], hl6, hl7, hN5, hg5⟩); (case measure => simp [intOf]; omega))
    · obtain rfl : k = p.length := by omega
      have hlp := hlt0.out
      rw [List.take_length] at hlp
      subst hlp
      clear hlt0 hlk
      have hsame := hown.toN.sl.mono (Nat.zero_le _)
      replace hl := hl.pure hg
      replace hgw := hgw.t hg
      clear hown hg
      have hNe := nearest_any _ c1 l ⟨0, 0⟩ wr hl hpF.out hst0 hsf0
      go_wp2_with fail
      refine hNe.mono ?_
      rintro e w2 ⟨A3, c3, rfl, hO3, hg2⟩
      clear hNe
      have htw : twoF ⟨0, 0⟩ l (nearK l ⟨0, 0⟩ l.length).1 = 0 := by
        unfold twoF
        rw [orS_zero (by rw [pointsF_one, hsf0]; rfl)]
        exact hno.out
      have hN200 : (nearK l ⟨0, 0⟩ l.length).1.length ≤ 200 := (twoF_zero htw).2.1
      generalize (travS l ⟨0, 0⟩ (nearK l ⟨0, 0⟩ l.length).1).2 = TN at *
      generalize (nearK l ⟨0, 0⟩ l.length).1 = N at *
      have hN := hO3.sl.mono (Nat.zero_le _)
      replace hl := hl.pure hg2
      replace hsame := hsame.pure hg2
      replace hgw := hgw.t hg2
      replace htw := hide htw
      clear hO3 hg2 hno
      go_wp2_with fail
      refine (cloneVis_any _ _ N _ hN (by omega)).mono ?_
      rintro e w3 ⟨A4, c4, rfl, hO4, hg3⟩
      have hN2 := hO4.sl.mono (Nat.zero_le _)
      replace hN := hN.pure hg3
      replace hl := hl.pure hg3
      replace hsame := hsame.pure hg3
      replace hgw := hgw.t hg3
      clear hO4 hg3
      have hIm := improved_any _ c1 l _ c3 N ⟨0, 0⟩ w3 hl hN htw.out
      go_wp2_with fail
      refine hIm.mono ?_
      rintro e w4 ⟨A5, c5, o', T5, rfl, hO5, hlo5, hg4⟩
      clear hIm
      have hCh := chainedT_any _ c1 l w4 (hl.pure hg4) hpF.out k1.out
      replace hlo5 := hide hlo5
      go_wp2_with fail
      refine hCh.mono ?_
      rintro e w5 ⟨A6, c6, rfl, hT6, hg5⟩
      clear hCh
      have hA5 : ∀ g, blk A5 = some g → g < w4.heap.size := fun g h => (hO5.blk_lt h).2
      replace hO5 := hO5.pure hg5
      have hg45 := hg4.t hg5
      have hw34 : w3.heap.size ≤ w4.heap.size := hg4.size
      generalize chainN l.length l = C at *
      clear k1 hg4 hg5
      go_wp2_with fail
      go_loopw [80] (fun i wr => ∃ (k : Nat) (m : List Vis), k ≤ N.length ∧ i = .int .i64 k ∧ Hid (m.length = N.length) ∧ Own wr w3.heap.size 74 A5 c5 m ∧ OwnT wr w4.heap.size 36 A6 c6 C ∧ w3.grownBy wr none) (fun i _ => N.length - (intOf i).toNat)
      case atStart => exact ⟨0, o', Nat.zero_le _, rfl, hlo5.out, hO5, hT6, hg45⟩
      case round =>
        clear hO5 hT6 hg45
        obtain ⟨k, m, hk, rfl, hmn, hO, hT, hg⟩ := hrel
        by_cases hlt : k < N.length
        · have hlm : k < m.length := by rw [hmn.out]; exact hlt
          obtain ⟨g5, rfl, hgl, hgr⟩ := hO.shape (by omega)
          have hg54 := hA5 g5 rfl
          obtain ⟨ck, rfl, hck⟩ := hO.cell_at (by decide) hlm
          have v0 : wr.cell? ⟨g5, k * 3, none⟩ = some (.int .i64 m[k].path) := hck 0 _ rfl
          have f0 := hO.frozen (k * 3)
          have hO2 := hO.put (j := 0) hlm (x := ⟨777, m[k].start, m[k].back⟩) (u := .int .i64 777) (by decide) (by rintro c1 rfl; rfl)
          have hgs := gr_set (World.grownBy.refl wr (some g5)) (p := ⟨g5, k * 3, none⟩) (.inl rfl) (.int .i64 777)
          have hT2 := OwnT.keep hT hgs (fun g e => by injection e; omega)
          have hg2 := gr_row hg hgs (fun g e => by injection e; omega)
          have hm2 : Hid ((m.set k ⟨777, m[k].start, m[k].back⟩).length = N.length) := by rw [Hid, List.length_set]; exact hmn.out
          clear hck hO hT hg
          replace hgs := hide hgs
          go_wp2_with fail
          (go_roundw; (case rel => exact ⟨k + 1, _, by omega, by go_num, hm2, hO2, hT2, hg2⟩); (case measure => simp [intOf]; omega))
        · clear hO
          obtain ⟨raws, hRo, hRa⟩ := hT
          have hRl := hide hRa.len
          have hsp : Hid (∀ r ∈ raws, Spo wr w4.heap.size A6 r) := fun r hr => by
            obtain ⟨i, hi, rfl⟩ := List.mem_iff_getElem.1 hr
            exact Spo.of (hRa.get i hi (by have := hRl.out; omega))
          have hrn : Hid (∀ r ∈ raws, r.n ≤ 9223372036854775807) := fun r hr => by
            obtain ⟨i, hi, rfl⟩ := List.mem_iff_getElem.1 hr
            have hx := (hRa.get i hi (by have := hRl.out; omega)).1.1
            have h1 := hx.1
            have h2 := hx.2.2.2.1.1
            unfold maxLen at h2
            rw [h1]; omega
          clear hRa
          go_wp2_with fail
          obtain ⟨wa, rfl⟩ : ∃ x, x = wr := ⟨wr, rfl⟩
          go_loopw [90] (fun i wr => ∃ k : Nat, k ≤ C.length ∧ i = .int .i64 k ∧ Own wr w4.heap.size 36 A6 c6 raws ∧ Hid (∀ r ∈ raws, Spo wr w4.heap.size A6 r) ∧ w3.grownBy wr none) (fun i _ => C.length - (intOf i).toNat)
          case atStart => exact ⟨0, Nat.zero_le _, rfl, hRo, hsp, hg⟩
          case round =>
            clear hRo hsp hg
            obtain ⟨k, hk, rfl, hRo, hsp, hg⟩ := hrel
            by_cases hlt : k < C.length
            · have hkr : k < raws.length := by rw [hRl.out]; exact hlt
              have hspk := hsp.out _ (List.getElem_mem hkr)
              have hnk := hrn.out _ (List.getElem_mem hkr)
              have hmk := List.getElem_mem hkr
              obtain ⟨g6, rfl, hgl, hgr⟩ := hRo.shape (by omega)
              obtain ⟨c0, c1⟩ := hRo.cell_rawp hkr
              generalize hrk : raws[k] = rk at *
              replace hrk := hide hrk
              replace hmk := hide hmk
              replace hspk := hide hspk
              go_upto_region 23 with fail
              obtain ⟨w19, hw19⟩ : ∃ x, x = (wr).alloc (.cells [.slice rk.A rk.n rk.c, .bool rk.b].toArray 36) := ⟨_, rfl⟩
              have hg19 : (wr).grownBy w19 none := by rw [hw19]; exact gr_alloc (World.grownBy.refl _ _) _
              have hb19 : Box w19 (wr).heap.size 36 [.slice rk.A rk.n rk.c, .bool rk.b] := by rw [hw19]; exact Box.new _ _ _
              have hxs19 := hb19.lt
              rw [← hw19]
              clear hw19
              obtain ⟨x19, hx19⟩ : ∃ x, x = (wr).heap.size := ⟨_, rfl⟩
              rw [← hx19] at hb19 hxs19 ⊢
              have hxl19 : (wr).heap.size ≤ x19 := by omega
              clear hx19
              obtain ⟨b0, _⟩ := hb19.c 0 rfl
              clear c0 c1
              have hRo2 := hRo.pure hg19
              have hsp2 : Hid (∀ r ∈ raws, Spo w19 w4.heap.size (some ⟨g6, 0, none⟩) r) := fun r hr => (hsp.out r hr).gr hg19
              have hg2 := hg.t hg19
              clear hRo hsp hg
              go_wp2_with fail
              clear b0
              obtain ⟨wb, rfl⟩ : ∃ x, x = wr := ⟨wr, rfl⟩
              go_loopw [97] (fun i wr => ∃ j : Nat, j ≤ rk.n ∧ i = .int .i64 j ∧ Own wr w4.heap.size 36 (some ⟨g6, 0, none⟩) c6 raws ∧ Hid (∀ r ∈ raws, Spo wr w4.heap.size (some ⟨g6, 0, none⟩) r) ∧ w3.grownBy wr none ∧ Box wr x19 36 [.slice rk.A rk.n rk.c, .bool rk.b]) (fun i _ => rk.n - (intOf i).toNat)
              case atStart => exact ⟨0, Nat.zero_le _, rfl, hRo2, hsp2, hg2, hb19⟩
              case round =>
                clear hRo2 hsp2 hg2 hb19
                obtain ⟨j, hj, rfl, hRo, hsp, hg, hb⟩ := hrel
                by_cases hjl : j < rk.n
                · obtain ⟨g7, o7, x7, hA7, hlo7, hne7, hcc⟩ := hsp.out rk hmk.out j hjl
                  have h78 : g7 < x19 := by
                    obtain ⟨g8, o8, x8, hA8, -, -, hc8⟩ := hspk.out j hjl
                    rw [hA7] at hA8
                    injection hA8 with hA8
                    injection hA8 with e8 _
                    rw [e8]; have := hc8.lt; omega
                  obtain ⟨b0, _⟩ := hb.c 0 rfl
                  rw [hA7] at b0
                  obtain ⟨p0, f0⟩ := hcc
                  have hRo2 := hRo.set_other (i := o7 + j * 2) (.int .i64 777) hne7
                  have hsp2 : Hid (∀ r ∈ raws, Spo (wr.setCell ⟨g7, o7 + j * 2, none⟩ (.int .i64 777)) w4.heap.size (some ⟨g6, 0, none⟩) r) := fun r hr => (hsp.out r hr).set g7 (o7 + j * 2) 777
                  have hb2 := hb.set_other (g' := g7) (i := o7 + j * 2) (.int .i64 777) (by omega)
                  have hg2 := gr_set hg (p := ⟨g7, o7 + j * 2, none⟩) (.inr (by simp only; omega)) (.int .i64 777)
                  clear hRo hsp hg
                  replace hA7 := hide hA7
                  have hjl2 : (0 : Int) ≤ (j : Int) ∧ (j : Int) < (rk.n : Int) := by omega
                  have q1 := hide hRo2
                  have q2 := hide hg2
                  have q3 := hide hb2
                  clear hRo2 hg2 hb2 hb
                  go_wp2_with fail
                  exact ⟨⟨j + 1, by omega, by go_num, q1.out, hsp2, q2.out, q3.out⟩, by simp [intOf]; omega⟩
                · go_wp2_with fail
                  exact ⟨⟨k + 1, by omega, by go_num, hRo, hsp, hg⟩, by simp [intOf]; omega⟩
            · clear hRo hsp hrn hRl hmn hA5 hw34 hlo5
              go_wp2_with fail
              go_loopw [109] (fun i wr => ∃ k : Nat, k ≤ l.length ∧ i = .int .i64 k ∧ w3.grownBy wr none) (fun i _ => l.length - (intOf i).toNat)
              case atStart => exact ⟨0, Nat.zero_le _, rfl, hg⟩
              case round =>
                clear hg
                obtain ⟨k, hk, rfl, hg⟩ := hrel
                by_cases hlt : k < l.length
                · have h0 := (pathF_zero ((pathsF_zero hpF.out).2 _ (List.getElem_mem hlt))).1
                  have h1 : oneF l ⟨k, 0, false⟩ = 0 := one_of hpF.out hlt (s := 0) (b := false) h0 (by simp)
                  have hPt := points_any _ c1 l ⟨k, 0, false⟩ wr (hl.pure hg)
                  rw [h1] at hPt
                  generalize tPO l ⟨k, 0, false⟩ = T at hPt
                  clear h0 h1
                  go_wp2_with fail
                  refine hPt.mono ?_
                  rintro e w6 ⟨A7, c7, rfl, hO, hg6⟩
                  have hg7 := hg.t hg6
                  have hgs := hg.size
                  have hTm := hO.sl.1
                  unfold maxLen at hTm
                  clear hPt hg6
                  go_wp2_with fail
                  obtain ⟨wb, rfl⟩ : ∃ x, x = wr := ⟨wr, rfl⟩
                  go_loopw [123] (fun i wr => ∃ (j : Nat) (m : List Pt), j ≤ T.length ∧ i = .int .i64 j ∧ Hid (m.length = T.length) ∧ Own wr wb.heap.size 68 A7 c7 m ∧ w3.grownBy wr none) (fun i _ => T.length - (intOf i).toNat)
                  case atStart => exact ⟨0, T, Nat.zero_le _, rfl, rfl, hO, hg7⟩
                  case round =>
                    clear hO hg7
                    obtain ⟨j, m, hj, rfl, hmn, hO, hg7⟩ := hrel
                    by_cases hjl : j < T.length
                    · have hlm : j < m.length := by rw [hmn.out]; exact hjl
                      obtain ⟨g5, rfl, hgl, hgr⟩ := hO.shape (by omega)
                      obtain ⟨ck, rfl, hck⟩ := hO.cell_at (by decide) hlm
                      have v0 : wr.cell? ⟨g5, j * 2, none⟩ = some (.int .i64 m[j].x) := hck 0 _ rfl
                      have f0 := hO.frozen (j * 2)
                      have hO2 := hO.put (j := 0) hlm (x := ⟨777, m[j].y⟩) (u := .int .i64 777) (by decide) (by rintro c1 rfl; rfl)
                      have hg2 := gr_set hg7 (p := ⟨g5, j * 2, none⟩) (.inr (by simp only; omega)) (.int .i64 777)
                      have hm2 : Hid ((m.set j ⟨777, m[j].y⟩).length = T.length) := by rw [Hid, List.length_set]; exact hmn.out
                      clear hck hO hg7
                      go_wp2_with fail
                      (go_roundw; (case rel => exact ⟨j + 1, _, by omega, by go_num, hm2, hO2, hg2⟩); (case measure => simp [intOf]; omega))
                    · clear hO
                      go_wp2_with fail
                      (go_roundw; (case rel => exact ⟨k + 1, by omega, by go_num, hg7⟩); (case measure => simp [intOf]; omega))
                · obtain rfl : k = l.length := by omega
                  have hSP := samePaths_same A1 c1 l A2 c2 wr (hl.pure hg) (hsame.pure hg)
                  go_wp2_with fail
                  refine hSP.mono ?_
                  rintro e w6 ⟨rfl, hg6⟩
                  clear hSP
                  have hgA := hg.t hg6
                  go_wp2_with fail
                  refine (sameVis_any A3 c3 N A4 c4 w6 (hN.pure hgA) (hN2.pure hgA)).mono ?_
                  rintro e w7 ⟨rfl, hg7⟩
                  go_wp2_with fail
                  refine (ready_any _).mono ?_
                  rintro e w9 ⟨rfl, hg9⟩
                  go_wp2_with fail
                  go_ret
                  exact ⟨rfl, hgw.t (hgA.t (hg7.t hg9))⟩

end Go.Proofs.YtlefdcodfjifcaaGreatDoor

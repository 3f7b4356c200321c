/- Contracts of functions that this seat's laws reach, each: what one call returns and what it leaves in memory; no condition beyond each theorem's own hypotheses. -/
import Derived.Test.YthciblcokogkkaaGreatDoorZqRefLaw
import Derived.Test.YthciblcokogkkaaGreatDoorZqEvR
import Derived.Test.YthciblcokogkkaaGreatDoorZqReady
import Derived.Test.YthciblcokogkkaaGreatDoorZqSlices
import Derived.Test.YthciblcokogkkaaGreatDoorZqEqStr
set_option linter.unusedVariables false
set_option linter.unusedSimpArgs false
namespace Go.Proofs.YthciblcokogkkaaGreatDoor
open Go Go.RowKit Go.Bl Go.Maps Go.WideShapes

set_option maxHeartbeats 4000000 in
set_option maxRecDepth 100000 in
theorem refused_law (A0 : Option Addr) (n c : Nat) (L : List Int) (w : World) (hL : Sl w 0 A0 L) (hn : L.length = n) :
    Calls Tryz.prog 4 #[.slice A0 n c] w fun e w' => e = .returned (.bool true) ∧ w.grownBy w' none := by
  have hs0 := strm_new (c := c) 25 hL hn
  have hg0 := gr_alloc (World.grownBy.refl w none) (.cells #[.slice A0 n c, .int .i64 0] 25)
  have hS0 := SOut.refl hs0
  have hR := rightEv2_any _ 0 _ hs0 (by omega)
  go_enter Tryz.func4, Tryz.ntmps4
  go_wp2_with fail
  refine hR.mono ?_
  rintro e w1 ⟨l, P, A, cA, rfl, hl, hl16, hlc, hF0, hpl, ho1⟩
  replace hS0 := hS0.trans ho1
  have hgw1 : w.grownBy w1 none := gr_new hg0 hS0.1 (Nat.le_refl _)
  replace hl := hide (hl.mono (Nat.zero_le _))
  replace hpl := hide (hpl.mono (Nat.zero_le _))
  clear ho1 hs0 hg0 hL hR hS0
  have hevs := ersF_zero evQ_key hF0
  have hord := hide (evs_ord hevs)
  have hev := hide (evsF_zero hevs).2
  have hchk : Hid (∀ l', ersF evQ l' = 0 → chkF evQ l' = 0) := fun l' h => by
    unfold chkF
    rw [if_neg (by rw [evQ_ok]; decide)]
    exact h
  have hqk : Hid (∀ x ∈ evQ, okK x.key) := fun x hx => Nat.le_trans (keyB_okK (evQ_key x hx)) (by unfold maxLen; omega)
  obtain ⟨hgE, hgO⟩ := ers_good hF0 hord.out (newF evQ)
  have hgood : Hid (chkF evQ (goodL (newF evQ) l) = 0 ∧ ordE 0 (goodL (newF evQ) l) ∧ (∀ e ∈ goodL (newF evQ) l, EvOk e) ∧ (goodL (newF evQ) l).length ≤ l.length) := ⟨hchk.out _ hgE, hgO, fun e he => hev.out e ((good_sub l _).subset he), (good_sub l _).length_le⟩
  have hR1 := hide (refused_any P A 2 cA evQ l w1 hpl.out hqk.out (by decide) (by omega) hev.out hl.out (hchk.out l hF0))
  rw [(badI_len (newF evQ) l).2] at hR1
  have hmem := hide fun k (h : k < l.length) => mem_badI (F := newF evQ) h
  have hlimA : ∀ l' : List Ev, (∀ e ∈ l', EvOk e) → l'.take (limN l' 345686399999) = l' := fun l' h => by
    rw [limN_all fun e he => (h e he).at1.2, List.take_length]
  have hD1 := hide fun wx (h : w1.grownBy wx none) => done_any P A 2 cA evQ l 345686399999 wx (hpl.out.pure h) hqk.out (by decide) (by omega) hev.out (hl.out.pure h) (hchk.out l hF0) (by decide)
  rw [hlimA l hev.out] at hD1
  have hlg := hlimA _ hgood.out.2.2.1
  have hcount : Hid (∀ s1 s2, DoneS (runS (newF evQ) l) s1 s2 → s1.length = cntD (goodL (newF evQ) l)) := fun s1 s2 h => by
    rw [done_len hord.out hev.out h]
    exact (good_done l (newF evQ)).symm
  replace hlg := hide hlg
  have hrun := hide (good_run l (newF evQ))
  have hbg := hide (badI_good (newF evQ) l)
  have hGs := hide fun k (h : k < l.length) => goodL_take (F := newF evQ) h
  have hGl : Hid (∀ k, (goodL (newF evQ) (l.take k)).length ≤ 16) := fun k => by
    have h1 := (good_sub (l.take k) (newF evQ)).length_le
    rw [List.length_take] at h1
    omega
  have hG0 : Hid (goodL (newF evQ) (l.take 0) = []) := rfl
  have hGz : Hid (goodL (newF evQ) (l.take l.length) = goodL (newF evQ) l) := by rw [Hid, List.take_length]
  clear hevs hF0 hgE hgO hchk hord hlimA
  go_wp2_with fail
  refine hR1.out.mono ?_
  rintro e w2 ⟨A1, c1, A2, c2, rfl, hb1, -, hg2⟩
  replace hb1 := hb1.mono (Nat.zero_le _)
  generalize hBI : badI (newF evQ) l = BI at *
  clear hBI hR1
  go_wp2_with fail
  go_loopw [9, 10, 47] (fun g cn i wr => ∃ (k m : Nat) (G : List Ev) (A' : Option Addr) (c' : Nat), k ≤ l.length ∧ i = .int .i64 k ∧ g = .slice A' G.length c' ∧ cn = .int .i64 m ∧ Hid (G = goodL (newF evQ) (l.take k)) ∧ Hid (m = cntD G) ∧ m ≤ 1000 ∧ Own wr w2.heap.size 48 A' c' G ∧ w2.grownBy wr none) (fun _ _ i _ => l.length - (intOf i).toNat)
  case atStart => exact ⟨0, 0, [], none, 0, Nat.zero_le _, rfl, rfl, rfl, hG0.out.symm, rfl, by omega, Own.nil _ _ _, World.grownBy.refl _ _⟩
  case round =>
    obtain ⟨k, m, G, A', c', hk, rfl, rfl, rfl, hG, hm, hm1, hO, hg⟩ := hrel
    have hG16 : G.length ≤ 16 := by rw [hG.out]; exact hGl.out k
    have hm16 : m ≤ 16 := by
      have h1 : cntD G ≤ G.length := List.length_filter_le _ _
      have h2 := hm.out
      omega
    by_cases hlt : k < l.length
    · obtain ⟨g, o, cx, rfl, hb0', hb1', rfl, hc⟩ := (hl.out.pure (hg2.t hg)).at_ (by decide) hlt
      have c0 : wr.cell? ⟨g, o + k * 5, none⟩ = some (.int .i64 l[k].at_) := hc 0 _ rfl
      have k1 : wr.cell? ⟨g, o + k * 5 + 1, none⟩ = some (.int .i64 l[k].kind) := hc 1 _ rfl
      have k2 : wr.cell? ⟨g, o + k * 5 + 2, none⟩ = some (.string l[k].pr) := hc 2 _ rfl
      have k3 : wr.cell? ⟨g, o + k * 5 + 3, none⟩ = some (.string l[k].job) := hc 3 _ rfl
      have k4 : wr.cell? ⟨g, o + k * 5 + 4, none⟩ = some (.string l[k].mat) := hc 4 _ rfl
      clear hc
      have hmk := hmem.out k hlt
      have hGn := hGs.out k hlt
      obtain ⟨E, hE⟩ : ∃ E, E = doE (runS (newF evQ) (l.take k)) l[k] := ⟨_, rfl⟩
      rw [← hE] at hmk hGn
      clear hE
      rw [← hG.out] at hGn
      replace hGn := hide hGn
      generalize l[k] = d at *
      go_upto_region 11 with fail
      obtain ⟨w12, hw12⟩ : ∃ x, x = (wr).alloc (.cells [.int .i64 d.at_, .int .i64 d.kind, .string d.pr, .string d.job, .string d.mat].toArray 48) := ⟨_, rfl⟩
      have hg12 : (wr).grownBy w12 none := by rw [hw12]; exact gr_alloc (World.grownBy.refl _ _) _
      have hb12 : Box w12 (wr).heap.size 48 [.int .i64 d.at_, .int .i64 d.kind, .string d.pr, .string d.job, .string d.mat] := by rw [hw12]; exact Box.new _ _ _
      have hxs12 := hb12.lt
      rw [← hw12]
      clear hw12
      obtain ⟨x12, hx12⟩ : ∃ x, x = (wr).heap.size := ⟨_, rfl⟩
      rw [← hx12] at hb12 hxs12 ⊢
      have hxl12 : (wr).heap.size ≤ x12 := by omega
      clear hx12
      clear c0 k1 k2 k3 k4
      have hO12 := hO.pure hg12
      have hgw12 := hg.t hg12
      have hCt := containsInt_any A1 c1 BI (k : Int) w12 (hb1.pure hgw12)
      by_cases hE0 : E = 0
      · rw [hmk, decide_eq_false (fun h => h hE0)] at hCt
        have hGn2 : Hid (goodL (newF evQ) (l.take (k + 1)) = G ++ [d]) := by
          have h1 := hGn.out
          rw [if_pos hE0] at h1
          exact h1
        obtain ⟨i0, hi, hz, hi1, hi2⟩ := info_parts info_ev
        obtain ⟨d0, _⟩ := hb12.c 0 rfl
        obtain ⟨d1, _⟩ := hb12.c 1 rfl
        obtain ⟨d2, _⟩ := hb12.c 2 rfl
        obtain ⟨d3, _⟩ := hb12.c 3 rfl
        obtain ⟨d4, _⟩ := hb12.c 4 rfl
        clear hmk hGn hE0
        replace hCt := hide hCt
        go_wp2_with fail
        refine hCt.out.mono ?_
        rintro e wq ⟨rfl, rfl⟩
        go_wp2_with (at_builtin; refine wpList_pushAt (α := Ev) _ rfl (.tmp 56) (.tmp 58) _ rfl w2.heap.size 48 i0 _ 64 Tryz.underlying27 hi hz hi1 hi2 rfl _ _ _ G rfl ?c1 (by exact hO12.pure (gr_alloc (World.grownBy.refl _ _) _)) 0 ⟨_, 0, none⟩ 1 1 [d] rfl rfl (by exact sl_oneAt _ 0 [.int .i64 d.at_, .int .i64 d.kind, .string d.pr, .string d.job, .string d.mat] _ _ _ (by first | rfl | simp) (Nat.zero_le _) rfl) ?c2 ?c3 ?c4 ?_)
        case c1 => rfl
        case c2 => first | omega | (simp; omega)
        case c3 => first | (simp [maxLen]; omega) | (unfold maxLen; omega)
        case c4 => have := hgw12.size; first | omega | (simp; omega)
        intro A5 c5 w5 hO5 hG5
        have hq := gr_alloc (World.grownBy.refl w12 none) (.cells #[.int .i64 d.at_, .int .i64 d.kind, .string d.pr, .string d.job, .string d.mat] 48)
        have hoq := hO12.pure hq
        have hg5 : w2.grownBy w5 none := gr_row (gr_trans hgw12 hq) hG5.1 (fun x e => (hoq.blk_lt e).1)
        have hb5 := (hb12.pure hq).gr hG5.1 (fun e => by have h1 := (hO.blk_lt e).2; omega)
        obtain ⟨e1, _⟩ := hb5.c 1 rfl
        have hl5 : Hid (G.length + 1 = (G ++ [d]).length) := by simp [Hid]
        have hcs := hide (cntD_snoc G d)
        clear d0 d1 d2 d3 d4 hoq hq hG5 hO hb12 hg12
        by_cases hkd : d.kind = 2
        · have hb : (d.kind == 2) = true := by simp [hkd]
          have hmn : Hid (m + 1 = cntD (G ++ [d])) := by rw [Hid, hcs.out, if_pos hkd, hm.out]
          clear hkd hcs hm
          go_wp2_with fail
          (go_roundw; (case rel => exact ⟨k + 1, m + 1, G ++ [d], A5, c5, by omega, by go_num, by rw [← hl5.out], by go_num, hGn2.out.symm, hmn, by omega, hO5, hg5⟩); (case measure => simp [intOf]; omega))
        · have hb : (d.kind == 2) = false := by simp [hkd]
          have hmn : Hid (m = cntD (G ++ [d])) := by rw [Hid, hcs.out, if_neg hkd, Nat.add_zero, hm.out]
          clear hkd hcs hm
          go_wp2_with fail
          (go_roundw; (case rel => exact ⟨k + 1, m, G ++ [d], A5, c5, by omega, by go_num, by rw [← hl5.out], rfl, hGn2.out.symm, hmn, by omega, hO5, hg5⟩); (case measure => simp [intOf]; omega))
      · rw [hmk, decide_eq_true (p := E ≠ 0) hE0] at hCt
        have hGn2 : Hid (goodL (newF evQ) (l.take (k + 1)) = G) := by
          have h1 := hGn.out
          rw [if_neg hE0, List.append_nil] at h1
          exact h1
        clear hmk hGn hE0
        replace hCt := hide hCt
        go_wp2_with fail
        refine hCt.out.mono ?_
        rintro e wq ⟨rfl, rfl⟩
        go_wp2_with fail
        (go_roundw; (case rel => exact ⟨k + 1, m, G, A', c', by omega, by go_num, rfl, rfl, hGn2.out.symm, hm, by omega, hO12, hgw12⟩); (case measure => simp [intOf]; omega))
    · obtain rfl : k = l.length := by omega
      have hGf : Hid (G = goodL (newF evQ) l) := by rw [Hid, hG.out]; exact hGz.out
      rw [← hGf.out] at hgood hlg hrun hbg hcount
      have hslG := hide (hO.sl.mono (Nat.zero_le w2.heap.size))
      have hR2 := hide (refused_any P A' 2 c' evQ G wr (hpl.out.pure (hg2.t hg)) hqk.out (by decide) (by omega) hgood.out.2.2.1 hslG.out hgood.out.1)
      rw [hbg.out, List.length_nil] at hR2
      have hD2 := hide fun wx (h : wr.grownBy wx none) => done_any P A' 2 c' evQ G 345686399999 wx (hpl.out.pure ((hg2.t hg).t h)) hqk.out (by decide) (by omega) hgood.out.2.2.1 (hslG.out.pure h) hgood.out.1 (by decide)
      rw [hlg.out, hrun.out] at hD2
      clear hgood hlg hrun hbg hGs hGl hG0 hGz hG hmem hslG hO hl hpl hev hqk
      go_wp2_with fail
      refine hR2.out.mono ?_
      rintro e w3 ⟨A5, c5, A6, c6, rfl, -, -, hg3⟩
      generalize (whyL (newF evQ) G).length = nw at *
      go_wp2_with fail
      refine (hD1.out _ ((hg2.t hg).t hg3)).mono ?_
      rintro e w4 ⟨s1, s2, A7, c7, A8, c8, rfl, hz1, hz2, hS1, hg4⟩
      have hlen1 := (hcount.out s1 s2 hS1).trans hm.out.symm
      rw [hlen1]
      obtain ⟨n2, hn2⟩ : ∃ n, n = s2.length := ⟨_, rfl⟩
      rw [← hn2]
      replace hn2 := hide hn2
      go_wp2_with fail
      refine (hD2.out _ (hg3.t hg4)).mono ?_
      rintro e w5 ⟨t1, t2, A9, c9, A10, c10, rfl, hy1, hy2, hS2, hg5⟩
      obtain ⟨he1, he2⟩ := hS1.eq hS2
      have hlt1 := (hcount.out t1 t2 hS2).trans hm.out.symm
      have hlt2 : t2.length = n2 := by rw [hn2.out, ← srtB_len t2, ← he2, srtB_len]
      rw [hlt1, hlt2]
      have hQ1 := hide fun wx (h : w5.grownBy wx none) => equalStrs_any A7 A9 c7 c9 (srtB s1) (srtB t1) wx (hz1.pure (hg5.t h)) (hy1.pure h)
      have hQ2 := hide fun wx (h : w5.grownBy wx none) => equalStrs_any A8 A10 c8 c10 (srtB s2) (srtB t2) wx (hz2.pure (hg5.t h)) (hy2.pure h)
      rw [srtB_len, srtB_len, hlen1, hlt1, show eqT (srtB s1) (srtB t1) = true by unfold eqT; simp [he1]] at hQ1
      rw [srtB_len, srtB_len, hlt2, ← hn2.out, show eqT (srtB s2) (srtB t2) = true by unfold eqT; simp [he2]] at hQ2
      clear he1 he2 hlt1 hlt2 hlen1 hS1 hS2 hz1 hz2 hy1 hy2 hcount hD1 hD2 hR2 hn2 hm hGf
      go_wp2_with fail
      refine (hQ1.out _ (World.grownBy.refl _ _)).mono ?_
      rintro e w6 ⟨rfl, hg6⟩
      go_wp2_with fail
      refine (hQ2.out _ hg6).mono ?_
      rintro e w7 ⟨rfl, hg7⟩
      go_wp2_with fail
      refine (ready_any _).mono ?_
      rintro e w9 ⟨rfl, hg9⟩
      go_wp2_with fail
      go_ret
      exact ⟨rfl, hgw1.t (((((((hg2.t hg).t hg3).t hg4).t hg5).t hg6).t hg7).t hg9)⟩

end Go.Proofs.YthciblcokogkkaaGreatDoor

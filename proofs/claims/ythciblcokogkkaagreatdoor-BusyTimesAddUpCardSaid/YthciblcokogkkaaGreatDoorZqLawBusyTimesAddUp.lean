/- Contracts of functions that this seat's laws reach, each: what one call returns and what it leaves in memory; no condition beyond each theorem's own hypotheses. -/
import Derived.Test.YthciblcokogkkaaGreatDoorZqFlrI
import Derived.Test.YthciblcokogkkaaGreatDoorZqEvR
import Derived.Test.YthciblcokogkkaaGreatDoorZqReady
set_option linter.unusedVariables false
set_option linter.unusedSimpArgs false
namespace Go.Proofs.YthciblcokogkkaaGreatDoor
open Go Go.RowKit Go.Bl Go.Maps Go.WideShapes

theorem busL_bd {a b : Int} (hab : a ≤ b) (k : ByteArray) (F : Flr) (l : List Ev) (h16 : l.length ≤ 16) (hb : b - a ≤ 1000) : 0 ≤ busL a b k F l ∧ busL a b k F l ≤ 20000 := by
  have h1 := accL_bd hab k l F
  rw [busL_acc]
  have h2 : (b - a) * (l.length : Int) ≤ 1000 * 16 := Int.mul_le_mul hb (by omega) (by omega) (by omega)
  unfold ovl
  split <;> omega

set_option maxHeartbeats 4000000 in
set_option maxRecDepth 100000 in
theorem busyTimes_law (A0 : Option Addr) (n c : Nat) (L : List Int) (w : World) (hL : Sl w 0 A0 L) (hn : L.length = n) :
    Calls Tryz.prog 3 #[.slice A0 n c] w fun e w' => e = .returned (.bool true) ∧ w.grownBy w' none := by
  have hs0 := strm_new (c := c) 25 hL hn
  have hg0 := gr_alloc (World.grownBy.refl w none) (.cells #[.slice A0 n c, .int .i64 0] 25)
  have hS0 := SOut.refl hs0
  have hR := rightEv2_any _ 0 _ hs0 (by omega)
  go_enter Tryz.func3, Tryz.ntmps3
  go_wp2_with fail
  refine hR.mono ?_
  rintro e w1 ⟨l, P, A, cA, rfl, hl, hl16, hlc, hF0, hpl, ho1⟩
  replace hS0 := hS0.trans ho1
  have hgw1 : w.grownBy w1 none := gr_new hg0 hS0.1 (Nat.le_refl _)
  have hSl : Hid (Sl w1 (w.heap.size + 1) A l ∧ Sl w1 (w.heap.size + 1) P evQ) := ⟨hl, hpl⟩
  have hb1 := hS0.2.lt
  have hg0' := hg0
  clear ho1 hs0 hg0 hL hR hl hpl
  have hevs := ersF_zero evQ_key hF0
  have hord := hide (evs_ord hevs)
  have hev := hide (evsF_zero hevs).2
  have hck : Hid (chkF evQ l = 0) := by
    unfold Hid chkF
    rw [if_neg (by rw [evQ_ok]; decide)]
    exact hF0
  have hl5 : Hid (l.length ≤ 5000) := by show l.length ≤ 5000; omega
  have hQ2 : Hid (evQ.length = 2) := rfl
  have hqk : Hid (∀ k (h : k < evQ.length), okK evQ[k].key ∧ hasP' evQ evQ[k].key = true) := fun k h => ⟨Nat.le_trans (keyB_okK (evQ_key _ (List.getElem_mem h))) (by unfold maxLen; omega), hasP_at h rfl⟩
  have h16 : Hid (l.length ≤ 16) := hl16
  clear hevs hF0 hl16 hlc hQ2
  go_wp2_with fail
  refine (range_any w.heap.size _ 0 60 _ hS0.2 (by omega) (by omega) (by omega) (by omega)).mono ?_
  rintro e w2 ⟨a, rfl, ha, ho2⟩
  replace hS0 := hS0.trans ho2
  go_wp2_with fail
  refine (range_any w.heap.size _ 0 60 _ hS0.2 (by omega) (by omega) (by omega) (by omega)).mono ?_
  rintro e w3 ⟨b0, rfl, hb0, ho3⟩
  replace hS0 := hS0.trans ho3
  go_wp2_with fail
  refine (range_any w.heap.size _ 0 60 _ hS0.2 (by omega) (by omega) (by omega) (by omega)).mono ?_
  rintro e w4 ⟨c0, rfl, hc0, ho4⟩
  have hSl4 : Sl w4 (w.heap.size + 1) A l ∧ Sl w4 (w.heap.size + 1) P evQ := ⟨((hSl.out.1.s ho2 (by omega)).s ho3 (by omega)).s ho4 (by omega), ((hSl.out.2.s ho2 (by omega)).s ho3 (by omega)).s ho4 (by omega)⟩
  have hgw4 : w.grownBy w4 none := gr_new hg0' (hS0.trans ho4).1 (Nat.le_refl _)
  have hl := hide (hSl4.1.mono (Nat.zero_le _))
  have hpl := hide (hSl4.2.mono (Nat.zero_le _))
  clear hSl4 hSl ho2 ho3 ho4 hS0 hgw1 hb1
  obtain ⟨b, hb⟩ : ∃ b, b = a + b0 := ⟨_, rfl⟩
  obtain ⟨cc, hcc⟩ : ∃ cc, cc = b + c0 := ⟨_, rfl⟩
  obtain ⟨Z, hZ⟩ : ∃ Z : Int → Int → List Int, Z = fun a b => evQ.map fun x => busL a b x.key (newF evQ) l := ⟨_, rfl⟩
  have hBs : Hid (∀ a b wx, w4.grownBy wx none → 0 ≤ a ∧ a ≤ b ∧ b ≤ 345686400000 → Calls Tryz.prog 8 #[.slice P 2 2, .slice A l.length cA, .agg #[.int .i64 a, .int .i64 b]] wx fun e w' => ∃ (A' : Option Addr) (c' : Nat), e = .returned (.tuple #[.slice A' 2 c', .int .i64 0]) ∧ Sl w' 0 A' (Z a b) ∧ wx.grownBy w' none) := fun a b wx h hab =>
    (busy_any P A 2 cA evQ l a b wx (hpl.out.pure h) evQ_ok hl5.out hev.out hord.out (hl.out.pure h) hck.out hab).mono fun e w' ⟨A', c', h1, h2, h3⟩ => ⟨A', c', h1, by rw [hZ]; exact h2.sl.mono (Nat.zero_le _), h3⟩
  have hAt : Hid (∀ k (hk : k < evQ.length) wx, w4.grownBy wx none → Calls Tryz.prog 9 #[.slice P 2 2, .slice A l.length cA, .string evQ[k].key, .int .i64 a] wx fun e w' => e = .returned (.tuple #[.agg #[.int .i64 ((runS (newF evQ) (l.take (limN l a))).s evQ[k].key).st, .int .i64 ((runS (newF evQ) (l.take (limN l a))).s evQ[k].key).since, .string ((runS (newF evQ) (l.take (limN l a))).s evQ[k].key).mat, .string ((runS (newF evQ) (l.take (limN l a))).s evQ[k].key).job], .int .i64 0]) ∧ wx.grownBy w' none) := fun k hk wx h =>
    at_any P A 2 cA evQ l evQ[k].key a wx (hpl.out.pure h) evQ_ok (fun x hx => by
      obtain ⟨k, hk, rfl⟩ := List.getElem_of_mem hx
      exact (hqk.out k hk).1) (by decide) hl5.out hev.out (hl.out.pure h) hck.out (hqk.out k hk).2 (hqk.out k hk).1 (by unfold momO outB; simp; omega) _ rfl
  have hZl : Hid (∀ a b, (Z a b).length = 2) := fun a b => by rw [hZ]; rfl
  have hV : Hid (∀ k (hk : k < evQ.length) (h1 : k < (Z a b).length) (h2 : k < (Z b cc).length) (h3 : k < (Z a cc).length) (h4 : k < (Z a (a + 1)).length), (Z a b)[k] + (Z b cc)[k] = (Z a cc)[k] ∧ (0 ≤ (Z a b)[k] ∧ (Z a b)[k] ≤ 20000) ∧ (0 ≤ (Z b cc)[k] ∧ (Z b cc)[k] ≤ 20000) ∧ (Z a (a + 1))[k] = if ((runS (newF evQ) (l.take (limN l a))).s evQ[k].key).st = 2 then 1 else 0) := fun k hk h1 h2 h3 h4 => by
    subst hZ
    simp only [List.getElem_map]
    exact ⟨busL_add (by omega) (by omega) _ _ _, busL_bd (by omega) _ _ _ h16.out (by omega), busL_bd (by omega) _ _ _ h16.out (by omega), busL_now a _ l _ 0 (FlI.new _) (by omega) hord.out hev.out⟩
  have hJ : Hid (∀ k, ((runS (newF evQ) (l.take (limN l a))).s k).job = noB ↔ ((runS (newF evQ) (l.take (limN l a))).s k).st ≠ 2) := fun k => by
    obtain ⟨U, hU⟩ := FlI.run (FlI.new evQ) (hord.out.sub (List.take_sublist (limN l a) l)) fun e he => hev.out e (List.mem_of_mem_take he)
    exact hU.jb k
  clear hZ hck hev hord hl hqk
  replace hb := hide hb
  replace hcc := hide hcc
  go_wp2_with fail
  rw [← hb.out]
  refine (hBs.out a b _ (World.grownBy.refl _ _) (by have := hb.out; omega)).mono ?_
  rintro e w5 ⟨A1, c1, rfl, hl1, hg5⟩
  go_wp2_with fail
  rw [← hcc.out]
  refine (hBs.out b cc _ hg5 (by have := hb.out; have := hcc.out; omega)).mono ?_
  rintro e w6 ⟨A2, c2, rfl, hl2, hg6⟩
  replace hl1 := hl1.pure hg6
  replace hg6 := hg5.t hg6
  go_wp2_with fail
  refine (hBs.out a cc _ hg6 (by have := hb.out; have := hcc.out; omega)).mono ?_
  rintro e w7 ⟨A3, c3, rfl, hl3, hg7⟩
  replace hl1 := hl1.pure hg7
  replace hl2 := hl2.pure hg7
  replace hg7 := hg6.t hg7
  go_wp2_with fail
  refine (hBs.out a (a + 1) _ hg7 (by omega)).mono ?_
  rintro e w8 ⟨A4, c4, rfl, hl4, hg8⟩
  replace hl1 := hl1.pure hg8
  replace hl2 := hl2.pure hg8
  replace hl3 := hl3.pure hg8
  replace hg8 := hg7.t hg8
  clear hBs hg5 hg6 hg7
  have hzz := And.intro (hZl.out a b) (And.intro (hZl.out b cc) (And.intro (hZl.out a cc) (hZl.out a (a + 1))))
  generalize Z a b = z1 at *
  generalize Z b cc = z2 at *
  generalize Z a cc = z3 at *
  generalize Z a (a + 1) = z4 at *
  replace hzz := hide hzz
  go_wp2_with fail
  go_loopw [120] (fun i wr => ∃ k : Nat, k ≤ 2 ∧ i = .int .i64 k ∧ w8.grownBy wr none) (fun i _ => 2 - (intOf i).toNat)
  case atStart => exact ⟨0, by omega, rfl, World.grownBy.refl _ _⟩
  case round =>
    obtain ⟨k, hk, rfl, hg⟩ := hrel
    by_cases hlt : k < 2
    · have hke : k < evQ.length := hlt
      have hAk := hide (hAt.out k hke)
      have hk1 : k < z1.length := by rw [hzz.out.1]; exact hlt
      have hk2 : k < z2.length := by rw [hzz.out.2.1]; exact hlt
      have hk3 : k < z3.length := by rw [hzz.out.2.2.1]; exact hlt
      have hk4 : k < z4.length := by rw [hzz.out.2.2.2]; exact hlt
      have hVk := hide (hV.out k hke hk1 hk2 hk3 hk4)
      have hJk := hide (hJ.out evQ[k].key)
      obtain ⟨g, o, cx, rfl, -, -, rfl, hc⟩ := (hpl.out.pure (hg8.t hg)).at_ (by decide) hke
      have c0 : wr.cell? ⟨g, o + k * 2, none⟩ = some (.string evQ[k].key) := hc 0 _ rfl
      have c1 : wr.cell? ⟨g, o + k * 2 + 1, none⟩ = some (.string evQ[k].mat) := hc 1 _ rfl
      clear hc
      obtain ⟨g1, o1, cx1, rfl, -, -, rfl, hc⟩ := ((hl1.pure hg)).at_ (by decide) hk1
      have d1 : wr.cell? ⟨g1, o1 + k, none⟩ = some (.int .i64 z1[k]) := by
        have h1 := hc 0 _ rfl
        rwa [show Enc.sz Int = 1 from rfl, Nat.mul_one] at h1
      clear hc
      obtain ⟨g2, o2, cx2, rfl, -, -, rfl, hc⟩ := ((hl2.pure hg)).at_ (by decide) hk2
      have d2 : wr.cell? ⟨g2, o2 + k, none⟩ = some (.int .i64 z2[k]) := by
        have h1 := hc 0 _ rfl
        rwa [show Enc.sz Int = 1 from rfl, Nat.mul_one] at h1
      clear hc
      obtain ⟨g3, o3, cx3, rfl, -, -, rfl, hc⟩ := ((hl3.pure hg)).at_ (by decide) hk3
      have d3 : wr.cell? ⟨g3, o3 + k, none⟩ = some (.int .i64 z3[k]) := by
        have h1 := hc 0 _ rfl
        rwa [show Enc.sz Int = 1 from rfl, Nat.mul_one] at h1
      clear hc
      obtain ⟨g4, o4, cx4, rfl, -, -, rfl, hc⟩ := ((hl4.pure hg)).at_ (by decide) hk4
      have d4 : wr.cell? ⟨g4, o4 + k, none⟩ = some (.int .i64 z4[k]) := by
        have h1 := hc 0 _ rfl
        rwa [show Enc.sz Int = 1 from rfl, Nat.mul_one] at h1
      clear hc
      generalize z1[k]'_ = v1 at *
      generalize z2[k]'_ = v2 at *
      generalize z3[k]'_ = v3 at *
      generalize z4[k]'_ = v4 at *
      generalize evQ[k].key = key at *
      generalize evQ[k].mat = mt at *
      generalize (runS (newF evQ) (l.take (limN l a))).s key = S at *
      clear hV hJ hAt hk1 hk2 hk3 hk4 hke
      go_upto_region 15 with fail
      obtain ⟨w18, hw18⟩ : ∃ x, x = (wr).alloc (.cells [.string key, .string mt].toArray 37) := ⟨_, rfl⟩
      have hg18 : (wr).grownBy w18 none := by rw [hw18]; exact gr_alloc (World.grownBy.refl _ _) _
      have hb18 : Box w18 (wr).heap.size 37 [.string key, .string mt] := by rw [hw18]; exact Box.new _ _ _
      have hxs18 := hb18.lt
      rw [← hw18]
      clear hw18
      obtain ⟨x18, hx18⟩ : ∃ x, x = (wr).heap.size := ⟨_, rfl⟩
      rw [← hx18] at hb18 hxs18 ⊢
      have hxl18 : (wr).heap.size ≤ x18 := by omega
      clear hx18
      obtain ⟨p0, -⟩ := hb18.c 0 rfl
      clear c0 c1
      go_wp2_with fail
      refine (hAk.out _ (hg8.t (hg.t hg18))).mono ?_
      rintro e w19 ⟨rfl, hg19⟩
      have hgz := hg18.t hg19
      replace d1 := hgz.k d1
      replace d2 := hgz.k d2
      replace d3 := hgz.k d3
      replace d4 := hgz.k d4
      clear p0 hb18 hAk
      go_upto_region 16 with fail
      obtain ⟨w20, hw20⟩ : ∃ x, x = (w19).alloc (.cells [.int .i64 S.st, .int .i64 S.since, .string S.mat, .string S.job].toArray 39) := ⟨_, rfl⟩
      have hg20 : (w19).grownBy w20 none := by rw [hw20]; exact gr_alloc (World.grownBy.refl _ _) _
      have hb20 : Box w20 (w19).heap.size 39 [.int .i64 S.st, .int .i64 S.since, .string S.mat, .string S.job] := by rw [hw20]; exact Box.new _ _ _
      have hxs20 := hb20.lt
      rw [← hw20]
      clear hw20
      obtain ⟨x20, hx20⟩ : ∃ x, x = (w19).heap.size := ⟨_, rfl⟩
      rw [← hx20] at hb20 hxs20 ⊢
      have hxl20 : (w19).heap.size ≤ x20 := by omega
      clear hx20
      replace d1 := hg20.k d1
      replace d2 := hg20.k d2
      replace d3 := hg20.k d3
      replace d4 := hg20.k d4
      obtain ⟨⟨e0, -⟩, -, -, ⟨e3, -⟩⟩ := box4_c hb20
      replace hgz := hg.t (hgz.t hg20)
      obtain ⟨hsum, hbv1, hbv2, hnow⟩ := hVk.out
      have hbs : (v1 + v2 != v3) = false := by simp [hsum]
      by_cases hst : S.st = 2
      · rw [if_pos hst] at hnow
        have f1 : (S.st == 2) = true := by simp [hst]
        have f2 : (v4 == 1) = true := by simp [hnow]
        have f3 : S.job.toList.isEmpty = false := empB_no fun e => (hJk.out.1 e) hst
        clear hsum hnow hst hVk hJk
        go_quiet (fail)
        go_wp2_with fail
        (go_roundw; (case rel => exact ⟨k + 1, by omega, by go_num, hgz.t (gr_drewN (World.grownBy.refl _ _) _)⟩); (case measure => simp [intOf]; omega))
      · rw [if_neg hst] at hnow
        have f1 : (S.st == 2) = false := by simp [hst]
        have f2 : (v4 == 1) = false := by simp [hnow]
        have f3 : S.job.toList.isEmpty = true := empB_iff.2 (hJk.out.2 hst)
        clear hsum hnow hst hVk hJk
        go_quiet (fail)
        go_wp2_with fail
        (go_roundw; (case rel => exact ⟨k + 1, by omega, by go_num, hgz.t (gr_drewN (World.grownBy.refl _ _) _)⟩); (case measure => simp [intOf]; omega))
    · have hk2 : Hid (k = 2) := by
        show k = 2
        omega
      go_wp2_with fail
      refine (ready_any _).mono ?_
      rintro e w9 ⟨rfl, hg9⟩
      go_wp2_with fail
      go_ret
      exact ⟨rfl, hgw4.t (hg8.t (hg.t hg9))⟩

end Go.Proofs.YthciblcokogkkaaGreatDoor

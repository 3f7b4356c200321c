/- Contracts of functions that this seat's laws reach, each: what one call returns and what it leaves in memory; no condition beyond each theorem's own hypotheses. -/
import Derived.Test.YtgcfaamgilbjdaaGreatDoorZqReady
import Derived.Test.YtgcfaamgilbjdaaGreatDoorZqRightP
import Derived.Test.YtgcfaamgilbjdaaGreatDoorZqIdxP
import Derived.Test.YtgcfaamgilbjdaaGreatDoorZqFndB
import Derived.Test.YtgcfaamgilbjdaaGreatDoorZqBegA
import Derived.Test.YtgcfaamgilbjdaaGreatDoorZqBegP
import Derived.Test.YtgcfaamgilbjdaaGreatDoorZqOrdG
import Derived.Test.YtgcfaamgilbjdaaGreatDoorZqImprA
import Derived.BigQuiet
set_option linter.unusedVariables false
set_option linter.unusedSimpArgs false
namespace Go.Proofs.YtgcfaamgilbjdaaGreatDoor
open Go Go.RowKit Go.Bl

theorem two_null {st : Pt} {l : List PathV} {o : List Vis} (hf : farP st = false) (ho : orderF l o = 0) : twoF st l o = 0 := by
  unfold twoF
  rw [pointsF_one, hf, ho]
  rfl

theorem trav_null {st : Pt} {l : List PathV} {o : List Vis} (h : twoF st l o = 0) : travO st l o = (travS l st o).2 := by unfold travO; rw [if_pos h]

set_option maxHeartbeats 8000000 in
set_option maxRecDepth 100000 in
theorem noOrder_law (A : Option Addr) (n c : Nat) (L : List Int) (w : World) (hL : Sl w 0 A L) (hn : L.length = n) :
    Calls Tryz.prog 3 #[.slice A n c] w fun e w' => e = .returned (.bool true) ∧ w.grownBy w' none := by
  have hs0 := strm_new (c := c) 25 hL hn
  have hg0 := gr_alloc (World.grownBy.refl w none) (.cells #[.slice A n c, .int .i64 0] 25)
  go_enter Tryz.func3, Tryz.ntmps3
  go_wp2_with fail
  refine (range_any _ 0 (-3) 9 _ hs0 (by omega) (by omega) (by omega) (by omega)).mono ?_
  rintro e w1 ⟨px, rfl, ⟨hx1, hx2⟩, ho1⟩
  go_wp2_with fail
  refine (range_any _ _ (-3) 9 _ ho1.2 (by omega) (by omega) (by omega) (by omega)).mono ?_
  rintro e w2 ⟨py, rfl, ⟨hy1, hy2⟩, ho2⟩
  replace ho2 := ho1.trans ho2
  go_wp2_with fail
  refine (rightPaths_any _ _ 5 _ ho2.2 (by omega) (by omega)).mono ?_
  rintro e w3 ⟨l, A1, c1, rfl, hl, hp, hl6, -, ho3⟩
  have hb2 := ho2.lt
  have hb3 := ho3.lt
  replace ho3 := ho2.trans ho3
  have hst : near ⟨px, py⟩ := by unfold near; simp only; omega
  have hsf : farP ⟨px, py⟩ = false := by simp [farP, outB]; omega
  clear ho1 ho2 hx1 hx2 hy1 hy2
  have hln : l.length ≤ 6 := by omega
  have hBe := hide fun W h => best_any A1 c1 l ⟨px, py⟩ W h hp hst hsf hln
  have hNe := hide fun W h => nearest_any A1 c1 l ⟨px, py⟩ W h hp hst hsf
  go_upto_region 3 with fail
  obtain ⟨w4, hw4⟩ : ∃ x, x = (w3).alloc (.cells [.int .i64 px, .int .i64 py].toArray 28) := ⟨_, rfl⟩
  have hg4 : (w3).grownBy w4 none := by rw [hw4]; exact gr_alloc (World.grownBy.refl _ _) _
  have hb4 : Box w4 (w3).heap.size 28 [.int .i64 px, .int .i64 py] := by rw [hw4]; exact Box.new _ _ _
  have hxs4 := hb4.lt
  rw [← hw4]
  clear hw4
  obtain ⟨x4, hx4⟩ : ∃ x, x = (w3).heap.size := ⟨_, rfl⟩
  rw [← hx4] at hb4 hxs4 ⊢
  have hxl4 : (w3).heap.size ≤ x4 := by omega
  clear hx4
  replace ho3 := ho3.pure hg4
  replace hl := hl.pure hg4
  clear hg4
  go_wp2_with fail
  refine (orderP_any _ _ l.length _ ho3.2 (by omega) (by omega)).mono ?_
  rintro e w5 ⟨o, A2, c2, rfl, hoo, hol, hpm, ho5⟩
  have hlS := (hl.s ho5 hb2).mono (Nat.zero_le _)
  have hb5 := hb4.gr ho5.1 (fun e => by injection e; omega)
  have hgw : w.grownBy w5 none := gr_new hg0 (ho3.trans ho5).1 (Nat.le_refl _)
  clear ho5 ho3 hl hb4 hs0 hg0 hL hb2 hb3
  replace hl := hlS
  replace hoo := hoo.sl.mono (Nat.zero_le _)
  clear hlS
  have hpm2 := hide hpm
  have hol2 := hide hol
  clear hol
  have hx4 := hb5.lt
  obtain ⟨b0, -⟩ := hb5.c 0 rfl
  obtain ⟨b1, -⟩ := hb5.c 1 rfl
  go_wp2_with fail
  refine (hBe.out _ hl).mono ?_
  rintro e w6 ⟨A6, c6, rfl, hO6, hg6⟩
  have hord6 := best_order hp ⟨px, py⟩
  have hleast := fun (Q : List Vis) (h : orderF l Q = 0) => best_least hp ⟨px, py⟩ h
  generalize (bst l ⟨px, py⟩ (2 ^ l.length - 1)).1 = Q6 at *
  clear hBe
  replace hord6 := hide hord6
  replace hleast := hide hleast
  have hl6' := hl.pure hg6
  replace b0 := hg6.k b0
  replace b1 := hg6.k b1
  obtain ⟨T6, hT6⟩ : ∃ T, (travS l ⟨px, py⟩ Q6).2 = T := ⟨_, rfl⟩
  rw [hT6]
  replace hT6 := hide hT6
  go_wp2_with fail
  refine (hNe.out _ hl6').mono ?_
  rintro e w7 ⟨A7, c7, rfl, hO7, hg7⟩
  have hord7 := near_order hp ⟨px, py⟩
  generalize (nearK l ⟨px, py⟩ l.length).1 = Q7 at *
  clear hNe
  replace hord7 := hide hord7
  have hl7 := hl6'.pure hg7
  replace b0 := hg7.k b0
  replace b1 := hg7.k b1
  obtain ⟨T7, hT7⟩ : ∃ T, (travS l ⟨px, py⟩ Q7).2 = T := ⟨_, rfl⟩
  rw [hT7]
  replace hT7 := hide hT7
  go_wp2_with fail
  refine (begun_any A1 c1 l A2 c2 o ⟨px, py⟩ w7 hl7 (hoo.pure (hg6.t hg7)) hp hst hsf hpm2.out).mono ?_
  rintro e w8 ⟨A8, c8, rfl, hO8, hg8⟩
  obtain ⟨hQ1, hQ2, -⟩ := begK_ok (l := l) hp hst (InR.of_perm hpm2.out) (fun x hx => by
    obtain ⟨i, hi, rfl⟩ := List.mem_map.1 (hpm2.out.mem_iff.1 hx)
    exact Int.natCast_nonneg _) o.length (Nat.le_refl _)
  rw [List.take_length] at hQ1
  have hord8 := begun_order hp hQ1 hpm2.out hQ2
  generalize (begK l ⟨px, py⟩ o o.length).1 = Q8 at *
  clear hQ2
  replace hQ1 := hide hQ1
  replace hord8 := hide hord8
  have hl8 := hl7.pure hg8
  replace b0 := hg8.k b0
  replace b1 := hg8.k b1
  obtain ⟨T8, hT8⟩ : ∃ T, (travS l ⟨px, py⟩ Q8).2 = T := ⟨_, rfl⟩
  rw [hT8]
  replace hT8 := hide hT8
  go_wp2_with fail
  refine (improvedP_any A1 c1 l A8 c8 Q8 ⟨px, py⟩ w8 hl8 (hO8.sl.mono (Nat.zero_le _)) (two_null hsf hord8.out)).mono ?_
  rintro e w9 ⟨A9, c9, Q9, T9, rfl, hO9, hQl9, hg9, hpm9, hle9, hT9⟩
  have hord9 := hide (order_perm hp hord8.out hpm9)
  rw [← hT9, hT8.out] at hle9
  have h67 : T6 ≤ T7 := by rw [← hT6.out, ← hT7.out]; exact hleast.out _ hord7.out
  have h69 : T6 ≤ T9 := by rw [← hT6.out, hT9]; exact hleast.out _ hord9.out
  have hT9' := hide hT9.symm
  rw [show (Value.slice A9 Q8.length c9) = .slice A9 Q9.length c9 from by rw [hQl9]]
  clear hT9 hleast hpm9 hQl9
  have hl9 := hl8.pure hg9
  have hS6 := (hO6.sl.mono (Nat.zero_le _)).pure (hg7.t (hg8.t hg9))
  have hS7 := (hO7.sl.mono (Nat.zero_le _)).pure (hg8.t hg9)
  have hS8 := (hO8.sl.mono (Nat.zero_le _)).pure hg9
  have hS9 := hO9.sl.mono (Nat.zero_le _)
  have hbp := hb5.pure (hg6.t (hg7.t (hg8.t hg9)))
  have hoo9 := hoo.pure (hg6.t (hg7.t (hg8.t hg9)))
  have hgw9 := hgw.t (hg6.t (hg7.t (hg8.t hg9)))
  clear hO6 hO7 hO8 hO9 hg6 hg7 hg8 hg9 b0 b1 hb5 hoo hgw hl8 hl7 hl6' hl
  go_upto_region 11 with fail
  obtain ⟨w10, hw10⟩ : ∃ x, x = (w9).alloc (.cells [.slice A6 Q6.length c6, .slice A7 Q7.length c7, .slice A8 Q8.length c8, .slice A9 Q9.length c9].toArray 32) := ⟨_, rfl⟩
  have hg10 : (w9).grownBy w10 none := by rw [hw10]; exact gr_alloc (World.grownBy.refl _ _) _
  have hb10 : Box w10 (w9).heap.size 32 [.slice A6 Q6.length c6, .slice A7 Q7.length c7, .slice A8 Q8.length c8, .slice A9 Q9.length c9] := by rw [hw10]; exact Box.new _ _ _
  have hxs10 := hb10.lt
  rw [← hw10]
  clear hw10
  obtain ⟨x10, hx10⟩ : ∃ x, x = (w9).heap.size := ⟨_, rfl⟩
  rw [← hx10] at hb10 hxs10 ⊢
  have hxl10 : (w9).heap.size ≤ x10 := by omega
  clear hx10
  replace hl9 := hl9.pure hg10
  replace hS6 := hS6.pure hg10
  replace hS7 := hS7.pure hg10
  replace hS8 := hS8.pure hg10
  replace hS9 := hS9.pure hg10
  replace hbp := hbp.pure hg10
  replace hoo9 := hoo9.pure hg10
  replace hgw9 := hgw9.t hg10
  clear hg10
  go_wp2_with fail
  go_loopw [104] (fun i wr => ∃ k : Nat, k ≤ 4 ∧ i = .int .i64 k ∧ w10.grownBy wr none) (fun i _ => 4 - (intOf i).toNat)
  case atStart => exact ⟨0, by omega, rfl, World.grownBy.refl _ _⟩
  case round =>
    obtain ⟨k, hk, rfl, hgr⟩ := hrel
    by_cases hlt : k < 4
    · rcases (show k = 0 ∨ k = 1 ∨ k = 2 ∨ k = 3 by omega) with rfl | rfl | rfl | rfl
      · obtain ⟨s0, -⟩ := (hbp.pure hgr).c 0 rfl
        obtain ⟨s1, -⟩ := (hbp.pure hgr).c 1 rfl
        obtain ⟨r0, -⟩ := (hb10.pure hgr).c 0 rfl
        have hTr := hide fun W (h : wr.grownBy W none) => travelGo_any A1 c1 l A6 c6 Q6 ⟨px, py⟩ W (hl9.pure (hgr.t h)) (hS6.pure (hgr.t h))
        rw [trav_null (two_null hsf hord6.out), two_null hsf hord6.out, hT6.out] at hTr
        have hCh := hide fun W (h : wr.grownBy W none) => checkOrder_any A1 c1 l A6 c6 Q6 W (hl9.pure (hgr.t h)) (hS6.pure (hgr.t h))
        rw [hord6.out] at hCh
        go_wp2_with fail
        refine (hTr.out _ (World.grownBy.refl _ _)).mono ?_
        rintro e wx ⟨rfl, hgx⟩
        clear hTr s0 s1 r0
        go_wp2_with fail
        refine (hCh.out _ (hgx.t (gr_alloc (World.grownBy.refl _ _) _))).mono ?_
        rintro e wy ⟨rfl, hgy⟩
        clear hCh
        go_wp2_with fail
        (go_roundw; (case rel => exact ⟨0 + 1, by omega, by go_num, hgr.t (hgx.t ((gr_alloc (World.grownBy.refl _ _) _).t hgy))⟩); (case measure => simp [intOf]))
      · obtain ⟨s0, -⟩ := (hbp.pure hgr).c 0 rfl
        obtain ⟨s1, -⟩ := (hbp.pure hgr).c 1 rfl
        obtain ⟨r0, -⟩ := (hb10.pure hgr).c 1 rfl
        have hTr := hide fun W (h : wr.grownBy W none) => travelGo_any A1 c1 l A7 c7 Q7 ⟨px, py⟩ W (hl9.pure (hgr.t h)) (hS7.pure (hgr.t h))
        rw [trav_null (two_null hsf hord7.out), two_null hsf hord7.out, hT7.out] at hTr
        have hCh := hide fun W (h : wr.grownBy W none) => checkOrder_any A1 c1 l A7 c7 Q7 W (hl9.pure (hgr.t h)) (hS7.pure (hgr.t h))
        rw [hord7.out] at hCh
        go_wp2_with fail
        refine (hTr.out _ (World.grownBy.refl _ _)).mono ?_
        rintro e wx ⟨rfl, hgx⟩
        clear hTr s0 s1 r0
        go_wp2_with fail
        refine (hCh.out _ (hgx.t (gr_alloc (World.grownBy.refl _ _) _))).mono ?_
        rintro e wy ⟨rfl, hgy⟩
        clear hCh
        go_wp2_with fail
        (go_roundw; (case rel => exact ⟨1 + 1, by omega, by go_num, hgr.t (hgx.t ((gr_alloc (World.grownBy.refl _ _) _).t hgy))⟩); (case measure => simp [intOf]))
      · obtain ⟨s0, -⟩ := (hbp.pure hgr).c 0 rfl
        obtain ⟨s1, -⟩ := (hbp.pure hgr).c 1 rfl
        obtain ⟨r0, -⟩ := (hb10.pure hgr).c 2 rfl
        have hTr := hide fun W (h : wr.grownBy W none) => travelGo_any A1 c1 l A8 c8 Q8 ⟨px, py⟩ W (hl9.pure (hgr.t h)) (hS8.pure (hgr.t h))
        rw [trav_null (two_null hsf hord8.out), two_null hsf hord8.out, hT8.out] at hTr
        have hCh := hide fun W (h : wr.grownBy W none) => checkOrder_any A1 c1 l A8 c8 Q8 W (hl9.pure (hgr.t h)) (hS8.pure (hgr.t h))
        rw [hord8.out] at hCh
        go_wp2_with fail
        refine (hTr.out _ (World.grownBy.refl _ _)).mono ?_
        rintro e wx ⟨rfl, hgx⟩
        clear hTr s0 s1 r0
        go_wp2_with fail
        refine (hCh.out _ (hgx.t (gr_alloc (World.grownBy.refl _ _) _))).mono ?_
        rintro e wy ⟨rfl, hgy⟩
        clear hCh
        go_wp2_with fail
        (go_roundw; (case rel => exact ⟨2 + 1, by omega, by go_num, hgr.t (hgx.t ((gr_alloc (World.grownBy.refl _ _) _).t hgy))⟩); (case measure => simp [intOf]))
      · obtain ⟨s0, -⟩ := (hbp.pure hgr).c 0 rfl
        obtain ⟨s1, -⟩ := (hbp.pure hgr).c 1 rfl
        obtain ⟨r0, -⟩ := (hb10.pure hgr).c 3 rfl
        have hTr := hide fun W (h : wr.grownBy W none) => travelGo_any A1 c1 l A9 c9 Q9 ⟨px, py⟩ W (hl9.pure (hgr.t h)) (hS9.pure (hgr.t h))
        rw [trav_null (two_null hsf hord9.out), two_null hsf hord9.out, hT9'.out] at hTr
        have hCh := hide fun W (h : wr.grownBy W none) => checkOrder_any A1 c1 l A9 c9 Q9 W (hl9.pure (hgr.t h)) (hS9.pure (hgr.t h))
        rw [hord9.out] at hCh
        go_wp2_with fail
        refine (hTr.out _ (World.grownBy.refl _ _)).mono ?_
        rintro e wx ⟨rfl, hgx⟩
        clear hTr s0 s1 r0
        go_wp2_with fail
        refine (hCh.out _ (hgx.t (gr_alloc (World.grownBy.refl _ _) _))).mono ?_
        rintro e wy ⟨rfl, hgy⟩
        clear hCh
        go_wp2_with fail
        (go_roundw; (case rel => exact ⟨3 + 1, by omega, by go_num, hgr.t (hgx.t ((gr_alloc (World.grownBy.refl _ _) _).t hgy))⟩); (case measure => simp [intOf]))
    · have h3k : 3 < k := by omega
      clear hlt
      replace hS8 := hS8.pure hgr
      replace hoo9 := hoo9.pure hgr
      replace hgw9 := hgw9.t hgr
      have hQo : Hid (∀ m (h : m < Q8.length), ∃ h2 : m < o.length, o[m] = Q8[m].path) := fun m h => by
        have h1 := hQ1.out
        subst h1
        exact ⟨by rw [List.length_map]; exact h, by rw [List.getElem_map]⟩
      clear hl9 hS6 hS7 hS9 hbp hgr hb10 hQ1
      obtain ⟨wl, rfl⟩ : ∃ x, x = wr := ⟨wr, rfl⟩
      go_wp2_with fail
      go_loopw [139] (fun i wr => ∃ m : Nat, m ≤ Q8.length ∧ i = .int .i64 m ∧ wl.grownBy wr none) (fun i _ => Q8.length - (intOf i).toNat)
      case atStart => exact ⟨0, Nat.zero_le _, rfl, World.grownBy.refl _ _⟩
      case round =>
        obtain ⟨m, hm, rfl, hgr⟩ := hrel
        by_cases hlt : m < Q8.length
        · obtain ⟨hmo, heq⟩ := hQo.out m hlt
          obtain ⟨ga, oa, cx, rfl, -, -, rfl, hcx⟩ := (hS8.pure hgr).at_ (by decide) hlt
          have c0 : wr.cell? ⟨ga, oa + m * 3, none⟩ = some (.int .i64 Q8[m].path) := hcx 0 _ rfl
          have c1' : wr.cell? ⟨ga, oa + m * 3 + 1, none⟩ = some (.int .i64 Q8[m].start) := hcx 1 _ rfl
          have c2' : wr.cell? ⟨ga, oa + m * 3 + 2, none⟩ = some (.bool Q8[m].back) := hcx 2 _ rfl
          obtain ⟨gb, ob, cx, rfl, -, -, rfl, hcb⟩ := (hoo9.pure hgr).at_ (by decide) hmo
          have d0 : wr.cell? ⟨gb, ob + m, none⟩ = some (.int .i64 Q8[m].path) := by
            have := hcb 0 _ rfl
            rw [show Enc.sz Int = 1 from rfl, Nat.mul_one, Nat.add_zero] at this
            rw [this, heq]
          clear hcx hcb heq
          generalize Q8[m] = vv at *
          have hmoi : (m : Int) < (o.length : Int) := by omega
          go_upto_region 20 with fail
          obtain ⟨w24, hw24⟩ : ∃ x, x = (wr).alloc (.cells [.int .i64 vv.path, .int .i64 vv.start, .bool vv.back].toArray 43) := ⟨_, rfl⟩
          have hg24 : (wr).grownBy w24 none := by rw [hw24]; exact gr_alloc (World.grownBy.refl _ _) _
          have hb24 : Box w24 (wr).heap.size 43 [.int .i64 vv.path, .int .i64 vv.start, .bool vv.back] := by rw [hw24]; exact Box.new _ _ _
          have hxs24 := hb24.lt
          rw [← hw24]
          clear hw24
          obtain ⟨x24, hx24⟩ : ∃ x, x = (wr).heap.size := ⟨_, rfl⟩
          rw [← hx24] at hb24 hxs24 ⊢
          have hxl24 : (wr).heap.size ≤ x24 := by omega
          clear hx24
          obtain ⟨t0, -⟩ := hb24.c 0 rfl
          replace d0 := hg24.k d0
          clear c0 c1' c2' hb24
          go_quiet (fail)
          go_wp2_with fail
          have hm6 : m < 6 := by have := hol2.out; omega
          rw [show wrap64 ((m : Int) + 1) = ((m + 1 : Nat) : Int) from by rw [i64_in (by omega)]; omega]
          exact ⟨⟨m + 1, by omega, rfl, hgr.t (hg24.t (gr_drewN (World.grownBy.refl _ _) _))⟩, by simp [intOf]; omega⟩
        · obtain rfl : m = Q8.length := by omega
          go_wp2_with fail
          refine (ready_any _).mono ?_
          rintro e wf ⟨rfl, hgf⟩
          go_wp2_with fail
          exact bodyPost_ret (v := .bool true) (by simp [results, Tryz.results3, go_sem]) rfl ⟨rfl, hgw9.t (hgr.t hgf)⟩

end Go.Proofs.YtgcfaamgilbjdaaGreatDoor

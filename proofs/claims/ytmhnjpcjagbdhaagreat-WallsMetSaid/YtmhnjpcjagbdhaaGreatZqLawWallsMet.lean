/- Contracts of functions that this seat's laws reach, each: what one call returns and what it leaves in memory; no condition beyond each theorem's own hypotheses. -/
import Derived.Test.YtmhnjpcjagbdhaaGreatZqWallJ
import Derived.Test.YtmhnjpcjagbdhaaGreatZqWallH
import Derived.Test.YtmhnjpcjagbdhaaGreatZqWallG
import Derived.Test.YtmhnjpcjagbdhaaGreatZqRegGenB
import Derived.Test.YtmhnjpcjagbdhaaGreatZqRegRefC
import Derived.Test.YtmhnjpcjagbdhaaGreatZqChainC
import Derived.Test.YtmhnjpcjagbdhaaGreatZqPathM
import Derived.Test.YtmhnjpcjagbdhaaGreatZqPathN
import Derived.Test.YtmhnjpcjagbdhaaGreatZqPathE
set_option linter.unusedVariables false
set_option linter.unusedSimpArgs false
namespace Go.Proofs.YtmhnjpcjagbdhaaGreat
open Go Go.RowKit Go.Bl

def retK (rs : List (List Pt)) (l : List PathV) (o : List Vis) (st : Pt) (free : Int) : List Int := if retrE rs l o st free = 0 then retW rs l st o free o.length else []

def chE (p : List PathV) : Int := if pathsF p = 0 then pathsF (chainN p.length p) else pathsF p

def chK (p : List PathV) : List PathV := if pathsF p = 0 then chRes p else []

theorem retrE_zero {rs : List (List Pt)} {l : List PathV} {o : List Vis} {st : Pt} {free : Int} (h : retrE rs l o st free = 0) : farP st = false ∧ regF rs = 0 ∧ orderF l o = 0 ∧ 0 ≤ free ∧ free ≤ 1000000 := by
  unfold retrE at h
  by_cases h1 : farP st = true
  · rw [if_pos h1] at h; cases h
  rw [if_neg h1] at h
  by_cases h2 : regF rs = 0
  · rw [if_neg (fun k => k h2)] at h
    by_cases h3 : orderF l o = 0
    · rw [if_neg (fun k => k h3)] at h
      by_cases h4 : outB free 0 1000000 = true
      · rw [if_pos h4] at h; cases h
      · exact ⟨by simpa using h1, h2, h3, outB_false (by simpa using h4)⟩
    · rw [if_pos h3] at h; exact absurd h h3
  · rw [if_pos h2] at h; exact absurd h h2

theorem meetsE_zero {rs : List (List Pt)} {a b : Pt} (h : meetsE rs a b = 0) : regF rs = 0 ∧ farP a = false ∧ farP b = false := by
  unfold meetsE at h
  by_cases h1 : regF rs = 0
  · rw [if_neg (fun k => k h1)] at h
    cases ha : farP a <;> cases hb : farP b <;> simp [ha, hb] at h
    exact ⟨h1, rfl, rfl⟩
  · rw [if_pos h1] at h; exact absurd h h1

theorem one_eq (rs : List (List Pt)) (a b : Pt) : orL [regF rs, pointsF [a, b]] = meetsE rs a b := by
  unfold meetsE orL orL orL pointsF
  by_cases h : regF rs = 0
  · simp only [h, ne_eq, not_true_eq_false, if_false, List.any_cons, List.any_nil, Bool.or_false]
    split <;> simp_all
  · simp only [ne_eq, h, not_false_eq_true, if_true]

theorem two_eq (rs : List (List Pt)) (l : List PathV) (o : List Vis) (st : Pt) (free : Int) : orL [pointsF [st], regF rs, orderF l o, spanF free 0 1000000] = retrE rs l o st free := by
  unfold retrE
  cases h1 : farP st with
  | true => simp [orL, pointsF, h1]
  | false =>
    have e1 : pointsF [st] = 0 := by simp [pointsF, h1]
    rw [e1]
    by_cases h2 : regF rs = 0
    · rw [h2]
      by_cases h3 : orderF l o = 0
      · rw [h3]; unfold spanF
        cases outB free 0 1000000 <;> simp [orL]
      · simp [orL, h3]
    · simp [orL, h2]

theorem retrAll_any (A : Option Addr) (c : Nat) (l : List PathV) (B : Option Addr) (d : Nat) (o : List Vis) (st : Pt) (free : Int) (R0 : Option Addr) (rc : Nat) (rs : List (List Pt)) (w : World) (hw : Sl w 0 R0 rs) (hrs : (flatK rs rs.length).length ≤ 1000000) (hl : Sl w 0 A l) (ho : Sl w 0 B o) :
    Calls Tryz.prog 11 #[.slice R0 rs.length rc, .agg #[.int .i64 st.x, .int .i64 st.y], .slice A l.length c, .slice B o.length d, .int .i64 free] w fun e w' => ∃ (A' : Option Addr) (c' : Nat), e = .returned (.tuple #[.slice A' (retK rs l o st free).length c', .int .i64 (retrE rs l o st free)]) ∧ Sl w' 0 A' (retK rs l o st free) ∧ w.grownBy w' none := by
  unfold retK
  by_cases h : retrE rs l o st free = 0
  · obtain ⟨h1, h2, h3, h4⟩ := retrE_zero h
    rw [if_pos h, h]
    refine (retrW_any A c l B d o st free R0 rc rs w hw h2 hrs hl ho (near_of h1) h1 h3 h4).mono ?_
    rintro e w' ⟨A', c', rfl, hO, hg⟩
    exact ⟨A', c', rfl, hO.sl.mono (Nat.zero_le _), hg⟩
  · rw [if_neg h]
    refine (retrErr_any A c l B d o st free R0 rc rs w hw hrs hl ho h).mono ?_
    rintro e w' ⟨rfl, hg⟩
    exact ⟨none, 0, rfl, Sl.nil, hg⟩

theorem chainedAll2_any (A : Option Addr) (c : Nat) (p : List PathV) (w : World) (hl : Sl w 0 A p) :
    Calls Tryz.prog 12 #[.slice A p.length c] w fun e w' => ∃ A' c', e = .returned (.tuple #[.slice A' (chK p).length c', .int .i64 (chE p)]) ∧ Sl w' 0 A' (chK p) ∧ w.grownBy w' none := by
  unfold chK chE
  by_cases h : pathsF p = 0
  · rw [if_pos h, if_pos h]
    exact chainedAll_any A c p w hl h
  · rw [if_neg h, if_neg h]
    refine (chainedErr_any A c p w hl h).mono ?_
    rintro e w' ⟨rfl, hg⟩
    exact ⟨none, 0, rfl, Sl.nil, hg⟩

theorem pointFaultW_any (A : Option Addr) (n c : Nat) (l : List Pt) (hn : l.length = n) (w : World) (hl : Sl w 0 A l) :
    Calls Tryz.prog 14 #[.slice A n c] w fun e w' => e = .returned (.int .i64 (pointsF l)) ∧ w.grownBy w' none := by
  subst hn
  exact pointFault_any A c l w hl

set_option maxHeartbeats 4000000 in
set_option maxRecDepth 100000 in
theorem wallsMet_law (A : Option Addr) (n c : Nat) (L : List Int) (w : World) (hL : Sl w 0 A L) (hn : L.length = n) :
    Calls Tryz.prog 3 #[.slice A n c] w fun e w' => e = .returned (.bool true) ∧ w.grownBy w' none := by
  have hs0 := strm_new (c := c) 25 hL hn
  have hg0 := gr_alloc (World.grownBy.refl w none) (.cells #[.slice A n c, .int .i64 0] 25)
  have hS0 := SOut.refl hs0
  go_enter Tryz.func3, Tryz.ntmps3
  go_wp2_with fail
  refine (aRegion_any _ 0 _ hs0 (by omega)).mono ?_
  rintro e v1 ⟨R0, rc, rs, rfl, hR, hrc, hr3, hr6, ho1⟩
  have hfl : (flatK rs rs.length).length ≤ 1000000 := Nat.le_trans (flat_small hr6) (by omega)
  have hz1 := ho1.size
  go_wp2_with fail
  refine (aPoint_any _ _ _ ho1.2 (by omega)).mono ?_
  rintro e v2 ⟨a, rfl, ho2⟩
  have hR2 := hR.s ho2 (by simp)
  replace ho2 := ho1.trans ho2
  clear hR
  go_wp2_with fail
  refine (aPoint_any _ _ _ ho2.2 (by omega)).mono ?_
  rintro e v3 ⟨b, rfl, ho3⟩
  have hR3 := hR2.s ho3 (by simp)
  replace ho3 := ho2.trans ho3
  clear hR2
  go_wp2_with fail
  refine (aPoint_any _ _ _ ho3.2 (by omega)).mono ?_
  rintro e v4 ⟨st, rfl, ho4⟩
  have hR4 := hR3.s ho4 (by simp)
  replace ho4 := ho3.trans ho4
  clear hR3
  go_wp2_with fail
  refine (pathList_any _ _ 5 _ ho4.2 (by omega) (by omega)).mono ?_
  rintro e v5 ⟨p, A2, c2, rfl, hp, hp5, hpp, ho5⟩
  have hR5 := hR4.s ho5 (by simp)
  have hz4 := ho4.size
  replace ho5 := ho4.trans ho5
  clear hR4
  have hp1 := hp.mono (show w.heap.size + 1 ≤ v4.heap.size by simp at hz4; omega)
  clear hp
  go_wp2_with fail
  have hal := ho5.al (.cells #[.int .i64 0, .int .i64 1, .int .i64 3, .int .i64 10, .int .i64 100, .int .i64 (-1), .int .i64 1000001] 3)
  have hgal := gr_alloc (World.grownBy.refl v5 none) (.cells #[.int .i64 0, .int .i64 1, .int .i64 3, .int .i64 10, .int .i64 100, .int .i64 (-1), .int .i64 1000001] 3)
  refine (pick_any _ _ _ 7 7 [0, 1, 3, 10, 100, -1, 1000001] _ hal.2 (by omega) (sl_ints _ _ _ _ (by have := ho5.size; simp at this; omega) (by simp [maxLen])) rfl (by decide)).mono ?_
  rintro e v6 ⟨free, rfl, -, ho6⟩
  have hR6 := (hR5.pure hgal).s ho6 (by simp)
  have hp6 := (hp1.pure hgal).s ho6 (by simp)
  replace ho6 := hal.trans ho6
  clear hR5 hp1 hal hgal ho1 ho2 ho3 ho4 ho5
  go_upto_region 3 with fail
  have hzz := ho6.size
  simp at hzz
  obtain ⟨W, hW⟩ : ∃ x, x = ((v6.alloc (.cells #[.int .i64 a.x, .int .i64 a.y] 29)).alloc (.cells #[.int .i64 b.x, .int .i64 b.y] 29)).alloc (.cells #[.int .i64 st.x, .int .i64 st.y] 29) := ⟨_, rfl⟩
  have b5 : Box W v6.heap.size 29 [.int .i64 a.x, .int .i64 a.y] := by rw [hW]; exact (Box.new _ _ _).pure (gr_alloc (gr_alloc (World.grownBy.refl _ _) _) _)
  have b6 : Box W (v6.heap.size + 1) 29 [.int .i64 b.x, .int .i64 b.y] := by
    rw [hW, show v6.heap.size + 1 = (v6.alloc (.cells #[.int .i64 a.x, .int .i64 a.y] 29)).heap.size by simp]; exact (Box.new _ _ _).pure (gr_alloc (World.grownBy.refl _ _) _)
  have b7 : Box W (v6.heap.size + 1 + 1) 29 [.int .i64 st.x, .int .i64 st.y] := by
    rw [hW, show v6.heap.size + 1 + 1 = ((v6.alloc (.cells #[.int .i64 a.x, .int .i64 a.y] 29)).alloc (.cells #[.int .i64 b.x, .int .i64 b.y] 29)).heap.size by simp]; exact Box.new _ _ _
  have hgW : v6.grownBy W none := by rw [hW]; exact gr_alloc (gr_alloc (gr_alloc (World.grownBy.refl _ _) _) _) _
  have hoW := ((ho6.al (.cells #[.int .i64 a.x, .int .i64 a.y] 29)).al (.cells #[.int .i64 b.x, .int .i64 b.y] 29)).al (.cells #[.int .i64 st.x, .int .i64 st.y] 29)
  rw [← hW] at hoW ⊢
  have hRW := hR6.sl.pure hgW
  have hpW := hp6.pure hgW
  clear hW hR6 hp6 ho6 hgW
  obtain ⟨x7, hx7⟩ : ∃ x, x = v6.heap.size + 1 + 1 := ⟨_, rfl⟩
  rw [← hx7] at b7 ⊢
  obtain ⟨x6, hx6⟩ : ∃ x, x = v6.heap.size + 1 := ⟨_, rfl⟩
  rw [← hx6] at b6 ⊢
  obtain ⟨x5, hx5⟩ : ∃ x, x = v6.heap.size := ⟨_, rfl⟩
  rw [← hx5] at b5 ⊢
  have n5 : w.heap.size < x5 ∧ w.heap.size < x6 ∧ w.heap.size < x7 := by omega
  clear hx5 hx6 hx7 hzz
  go_wp2_with fail
  refine (anOrder_any _ _ _ _ p _ hoW.2 (by omega) hpW (by omega)).mono ?_
  rintro e v7 ⟨o, A3, c3, rfl, hO, hol, ho7⟩
  have hcp := hO.cap
  have hR7 := (hRW.s ho7 (by simp)).mono (Nat.zero_le _)
  have hp7 := (hpW.s ho7 (by simp)).mono (Nat.zero_le _)
  have hO7 := hO.sl.mono (Nat.zero_le _)
  replace b5 := b5.gr ho7.1 (by simp; omega)
  replace b6 := b6.gr ho7.1 (by simp; omega)
  replace b7 := b7.gr ho7.1 (by simp; omega)
  have hgT : Hid (w.grownBy v7 none) := gr_new hg0 (hoW.trans ho7).1 (Nat.le_refl _)
  clear hO hRW hpW hoW ho7 hg0 n5 hs0 hS0 hL hz1 hz4 hol hpp hr3 hr6
  go_wp2_with fail
  refine (regionFault_any R0 rc rs _ hR7 hfl hrc).mono ?_
  rintro e v8 ⟨rfl, h8⟩
  obtain ⟨p0, -⟩ := (b5.pure h8).c 0 rfl
  obtain ⟨p1, -⟩ := (b5.pure h8).c 1 rfl
  obtain ⟨q0, -⟩ := (b6.pure h8).c 0 rfl
  obtain ⟨q1, -⟩ := (b6.pure h8).c 1 rfl
  go_wp2_with fail
  refine (meets_any R0 rc rs a b _ (hR7.pure h8) hfl).mono ?_
  rintro e v9 ⟨rfl, h9⟩
  replace h9 := h8.t h9
  clear h8 p0 p1 q0 q1
  obtain ⟨r0, -⟩ := (b7.pure h9).c 0 rfl
  obtain ⟨r1, -⟩ := (b7.pure h9).c 1 rfl
  go_wp2_with fail
  refine (retrAll_any A2 c2 p A3 c3 o st free R0 rc rs _ (hR7.pure h9) hfl (hp7.pure h9) (hO7.pure h9)).mono ?_
  rintro e v10 ⟨A4, c4, rfl, hK, h10⟩
  replace h10 := h9.t h10
  clear h9 r0 r1
  go_wp2_with fail
  refine (chainedAll2_any A2 c2 p _ (hp7.pure h10)).mono ?_
  rintro e v11 ⟨A5, c5, rfl, hCk, h11⟩
  have hK11 := hK.pure h11
  replace h11 := h10.t h11
  clear h10 hK
  have hgT2 := hide (hgT.out.t h11)
  have hR := hR7.pure h11
  have hp := hp7.pure h11
  have hO := hO7.pure h11
  replace b5 := b5.pure h11
  replace b6 := b6.pure h11
  replace b7 := b7.pure h11
  clear hR7 hp7 hO7 h11 hgT
  obtain ⟨m1, hm1⟩ : ∃ m, m = meetsN rs a b := ⟨_, rfl⟩
  obtain ⟨e1, he1⟩ : ∃ m, m = meetsE rs a b := ⟨_, rfl⟩
  obtain ⟨e2, he2⟩ : ∃ m, m = retrE rs p o st free := ⟨_, rfl⟩
  obtain ⟨K2, hK2⟩ : ∃ m, m = retK rs p o st free := ⟨_, rfl⟩
  obtain ⟨e3, he3⟩ : ∃ m, m = chE p := ⟨_, rfl⟩
  obtain ⟨K3, hK3⟩ : ∃ m, m = chK p := ⟨_, rfl⟩
  have hone := one_eq rs a b
  have htwo := two_eq rs p o st free
  rw [← he1] at hone
  rw [← he2] at htwo
  rw [← hm1, ← he1, ← he2, ← hK2, ← he3, ← hK3]
  rw [← hK2] at hK11
  rw [← hK3] at hCk
  obtain ⟨F, hFe⟩ : ∃ F, F = regF rs := ⟨_, rfl⟩
  obtain ⟨PF, hPF⟩ : ∃ F, F = pointsF [a, b] := ⟨_, rfl⟩
  obtain ⟨SF, hSF⟩ : ∃ F, F = pointsF [st] := ⟨_, rfl⟩
  obtain ⟨OF, hOF⟩ : ∃ F, F = orderF p o := ⟨_, rfl⟩
  obtain ⟨FF, hFF⟩ : ∃ F, F = spanF free 0 1000000 := ⟨_, rfl⟩
  obtain ⟨CF, hCF⟩ : ∃ F, F = pathsF p := ⟨_, rfl⟩
  rw [← hFe, ← hPF] at hone
  rw [← hSF, ← hFe, ← hOF, ← hFF] at htwo
  rw [← hFe]
  replace hone := hide hone
  replace htwo := hide htwo
  replace hm1 := hide hm1
  replace he1 := hide he1
  replace he2 := hide he2
  replace hK2 := hide hK2
  replace he3 := hide he3
  replace hK3 := hide hK3
  replace hFe := hide hFe
  replace hPF := hide hPF
  replace hSF := hide hSF
  replace hOF := hide hOF
  replace hFF := hide hFF
  replace hCF := hide hCF
  obtain ⟨p0, -⟩ := b5.c 0 rfl
  obtain ⟨p1, -⟩ := b5.c 1 rfl
  obtain ⟨q0, -⟩ := b6.c 0 rfl
  obtain ⟨q1, -⟩ := b6.c 1 rfl
  obtain ⟨r0, -⟩ := b7.c 0 rfl
  obtain ⟨r1, -⟩ := b7.c 1 rfl
  go_upto_region 8 with fail
  go_cut [18, 19, 20] from 66 to 85 (fun s18 s19 s20 wx => s18 = .int .i64 e1 ∧ s19 = .int .i64 e2 ∧ s20 = .int .i64 CF ∧ v11.grownBy wx none)
  case first =>
    refine wp_region_tree (fun wx => v11.grownBy wx none) [2, 1, 1, 0, 0, 0, 0, 1, 0, 0, 2, 2, 2, 0, 2, 0, 0, 0, 2, 0, 2, 2, 2] (.bl 0 (.bl 1 (.bl 2 (.bl 7 (.bl 10 (.bl 11 (.bl 12 (.bl 14 (.bl 18 (.alt (.ef 3 (.alt (.ef 4 (.alt (.ef 5 (.alt (.ef 6 (.ef 8 (.ef 9 (.ef 13 (.ef 15 (.ef 16 (.ef 17 (.ef 19 (.bl 20 (.bl 21 (.bl 22 .done))))))))))) (.ef 8 (.ef 6 (.ef 9 (.ef 13 (.ef 15 (.ef 16 (.ef 17 (.ef 19 (.bl 20 (.bl 21 (.bl 22 .done))))))))))))) (.ef 8 (.ef 5 (.ef 6 (.ef 9 (.ef 13 (.ef 15 (.ef 16 (.ef 17 (.ef 19 (.bl 20 (.bl 21 (.bl 22 .done)))))))))))))) (.ef 8 (.ef 4 (.ef 5 (.ef 6 (.ef 9 (.ef 13 (.ef 15 (.ef 16 (.ef 17 (.ef 19 (.bl 20 (.bl 21 (.bl 22 .done))))))))))))))) (.ef 8 (.ef 3 (.ef 4 (.ef 5 (.ef 6 (.ef 9 (.ef 13 (.ef 15 (.ef 16 (.ef 17 (.ef 19 (.bl 20 (.bl 21 (.bl 22 .done)))))))))))))))))))))))) (by kernel_rfl) (by kernel_rfl) (gr_drew (World.grownBy.refl _ _)) ?_
    obtain ⟨W1, hW1⟩ : ∃ x, x = (v11).drew := ⟨_, rfl⟩
    rw [← hW1]
    have hgW1 : (v11).grownBy W1 none := by rw [hW1]; exact gr_drew (World.grownBy.refl _ _)
    clear hW1
    refine tree_p rfl rfl rfl rfl _ rfl (by simp) (fun K hK => ?_)
    apply Exists.intro
    refine ⟨fun wq K' hK' => ?_, ?_⟩
    · go_wp2_with fail
      exact hK'
    go_simp
    refine hK _ ?_
    clear hK K
    refine tree_b rfl rfl rfl rfl _ rfl (by simp) (fun K hK => ?_)
    apply Exists.intro
    refine ⟨fun wq hq K' hK' => ?_, ?_⟩
    · have y0 := hq.k p0
      have y1 := hq.k p1
      have y2 := hq.k q0
      have y3 := hq.k q1
      have y4 := hq.k r0
      have y5 := hq.k r1
      go_wp2_with fail
      exact hK'
    go_simp
    refine hK _ ?_
    clear hK K
    refine tree_b rfl rfl rfl rfl _ rfl (by simp) (fun K hK => ?_)
    apply Exists.intro
    refine ⟨fun wq hq K' hK' => ?_, ?_⟩
    · have y0 := hq.k p0
      have y1 := hq.k p1
      have y2 := hq.k q0
      have y3 := hq.k q1
      have y4 := hq.k r0
      have y5 := hq.k r1
      go_wp2_with fail
      exact hK'
    go_simp
    refine hK _ ?_
    clear hK K
    refine tree_b rfl rfl rfl rfl _ rfl (by simp) (fun K hK => ?_)
    apply Exists.intro
    refine ⟨fun wq hq K' hK' => ?_, ?_⟩
    · have y0 := hq.k p0
      have y1 := hq.k p1
      have y2 := hq.k q0
      have y3 := hq.k q1
      have y4 := hq.k r0
      have y5 := hq.k r1
      go_wp2_with fail
      exact hK'
    go_simp
    refine hK _ ?_
    clear hK K
    refine tree_p rfl rfl rfl rfl _ rfl (by simp) (fun K hK => ?_)
    apply Exists.intro
    refine ⟨fun wq K' hK' => ?_, ?_⟩
    · go_wp2_with fail
      exact hK'
    go_simp
    refine hK _ ?_
    clear hK K
    refine tree_p rfl rfl rfl rfl _ rfl (by simp) (fun K hK => ?_)
    apply Exists.intro
    refine ⟨fun wq K' hK' => ?_, ?_⟩
    · go_wp2_with fail
      exact hK'
    go_simp
    refine hK _ ?_
    clear hK K
    refine tree_p rfl rfl rfl rfl _ rfl (by simp) (fun K hK => ?_)
    apply Exists.intro
    refine ⟨fun wq K' hK' => ?_, ?_⟩
    · go_wp2_with fail
      exact hK'
    go_simp
    refine hK _ ?_
    clear hK K
    refine tree_p rfl rfl rfl rfl _ rfl (by simp) (fun K hK => ?_)
    apply Exists.intro
    refine ⟨fun wq K' hK' => ?_, ?_⟩
    · go_wp2_with fail
      exact hK'
    go_simp
    refine hK _ ?_
    clear hK K
    refine tree_p rfl rfl rfl rfl _ rfl (by simp) (fun K hK => ?_)
    apply Exists.intro
    refine ⟨fun wq K' hK' => ?_, ?_⟩
    · go_wp2_with fail
      exact hK'
    go_simp
    refine hK _ ?_
    clear hK K
    refine tree_alt ?_ ?_
    · refine tree_e rfl rfl (fun K hK => ?_)
      go_wp2_with fail
      try go_simp
      refine hK _ _ (gr_alloc (gr_trans hgW1 (World.grownBy.refl _ _)) _) ?_
      clear hK K
      obtain ⟨w3, hw3⟩ : ∃ x, x = (W1).alloc (.cells [.int .i64 a.x, .int .i64 a.y, .int .i64 b.x, .int .i64 b.y].toArray 29) := ⟨_, rfl⟩
      have hg3 : (W1).grownBy w3 none := by rw [hw3]; exact gr_alloc (World.grownBy.refl _ _) _
      have hb3 : Box w3 (W1).heap.size 29 [.int .i64 a.x, .int .i64 a.y, .int .i64 b.x, .int .i64 b.y] := by rw [hw3]; exact Box.new _ _ _
      rw [← hw3]
      clear hw3
      have hsl3 := hb3.sl (l := [a, b]) ⟨_, _, rfl, rfl, _, [], rfl, rfl, rfl⟩ (Nat.zero_le _) (by simp [maxLen])
      refine tree_alt ?_ ?_
      · refine tree_e rfl rfl (fun K hK => ?_)
        go_wp2_with fail
        refine (pointFaultW_any _ 2 2 [a, b] rfl w3 (hsl3.pure (World.grownBy.refl _ _))).mono ?_
        rintro e w4 ⟨rfl, hg4⟩
        have hW4 : v11.grownBy w4 none := gr_trans (gr_trans hgW1 hg3) hg4
        rw [← hPF.out]
        go_wp2_with fail
        try go_simp
        refine hK _ _ (hW4) ?_
        clear hK K
        refine tree_alt ?_ ?_
        · refine tree_e rfl rfl (fun K hK => ?_)
          go_wp2_with fail
          try go_simp
          refine hK _ _ (gr_alloc (gr_trans hgW1 (gr_trans hg3 hg4)) _) ?_
          clear hK K
          obtain ⟨w5, hw5⟩ : ∃ x, x = (w4).alloc (.cells [.int .i64 F, .int .i64 PF].toArray 36) := ⟨_, rfl⟩
          have hg5 : (w4).grownBy w5 none := by rw [hw5]; exact gr_alloc (World.grownBy.refl _ _) _
          have hb5 : Box w5 (w4).heap.size 36 [.int .i64 F, .int .i64 PF] := by rw [hw5]; exact Box.new _ _ _
          rw [← hw5]
          clear hw5
          have hsl5 := hb5.sl (l := [F, PF]) ⟨_, _, rfl, rfl, _, [], rfl, rfl, rfl⟩ (Nat.zero_le _) (by simp [maxLen])
          refine tree_alt ?_ ?_
          · refine tree_e rfl rfl (fun K hK => ?_)
            go_wp2_with fail
            refine (or_any _ 2 2 [F, PF] w5 (hsl5.pure (World.grownBy.refl _ _)) rfl).mono ?_
            rintro e w6 ⟨rfl, hw6⟩
            have hg6 : (w5).grownBy w6 none := by rw [← hw6]; exact World.grownBy.refl _ _
            clear hw6
            have hW6 : v11.grownBy w6 none := gr_trans (gr_trans hgW1 (gr_trans (gr_trans hg3 hg4) hg5)) hg6
            rw [hone.out]
            go_wp2_with fail
            try go_simp
            refine hK _ _ (hW6) ?_
            clear hK K
            refine tree_e rfl rfl (fun K hK => ?_)
            go_wp2_with fail
            try go_simp
            refine hK _ _ (gr_alloc (gr_trans hgW1 (gr_trans (gr_trans (gr_trans hg3 hg4) hg5) hg6)) _) ?_
            clear hK K
            obtain ⟨w8, hw8⟩ : ∃ x, x = (w6).alloc (.cells [.int .i64 st.x, .int .i64 st.y].toArray 29) := ⟨_, rfl⟩
            have hg8 : (w6).grownBy w8 none := by rw [hw8]; exact gr_alloc (World.grownBy.refl _ _) _
            have hb8 : Box w8 (w6).heap.size 29 [.int .i64 st.x, .int .i64 st.y] := by rw [hw8]; exact Box.new _ _ _
            rw [← hw8]
            clear hw8
            have hsl8 := hb8.sl (l := [st]) ⟨_, _, rfl, rfl, rfl⟩ (Nat.zero_le _) (by simp [maxLen])
            refine tree_e0 (by kernel_rfl) rfl rfl (fun K hK => ?_)
            go_wp2_with fail
            refine (pointFaultW_any _ 1 1 [st] rfl w8 (hsl8.pure (World.grownBy.refl _ _))).mono ?_
            rintro e w9 ⟨rfl, hg9⟩
            rw [← hSF.out]
            go_wp2_with fail
            try go_simp
            refine hK _ _ trivial ?_
            clear hK K
            refine tree_e0 (by kernel_rfl) rfl rfl (fun K hK => ?_)
            go_wp2_with fail
            refine (orderFaultRef_any A2 c2 p A3 c3 o w9 (hp.pure (gr_trans hgW1 (gr_trans (gr_trans (gr_trans (gr_trans (gr_trans hg3 hg4) hg5) hg6) hg8) hg9))) (hO.pure (gr_trans hgW1 (gr_trans (gr_trans (gr_trans (gr_trans (gr_trans hg3 hg4) hg5) hg6) hg8) hg9))) hcp).mono ?_
            rintro e w13 ⟨rfl, hg13⟩
            rw [← hOF.out]
            go_wp2_with fail
            try go_simp
            refine hK _ _ trivial ?_
            clear hK K
            refine tree_e0 (by kernel_rfl) rfl rfl (fun K hK => ?_)
            go_wp2_with fail
            refine (spanFault_any free 0 1000000 w13).mono ?_
            rintro e w15 ⟨rfl, hw15⟩
            have hg15 : (w13).grownBy w15 none := by rw [← hw15]; exact World.grownBy.refl _ _
            clear hw15
            rw [← hFF.out]
            go_wp2_with fail
            try go_simp
            refine hK _ _ trivial ?_
            clear hK K
            refine tree_e0 (by kernel_rfl) rfl rfl (fun K hK => ?_)
            go_wp2_with fail
            try go_simp
            refine hK _ _ trivial ?_
            clear hK K
            obtain ⟨w16, hw16⟩ : ∃ x, x = (w15).alloc (.cells [.int .i64 SF, .int .i64 F, .int .i64 OF, .int .i64 FF].toArray 36) := ⟨_, rfl⟩
            have hg16 : (w15).grownBy w16 none := by rw [hw16]; exact gr_alloc (World.grownBy.refl _ _) _
            have hb16 : Box w16 (w15).heap.size 36 [.int .i64 SF, .int .i64 F, .int .i64 OF, .int .i64 FF] := by rw [hw16]; exact Box.new _ _ _
            rw [← hw16]
            clear hw16
            have hsl16 := hb16.sl (l := [SF, F, OF, FF]) ⟨_, _, rfl, rfl, _, _, rfl, rfl, _, _, rfl, rfl, _, [], rfl, rfl, rfl⟩ (Nat.zero_le _) (by simp [maxLen])
            refine tree_e0 (by kernel_rfl) rfl rfl (fun K hK => ?_)
            go_wp2_with fail
            refine (or_any _ 4 4 [SF, F, OF, FF] w16 (hsl16.pure (World.grownBy.refl _ _)) rfl).mono ?_
            rintro e w17 ⟨rfl, hw17⟩
            have hg17 : (w16).grownBy w17 none := by rw [← hw17]; exact World.grownBy.refl _ _
            clear hw17
            rw [htwo.out]
            go_wp2_with fail
            try go_simp
            refine hK _ _ trivial ?_
            clear hK K
            refine tree_e0 (by kernel_rfl) rfl rfl (fun K hK => ?_)
            go_wp2_with fail
            refine (pathsFaultRef_any A2 c2 p w17 (hp.pure (gr_trans hgW1 (gr_trans (gr_trans (gr_trans (gr_trans (gr_trans (gr_trans (gr_trans (gr_trans (gr_trans hg3 hg4) hg5) hg6) hg8) hg9) hg13) hg15) hg16) hg17)))).mono ?_
            rintro e w19 ⟨rfl, hg19⟩
            have hW19 : v11.grownBy w19 none := gr_trans (gr_trans hgW1 (gr_trans (gr_trans (gr_trans (gr_trans (gr_trans (gr_trans (gr_trans (gr_trans (gr_trans hg3 hg4) hg5) hg6) hg8) hg9) hg13) hg15) hg16) hg17)) hg19
            rw [← hCF.out]
            go_wp2_with fail
            try go_simp
            refine hK _ _ trivial ?_
            clear hK K
            refine tree_p rfl rfl rfl rfl _ rfl (by simp) (fun K hK => ?_)
            apply Exists.intro
            refine ⟨fun wq K' hK' => ?_, ?_⟩
            · go_wp2_with fail
              exact hK'
            go_simp
            refine hK _ ?_
            clear hK K
            refine tree_p rfl rfl rfl rfl _ rfl (by simp) (fun K hK => ?_)
            apply Exists.intro
            refine ⟨fun wq K' hK' => ?_, ?_⟩
            · go_wp2_with fail
              exact hK'
            go_simp
            refine hK _ ?_
            clear hK K
            refine tree_p rfl rfl rfl rfl _ rfl (by simp) (fun K hK => ?_)
            apply Exists.intro
            refine ⟨fun wq K' hK' => ?_, ?_⟩
            · go_wp2_with fail
              exact hK'
            go_simp
            refine hK _ ?_
            clear hK K
            refine tree_done ?_
            go_wp2_with fail
            go_meet
            exact ⟨rfl, rfl, rfl, hW19⟩
          · refine tree_e rfl rfl (fun K hK => ?_)
            go_wp2_with fail
            try go_simp
            refine hK _ _ (gr_alloc (gr_trans hgW1 (gr_trans (gr_trans hg3 hg4) hg5)) _) ?_
            clear hK K
            obtain ⟨w8, hw8⟩ : ∃ x, x = (w5).alloc (.cells [.int .i64 st.x, .int .i64 st.y].toArray 29) := ⟨_, rfl⟩
            have hg8 : (w5).grownBy w8 none := by rw [hw8]; exact gr_alloc (World.grownBy.refl _ _) _
            have hb8 : Box w8 (w5).heap.size 29 [.int .i64 st.x, .int .i64 st.y] := by rw [hw8]; exact Box.new _ _ _
            rw [← hw8]
            clear hw8
            have hsl8 := hb8.sl (l := [st]) ⟨_, _, rfl, rfl, rfl⟩ (Nat.zero_le _) (by simp [maxLen])
            refine tree_e rfl rfl (fun K hK => ?_)
            go_wp2_with fail
            refine (or_any _ 2 2 [F, PF] w8 (hsl5.pure hg8) rfl).mono ?_
            rintro e w6 ⟨rfl, hw6⟩
            have hg6 : (w8).grownBy w6 none := by rw [← hw6]; exact World.grownBy.refl _ _
            clear hw6
            have hW6 : v11.grownBy w6 none := gr_trans (gr_trans hgW1 (gr_trans (gr_trans (gr_trans hg3 hg4) hg5) hg8)) hg6
            rw [hone.out]
            go_wp2_with fail
            try go_simp
            refine hK _ _ (hW6) ?_
            clear hK K
            refine tree_e0 (by kernel_rfl) rfl rfl (fun K hK => ?_)
            go_wp2_with fail
            refine (pointFaultW_any _ 1 1 [st] rfl w6 (hsl8.pure hg6)).mono ?_
            rintro e w9 ⟨rfl, hg9⟩
            rw [← hSF.out]
            go_wp2_with fail
            try go_simp
            refine hK _ _ trivial ?_
            clear hK K
            refine tree_e0 (by kernel_rfl) rfl rfl (fun K hK => ?_)
            go_wp2_with fail
            refine (orderFaultRef_any A2 c2 p A3 c3 o w9 (hp.pure (gr_trans hgW1 (gr_trans (gr_trans (gr_trans (gr_trans (gr_trans hg3 hg4) hg5) hg8) hg6) hg9))) (hO.pure (gr_trans hgW1 (gr_trans (gr_trans (gr_trans (gr_trans (gr_trans hg3 hg4) hg5) hg8) hg6) hg9))) hcp).mono ?_
            rintro e w13 ⟨rfl, hg13⟩
            rw [← hOF.out]
            go_wp2_with fail
            try go_simp
            refine hK _ _ trivial ?_
            clear hK K
            refine tree_e0 (by kernel_rfl) rfl rfl (fun K hK => ?_)
            go_wp2_with fail
            refine (spanFault_any free 0 1000000 w13).mono ?_
            rintro e w15 ⟨rfl, hw15⟩
            have hg15 : (w13).grownBy w15 none := by rw [← hw15]; exact World.grownBy.refl _ _
            clear hw15
            rw [← hFF.out]
            go_wp2_with fail
            try go_simp
            refine hK _ _ trivial ?_
            clear hK K
            refine tree_e0 (by kernel_rfl) rfl rfl (fun K hK => ?_)
            go_wp2_with fail
            try go_simp
            refine hK _ _ trivial ?_
            clear hK K
            obtain ⟨w16, hw16⟩ : ∃ x, x = (w15).alloc (.cells [.int .i64 SF, .int .i64 F, .int .i64 OF, .int .i64 FF].toArray 36) := ⟨_, rfl⟩
            have hg16 : (w15).grownBy w16 none := by rw [hw16]; exact gr_alloc (World.grownBy.refl _ _) _
            have hb16 : Box w16 (w15).heap.size 36 [.int .i64 SF, .int .i64 F, .int .i64 OF, .int .i64 FF] := by rw [hw16]; exact Box.new _ _ _
            rw [← hw16]
            clear hw16
            have hsl16 := hb16.sl (l := [SF, F, OF, FF]) ⟨_, _, rfl, rfl, _, _, rfl, rfl, _, _, rfl, rfl, _, [], rfl, rfl, rfl⟩ (Nat.zero_le _) (by simp [maxLen])
            refine tree_e0 (by kernel_rfl) rfl rfl (fun K hK => ?_)
            go_wp2_with fail
            refine (or_any _ 4 4 [SF, F, OF, FF] w16 (hsl16.pure (World.grownBy.refl _ _)) rfl).mono ?_
            rintro e w17 ⟨rfl, hw17⟩
            have hg17 : (w16).grownBy w17 none := by rw [← hw17]; exact World.grownBy.refl _ _
            clear hw17
            rw [htwo.out]
            go_wp2_with fail
            try go_simp
            refine hK _ _ trivial ?_
            clear hK K
            refine tree_e0 (by kernel_rfl) rfl rfl (fun K hK => ?_)
            go_wp2_with fail
            refine (pathsFaultRef_any A2 c2 p w17 (hp.pure (gr_trans hgW1 (gr_trans (gr_trans (gr_trans (gr_trans (gr_trans (gr_trans (gr_trans (gr_trans (gr_trans hg3 hg4) hg5) hg8) hg6) hg9) hg13) hg15) hg16) hg17)))).mono ?_
            rintro e w19 ⟨rfl, hg19⟩
            have hW19 : v11.grownBy w19 none := gr_trans (gr_trans hgW1 (gr_trans (gr_trans (gr_trans (gr_trans (gr_trans (gr_trans (gr_trans (gr_trans (gr_trans hg3 hg4) hg5) hg8) hg6) hg9) hg13) hg15) hg16) hg17)) hg19
            rw [← hCF.out]
            go_wp2_with fail
            try go_simp
            refine hK _ _ trivial ?_
            clear hK K
            refine tree_p rfl rfl rfl rfl _ rfl (by simp) (fun K hK => ?_)
            apply Exists.intro
            refine ⟨fun wq K' hK' => ?_, ?_⟩
            · go_wp2_with fail
              exact hK'
            go_simp
            refine hK _ ?_
            clear hK K
            refine tree_p rfl rfl rfl rfl _ rfl (by simp) (fun K hK => ?_)
            apply Exists.intro
            refine ⟨fun wq K' hK' => ?_, ?_⟩
            · go_wp2_with fail
              exact hK'
            go_simp
            refine hK _ ?_
            clear hK K
            refine tree_p rfl rfl rfl rfl _ rfl (by simp) (fun K hK => ?_)
            apply Exists.intro
            refine ⟨fun wq K' hK' => ?_, ?_⟩
            · go_wp2_with fail
              exact hK'
            go_simp
            refine hK _ ?_
            clear hK K
            refine tree_done ?_
            go_wp2_with fail
            go_meet
            exact ⟨rfl, rfl, rfl, hW19⟩
        · refine tree_e rfl rfl (fun K hK => ?_)
          go_wp2_with fail
          try go_simp
          refine hK _ _ (gr_alloc (gr_trans hgW1 (gr_trans hg3 hg4)) _) ?_
          clear hK K
          obtain ⟨w8, hw8⟩ : ∃ x, x = (w4).alloc (.cells [.int .i64 st.x, .int .i64 st.y].toArray 29) := ⟨_, rfl⟩
          have hg8 : (w4).grownBy w8 none := by rw [hw8]; exact gr_alloc (World.grownBy.refl _ _) _
          have hb8 : Box w8 (w4).heap.size 29 [.int .i64 st.x, .int .i64 st.y] := by rw [hw8]; exact Box.new _ _ _
          rw [← hw8]
          clear hw8
          have hsl8 := hb8.sl (l := [st]) ⟨_, _, rfl, rfl, rfl⟩ (Nat.zero_le _) (by simp [maxLen])
          refine tree_e rfl rfl (fun K hK => ?_)
          go_wp2_with fail
          try go_simp
          refine hK _ _ (gr_alloc (gr_trans hgW1 (gr_trans (gr_trans hg3 hg4) hg8)) _) ?_
          clear hK K
          obtain ⟨w5, hw5⟩ : ∃ x, x = (w8).alloc (.cells [.int .i64 F, .int .i64 PF].toArray 36) := ⟨_, rfl⟩
          have hg5 : (w8).grownBy w5 none := by rw [hw5]; exact gr_alloc (World.grownBy.refl _ _) _
          have hb5 : Box w5 (w8).heap.size 36 [.int .i64 F, .int .i64 PF] := by rw [hw5]; exact Box.new _ _ _
          rw [← hw5]
          clear hw5
          have hsl5 := hb5.sl (l := [F, PF]) ⟨_, _, rfl, rfl, _, [], rfl, rfl, rfl⟩ (Nat.zero_le _) (by simp [maxLen])
          refine tree_e rfl rfl (fun K hK => ?_)
          go_wp2_with fail
          refine (or_any _ 2 2 [F, PF] w5 (hsl5.pure (World.grownBy.refl _ _)) rfl).mono ?_
          rintro e w6 ⟨rfl, hw6⟩
          have hg6 : (w5).grownBy w6 none := by rw [← hw6]; exact World.grownBy.refl _ _
          clear hw6
          have hW6 : v11.grownBy w6 none := gr_trans (gr_trans hgW1 (gr_trans (gr_trans (gr_trans hg3 hg4) hg8) hg5)) hg6
          rw [hone.out]
          go_wp2_with fail
          try go_simp
          refine hK _ _ (hW6) ?_
          clear hK K
          refine tree_e0 (by kernel_rfl) rfl rfl (fun K hK => ?_)
          go_wp2_with fail
          refine (pointFaultW_any _ 1 1 [st] rfl w6 (hsl8.pure (gr_trans hg5 hg6))).mono ?_
          rintro e w9 ⟨rfl, hg9⟩
          rw [← hSF.out]
          go_wp2_with fail
          try go_simp
          refine hK _ _ trivial ?_
          clear hK K
          refine tree_e0 (by kernel_rfl) rfl rfl (fun K hK => ?_)
          go_wp2_with fail
          refine (orderFaultRef_any A2 c2 p A3 c3 o w9 (hp.pure (gr_trans hgW1 (gr_trans (gr_trans (gr_trans (gr_trans (gr_trans hg3 hg4) hg8) hg5) hg6) hg9))) (hO.pure (gr_trans hgW1 (gr_trans (gr_trans (gr_trans (gr_trans (gr_trans hg3 hg4) hg8) hg5) hg6) hg9))) hcp).mono ?_
          rintro e w13 ⟨rfl, hg13⟩
          rw [← hOF.out]
          go_wp2_with fail
          try go_simp
          refine hK _ _ trivial ?_
          clear hK K
          refine tree_e0 (by kernel_rfl) rfl rfl (fun K hK => ?_)
          go_wp2_with fail
          refine (spanFault_any free 0 1000000 w13).mono ?_
          rintro e w15 ⟨rfl, hw15⟩
          have hg15 : (w13).grownBy w15 none := by rw [← hw15]; exact World.grownBy.refl _ _
          clear hw15
          rw [← hFF.out]
          go_wp2_with fail
          try go_simp
          refine hK _ _ trivial ?_
          clear hK K
          refine tree_e0 (by kernel_rfl) rfl rfl (fun K hK => ?_)
          go_wp2_with fail
          try go_simp
          refine hK _ _ trivial ?_
          clear hK K
          obtain ⟨w16, hw16⟩ : ∃ x, x = (w15).alloc (.cells [.int .i64 SF, .int .i64 F, .int .i64 OF, .int .i64 FF].toArray 36) := ⟨_, rfl⟩
          have hg16 : (w15).grownBy w16 none := by rw [hw16]; exact gr_alloc (World.grownBy.refl _ _) _
          have hb16 : Box w16 (w15).heap.size 36 [.int .i64 SF, .int .i64 F, .int .i64 OF, .int .i64 FF] := by rw [hw16]; exact Box.new _ _ _
          rw [← hw16]
          clear hw16
          have hsl16 := hb16.sl (l := [SF, F, OF, FF]) ⟨_, _, rfl, rfl, _, _, rfl, rfl, _, _, rfl, rfl, _, [], rfl, rfl, rfl⟩ (Nat.zero_le _) (by simp [maxLen])
          refine tree_e0 (by kernel_rfl) rfl rfl (fun K hK => ?_)
          go_wp2_with fail
          refine (or_any _ 4 4 [SF, F, OF, FF] w16 (hsl16.pure (World.grownBy.refl _ _)) rfl).mono ?_
          rintro e w17 ⟨rfl, hw17⟩
          have hg17 : (w16).grownBy w17 none := by rw [← hw17]; exact World.grownBy.refl _ _
          clear hw17
          rw [htwo.out]
          go_wp2_with fail
          try go_simp
          refine hK _ _ trivial ?_
          clear hK K
          refine tree_e0 (by kernel_rfl) rfl rfl (fun K hK => ?_)
          go_wp2_with fail
          refine (pathsFaultRef_any A2 c2 p w17 (hp.pure (gr_trans hgW1 (gr_trans (gr_trans (gr_trans (gr_trans (gr_trans (gr_trans (gr_trans (gr_trans (gr_trans hg3 hg4) hg8) hg5) hg6) hg9) hg13) hg15) hg16) hg17)))).mono ?_
          rintro e w19 ⟨rfl, hg19⟩
          have hW19 : v11.grownBy w19 none := gr_trans (gr_trans hgW1 (gr_trans (gr_trans (gr_trans (gr_trans (gr_trans (gr_trans (gr_trans (gr_trans (gr_trans hg3 hg4) hg8) hg5) hg6) hg9) hg13) hg15) hg16) hg17)) hg19
          rw [← hCF.out]
          go_wp2_with fail
          try go_simp
          refine hK _ _ trivial ?_
          clear hK K
          refine tree_p rfl rfl rfl rfl _ rfl (by simp) (fun K hK => ?_)
          apply Exists.intro
          refine ⟨fun wq K' hK' => ?_, ?_⟩
          · go_wp2_with fail
            exact hK'
          go_simp
          refine hK _ ?_
          clear hK K
          refine tree_p rfl rfl rfl rfl _ rfl (by simp) (fun K hK => ?_)
          apply Exists.intro
          refine ⟨fun wq K' hK' => ?_, ?_⟩
          · go_wp2_with fail
            exact hK'
          go_simp
          refine hK _ ?_
          clear hK K
          refine tree_p rfl rfl rfl rfl _ rfl (by simp) (fun K hK => ?_)
          apply Exists.intro
          refine ⟨fun wq K' hK' => ?_, ?_⟩
          · go_wp2_with fail
            exact hK'
          go_simp
          refine hK _ ?_
          clear hK K
          refine tree_done ?_
          go_wp2_with fail
          go_meet
          exact ⟨rfl, rfl, rfl, hW19⟩
      · refine tree_e rfl rfl (fun K hK => ?_)
        go_wp2_with fail
        try go_simp
        refine hK _ _ (gr_alloc (gr_trans hgW1 hg3) _) ?_
        clear hK K
        obtain ⟨w8, hw8⟩ : ∃ x, x = (w3).alloc (.cells [.int .i64 st.x, .int .i64 st.y].toArray 29) := ⟨_, rfl⟩
        have hg8 : (w3).grownBy w8 none := by rw [hw8]; exact gr_alloc (World.grownBy.refl _ _) _
        have hb8 : Box w8 (w3).heap.size 29 [.int .i64 st.x, .int .i64 st.y] := by rw [hw8]; exact Box.new _ _ _
        rw [← hw8]
        clear hw8
        have hsl8 := hb8.sl (l := [st]) ⟨_, _, rfl, rfl, rfl⟩ (Nat.zero_le _) (by simp [maxLen])
        refine tree_e rfl rfl (fun K hK => ?_)
        go_wp2_with fail
        refine (pointFaultW_any _ 2 2 [a, b] rfl w8 (hsl3.pure hg8)).mono ?_
        rintro e w4 ⟨rfl, hg4⟩
        have hW4 : v11.grownBy w4 none := gr_trans (gr_trans hgW1 (gr_trans hg3 hg8)) hg4
        rw [← hPF.out]
        go_wp2_with fail
        try go_simp
        refine hK _ _ (hW4) ?_
        clear hK K
        refine tree_e rfl rfl (fun K hK => ?_)
        go_wp2_with fail
        try go_simp
        refine hK _ _ (gr_alloc (gr_trans hgW1 (gr_trans (gr_trans hg3 hg8) hg4)) _) ?_
        clear hK K
        obtain ⟨w5, hw5⟩ : ∃ x, x = (w4).alloc (.cells [.int .i64 F, .int .i64 PF].toArray 36) := ⟨_, rfl⟩
        have hg5 : (w4).grownBy w5 none := by rw [hw5]; exact gr_alloc (World.grownBy.refl _ _) _
        have hb5 : Box w5 (w4).heap.size 36 [.int .i64 F, .int .i64 PF] := by rw [hw5]; exact Box.new _ _ _
        rw [← hw5]
        clear hw5
        have hsl5 := hb5.sl (l := [F, PF]) ⟨_, _, rfl, rfl, _, [], rfl, rfl, rfl⟩ (Nat.zero_le _) (by simp [maxLen])
        refine tree_e rfl rfl (fun K hK => ?_)
        go_wp2_with fail
        refine (or_any _ 2 2 [F, PF] w5 (hsl5.pure (World.grownBy.refl _ _)) rfl).mono ?_
        rintro e w6 ⟨rfl, hw6⟩
        have hg6 : (w5).grownBy w6 none := by rw [← hw6]; exact World.grownBy.refl _ _
        clear hw6
        have hW6 : v11.grownBy w6 none := gr_trans (gr_trans hgW1 (gr_trans (gr_trans (gr_trans hg3 hg8) hg4) hg5)) hg6
        rw [hone.out]
        go_wp2_with fail
        try go_simp
        refine hK _ _ (hW6) ?_
        clear hK K
        refine tree_e0 (by kernel_rfl) rfl rfl (fun K hK => ?_)
        go_wp2_with fail
        refine (pointFaultW_any _ 1 1 [st] rfl w6 (hsl8.pure (gr_trans (gr_trans hg4 hg5) hg6))).mono ?_
        rintro e w9 ⟨rfl, hg9⟩
        rw [← hSF.out]
        go_wp2_with fail
        try go_simp
        refine hK _ _ trivial ?_
        clear hK K
        refine tree_e0 (by kernel_rfl) rfl rfl (fun K hK => ?_)
        go_wp2_with fail
        refine (orderFaultRef_any A2 c2 p A3 c3 o w9 (hp.pure (gr_trans hgW1 (gr_trans (gr_trans (gr_trans (gr_trans (gr_trans hg3 hg8) hg4) hg5) hg6) hg9))) (hO.pure (gr_trans hgW1 (gr_trans (gr_trans (gr_trans (gr_trans (gr_trans hg3 hg8) hg4) hg5) hg6) hg9))) hcp).mono ?_
        rintro e w13 ⟨rfl, hg13⟩
        rw [← hOF.out]
        go_wp2_with fail
        try go_simp
        refine hK _ _ trivial ?_
        clear hK K
        refine tree_e0 (by kernel_rfl) rfl rfl (fun K hK => ?_)
        go_wp2_with fail
        refine (spanFault_any free 0 1000000 w13).mono ?_
        rintro e w15 ⟨rfl, hw15⟩
        have hg15 : (w13).grownBy w15 none := by rw [← hw15]; exact World.grownBy.refl _ _
        clear hw15
        rw [← hFF.out]
        go_wp2_with fail
        try go_simp
        refine hK _ _ trivial ?_
        clear hK K
        refine tree_e0 (by kernel_rfl) rfl rfl (fun K hK => ?_)
        go_wp2_with fail
        try go_simp
        refine hK _ _ trivial ?_
        clear hK K
        obtain ⟨w16, hw16⟩ : ∃ x, x = (w15).alloc (.cells [.int .i64 SF, .int .i64 F, .int .i64 OF, .int .i64 FF].toArray 36) := ⟨_, rfl⟩
        have hg16 : (w15).grownBy w16 none := by rw [hw16]; exact gr_alloc (World.grownBy.refl _ _) _
        have hb16 : Box w16 (w15).heap.size 36 [.int .i64 SF, .int .i64 F, .int .i64 OF, .int .i64 FF] := by rw [hw16]; exact Box.new _ _ _
        rw [← hw16]
        clear hw16
        have hsl16 := hb16.sl (l := [SF, F, OF, FF]) ⟨_, _, rfl, rfl, _, _, rfl, rfl, _, _, rfl, rfl, _, [], rfl, rfl, rfl⟩ (Nat.zero_le _) (by simp [maxLen])
        refine tree_e0 (by kernel_rfl) rfl rfl (fun K hK => ?_)
        go_wp2_with fail
        refine (or_any _ 4 4 [SF, F, OF, FF] w16 (hsl16.pure (World.grownBy.refl _ _)) rfl).mono ?_
        rintro e w17 ⟨rfl, hw17⟩
        have hg17 : (w16).grownBy w17 none := by rw [← hw17]; exact World.grownBy.refl _ _
        clear hw17
        rw [htwo.out]
        go_wp2_with fail
        try go_simp
        refine hK _ _ trivial ?_
        clear hK K
        refine tree_e0 (by kernel_rfl) rfl rfl (fun K hK => ?_)
        go_wp2_with fail
        refine (pathsFaultRef_any A2 c2 p w17 (hp.pure (gr_trans hgW1 (gr_trans (gr_trans (gr_trans (gr_trans (gr_trans (gr_trans (gr_trans (gr_trans (gr_trans hg3 hg8) hg4) hg5) hg6) hg9) hg13) hg15) hg16) hg17)))).mono ?_
        rintro e w19 ⟨rfl, hg19⟩
        have hW19 : v11.grownBy w19 none := gr_trans (gr_trans hgW1 (gr_trans (gr_trans (gr_trans (gr_trans (gr_trans (gr_trans (gr_trans (gr_trans (gr_trans hg3 hg8) hg4) hg5) hg6) hg9) hg13) hg15) hg16) hg17)) hg19
        rw [← hCF.out]
        go_wp2_with fail
        try go_simp
        refine hK _ _ trivial ?_
        clear hK K
        refine tree_p rfl rfl rfl rfl _ rfl (by simp) (fun K hK => ?_)
        apply Exists.intro
        refine ⟨fun wq K' hK' => ?_, ?_⟩
        · go_wp2_with fail
          exact hK'
        go_simp
        refine hK _ ?_
        clear hK K
        refine tree_p rfl rfl rfl rfl _ rfl (by simp) (fun K hK => ?_)
        apply Exists.intro
        refine ⟨fun wq K' hK' => ?_, ?_⟩
        · go_wp2_with fail
          exact hK'
        go_simp
        refine hK _ ?_
        clear hK K
        refine tree_p rfl rfl rfl rfl _ rfl (by simp) (fun K hK => ?_)
        apply Exists.intro
        refine ⟨fun wq K' hK' => ?_, ?_⟩
        · go_wp2_with fail
          exact hK'
        go_simp
        refine hK _ ?_
        clear hK K
        refine tree_done ?_
        go_wp2_with fail
        go_meet
        exact ⟨rfl, rfl, rfl, hW19⟩
    · refine tree_e rfl rfl (fun K hK => ?_)
      go_wp2_with fail
      try go_simp
      refine hK _ _ (gr_alloc (gr_trans hgW1 (World.grownBy.refl _ _)) _) ?_
      clear hK K
      obtain ⟨w8, hw8⟩ : ∃ x, x = (W1).alloc (.cells [.int .i64 st.x, .int .i64 st.y].toArray 29) := ⟨_, rfl⟩
      have hg8 : (W1).grownBy w8 none := by rw [hw8]; exact gr_alloc (World.grownBy.refl _ _) _
      have hb8 : Box w8 (W1).heap.size 29 [.int .i64 st.x, .int .i64 st.y] := by rw [hw8]; exact Box.new _ _ _
      rw [← hw8]
      clear hw8
      have hsl8 := hb8.sl (l := [st]) ⟨_, _, rfl, rfl, rfl⟩ (Nat.zero_le _) (by simp [maxLen])
      refine tree_e rfl rfl (fun K hK => ?_)
      go_wp2_with fail
      try go_simp
      refine hK _ _ (gr_alloc (gr_trans hgW1 hg8) _) ?_
      clear hK K
      obtain ⟨w3, hw3⟩ : ∃ x, x = (w8).alloc (.cells [.int .i64 a.x, .int .i64 a.y, .int .i64 b.x, .int .i64 b.y].toArray 29) := ⟨_, rfl⟩
      have hg3 : (w8).grownBy w3 none := by rw [hw3]; exact gr_alloc (World.grownBy.refl _ _) _
      have hb3 : Box w3 (w8).heap.size 29 [.int .i64 a.x, .int .i64 a.y, .int .i64 b.x, .int .i64 b.y] := by rw [hw3]; exact Box.new _ _ _
      rw [← hw3]
      clear hw3
      have hsl3 := hb3.sl (l := [a, b]) ⟨_, _, rfl, rfl, _, [], rfl, rfl, rfl⟩ (Nat.zero_le _) (by simp [maxLen])
      refine tree_e rfl rfl (fun K hK => ?_)
      go_wp2_with fail
      refine (pointFaultW_any _ 2 2 [a, b] rfl w3 (hsl3.pure (World.grownBy.refl _ _))).mono ?_
      rintro e w4 ⟨rfl, hg4⟩
      have hW4 : v11.grownBy w4 none := gr_trans (gr_trans hgW1 (gr_trans hg8 hg3)) hg4
      rw [← hPF.out]
      go_wp2_with fail
      try go_simp
      refine hK _ _ (hW4) ?_
      clear hK K
      refine tree_e rfl rfl (fun K hK => ?_)
      go_wp2_with fail
      try go_simp
      refine hK _ _ (gr_alloc (gr_trans hgW1 (gr_trans (gr_trans hg8 hg3) hg4)) _) ?_
      clear hK K
      obtain ⟨w5, hw5⟩ : ∃ x, x = (w4).alloc (.cells [.int .i64 F, .int .i64 PF].toArray 36) := ⟨_, rfl⟩
      have hg5 : (w4).grownBy w5 none := by rw [hw5]; exact gr_alloc (World.grownBy.refl _ _) _
      have hb5 : Box w5 (w4).heap.size 36 [.int .i64 F, .int .i64 PF] := by rw [hw5]; exact Box.new _ _ _
      rw [← hw5]
      clear hw5
      have hsl5 := hb5.sl (l := [F, PF]) ⟨_, _, rfl, rfl, _, [], rfl, rfl, rfl⟩ (Nat.zero_le _) (by simp [maxLen])
      refine tree_e rfl rfl (fun K hK => ?_)
      go_wp2_with fail
      refine (or_any _ 2 2 [F, PF] w5 (hsl5.pure (World.grownBy.refl _ _)) rfl).mono ?_
      rintro e w6 ⟨rfl, hw6⟩
      have hg6 : (w5).grownBy w6 none := by rw [← hw6]; exact World.grownBy.refl _ _
      clear hw6
      have hW6 : v11.grownBy w6 none := gr_trans (gr_trans hgW1 (gr_trans (gr_trans (gr_trans hg8 hg3) hg4) hg5)) hg6
      rw [hone.out]
      go_wp2_with fail
      try go_simp
      refine hK _ _ (hW6) ?_
      clear hK K
      refine tree_e0 (by kernel_rfl) rfl rfl (fun K hK => ?_)
      go_wp2_with fail
      refine (pointFaultW_any _ 1 1 [st] rfl w6 (hsl8.pure (gr_trans (gr_trans (gr_trans hg3 hg4) hg5) hg6))).mono ?_
      rintro e w9 ⟨rfl, hg9⟩
      rw [← hSF.out]
      go_wp2_with fail
      try go_simp
      refine hK _ _ trivial ?_
      clear hK K
      refine tree_e0 (by kernel_rfl) rfl rfl (fun K hK => ?_)
      go_wp2_with fail
      refine (orderFaultRef_any A2 c2 p A3 c3 o w9 (hp.pure (gr_trans hgW1 (gr_trans (gr_trans (gr_trans (gr_trans (gr_trans hg8 hg3) hg4) hg5) hg6) hg9))) (hO.pure (gr_trans hgW1 (gr_trans (gr_trans (gr_trans (gr_trans (gr_trans hg8 hg3) hg4) hg5) hg6) hg9))) hcp).mono ?_
      rintro e w13 ⟨rfl, hg13⟩
      rw [← hOF.out]
      go_wp2_with fail
      try go_simp
      refine hK _ _ trivial ?_
      clear hK K
      refine tree_e0 (by kernel_rfl) rfl rfl (fun K hK => ?_)
      go_wp2_with fail
      refine (spanFault_any free 0 1000000 w13).mono ?_
      rintro e w15 ⟨rfl, hw15⟩
      have hg15 : (w13).grownBy w15 none := by rw [← hw15]; exact World.grownBy.refl _ _
      clear hw15
      rw [← hFF.out]
      go_wp2_with fail
      try go_simp
      refine hK _ _ trivial ?_
      clear hK K
      refine tree_e0 (by kernel_rfl) rfl rfl (fun K hK => ?_)
      go_wp2_with fail
      try go_simp
      refine hK _ _ trivial ?_
      clear hK K
      obtain ⟨w16, hw16⟩ : ∃ x, x = (w15).alloc (.cells [.int .i64 SF, .int .i64 F, .int .i64 OF, .int .i64 FF].toArray 36) := ⟨_, rfl⟩
      have hg16 : (w15).grownBy w16 none := by rw [hw16]; exact gr_alloc (World.grownBy.refl _ _) _
      have hb16 : Box w16 (w15).heap.size 36 [.int .i64 SF, .int .i64 F, .int .i64 OF, .int .i64 FF] := by rw [hw16]; exact Box.new _ _ _
      rw [← hw16]
      clear hw16
      have hsl16 := hb16.sl (l := [SF, F, OF, FF]) ⟨_, _, rfl, rfl, _, _, rfl, rfl, _, _, rfl, rfl, _, [], rfl, rfl, rfl⟩ (Nat.zero_le _) (by simp [maxLen])
      refine tree_e0 (by kernel_rfl) rfl rfl (fun K hK => ?_)
      go_wp2_with fail
      refine (or_any _ 4 4 [SF, F, OF, FF] w16 (hsl16.pure (World.grownBy.refl _ _)) rfl).mono ?_
      rintro e w17 ⟨rfl, hw17⟩
      have hg17 : (w16).grownBy w17 none := by rw [← hw17]; exact World.grownBy.refl _ _
      clear hw17
      rw [htwo.out]
      go_wp2_with fail
      try go_simp
      refine hK _ _ trivial ?_
      clear hK K
      refine tree_e0 (by kernel_rfl) rfl rfl (fun K hK => ?_)
      go_wp2_with fail
      refine (pathsFaultRef_any A2 c2 p w17 (hp.pure (gr_trans hgW1 (gr_trans (gr_trans (gr_trans (gr_trans (gr_trans (gr_trans (gr_trans (gr_trans (gr_trans hg8 hg3) hg4) hg5) hg6) hg9) hg13) hg15) hg16) hg17)))).mono ?_
      rintro e w19 ⟨rfl, hg19⟩
      have hW19 : v11.grownBy w19 none := gr_trans (gr_trans hgW1 (gr_trans (gr_trans (gr_trans (gr_trans (gr_trans (gr_trans (gr_trans (gr_trans (gr_trans hg8 hg3) hg4) hg5) hg6) hg9) hg13) hg15) hg16) hg17)) hg19
      rw [← hCF.out]
      go_wp2_with fail
      try go_simp
      refine hK _ _ trivial ?_
      clear hK K
      refine tree_p rfl rfl rfl rfl _ rfl (by simp) (fun K hK => ?_)
      apply Exists.intro
      refine ⟨fun wq K' hK' => ?_, ?_⟩
      · go_wp2_with fail
        exact hK'
      go_simp
      refine hK _ ?_
      clear hK K
      refine tree_p rfl rfl rfl rfl _ rfl (by simp) (fun K hK => ?_)
      apply Exists.intro
      refine ⟨fun wq K' hK' => ?_, ?_⟩
      · go_wp2_with fail
        exact hK'
      go_simp
      refine hK _ ?_
      clear hK K
      refine tree_p rfl rfl rfl rfl _ rfl (by simp) (fun K hK => ?_)
      apply Exists.intro
      refine ⟨fun wq K' hK' => ?_, ?_⟩
      · go_wp2_with fail
        exact hK'
      go_simp
      refine hK _ ?_
      clear hK K
      refine tree_done ?_
      go_wp2_with fail
      go_meet
      exact ⟨rfl, rfl, rfl, hW19⟩
  case rest =>
  obtain ⟨rfl, rfl, rfl, g12⟩ := hcut
  rename World => v12
  replace b5 := b5.pure g12
  replace b6 := b6.pure g12
  replace b7 := b7.pure g12
  clear p0 p1 q0 q1 r0 r1 hone htwo
  obtain ⟨p0, -⟩ := b5.c 0 rfl
  obtain ⟨p1, -⟩ := b5.c 1 rfl
  obtain ⟨q0, -⟩ := b6.c 0 rfl
  obtain ⟨q1, -⟩ := b6.c 1 rfl
  go_upto_if 87 with fail
  go_cut [21] (fun s21 wx => s21 = .int .i64 m1 ∧ v12.grownBy wx none)
  case first =>
    by_cases hz : e1 = 0
    · have hz2 : meetsE rs a b = 0 := by rw [← he1.out]; exact hz
      obtain ⟨h1, h2, h3⟩ := meetsE_zero hz2
      have hm : Hid (metF rs a b = m1) := by rw [Hid, hm1.out]; unfold meetsN; rw [if_pos hz2]
      have hMO := meetsOf_any R0 rc rs a b v12 (hR.pure g12) (rings_ok h1).1 (rings_ok h1).2 (far_bd h2) (far_bd h3)
      rw [hm.out] at hMO
      have hb : (e1 == 0) = true := by simp [hz]
      clear hz hz2 h1 h2 h3 hm
      go_wp2_with fail
      refine hMO.mono ?_
      rintro e w13 ⟨rfl, hg13⟩
      go_wp2_with fail
      go_meet
      exact ⟨rfl, hg13⟩
    · have hb : (e1 == 0) = false := by simp [hz]
      have hm : Hid (0 = m1) := by rw [Hid, hm1.out]; unfold meetsN; rw [if_neg (by rw [← he1.out]; exact hz)]
      clear hz
      go_wp2_with fail
      go_meet
      exact ⟨by rw [← hm.out], World.grownBy.refl _ _⟩
  case rest =>
  obtain ⟨rfl, g13⟩ := hcut
  rename World => v13
  have g13' := g13
  replace g13 := g12.t g13
  clear p0 p1 q0 q1
  clear b5 b6 hm1
  obtain ⟨r0, -⟩ := (b7.pure g13').c 0 rfl
  obtain ⟨r1, -⟩ := (b7.pure g13').c 1 rfl
  go_upto_if 93 with fail
  go_cut [22] (fun s22 wx => ∃ (A6 : Option Addr) (c6 : Nat), s22 = .slice A6 K2.length c6 ∧ Sl wx 0 A6 K2 ∧ v13.grownBy wx none)
  case first =>
    by_cases hz : e2 = 0
    · have hz2 : retrE rs p o st free = 0 := by rw [← he2.out]; exact hz
      obtain ⟨h1, h2, h3, h4⟩ := retrE_zero hz2
      have hm : Hid (retW rs p st o free o.length = K2) := by rw [Hid, hK2.out]; unfold retK; rw [if_pos hz2]
      have hMO := retrWRef_any A2 c2 p A3 c3 o st free R0 rc rs v13 (hR.pure g13) h2 hfl (hp.pure g13) (hO.pure g13) (near_of h1) h1 h3 h4
      rw [hm.out] at hMO
      have hb : (e2 == 0) = true := by simp [hz]
      clear hz hz2 h1 h2 h3 h4 hm
      go_wp2_with fail
      refine hMO.mono ?_
      rintro e w14 ⟨A6, c6, rfl, hO6, hg14⟩
      go_wp2_with fail
      go_meet
      exact ⟨A6, c6, rfl, hO6.sl.mono (Nat.zero_le _), hg14⟩
    · have hb : (e2 == 0) = false := by simp [hz]
      have hm : Hid (K2 = []) := by rw [Hid, hK2.out]; unfold retK; rw [if_neg (by rw [← he2.out]; exact hz)]
      clear hz
      go_wp2_with fail
      go_meet
      exact ⟨none, 0, by rw [hm.out]; rfl, by rw [hm.out]; exact Sl.nil, World.grownBy.refl _ _⟩
  case rest =>
  obtain ⟨A6, c6, rfl, hK6, g14⟩ := hcut
  rename World => v14
  have g14' := g13.t g14
  clear r0 r1 b7 hK2
  go_upto_if 101 with fail
  go_cut [20, 23] (fun s20 s23 wx => ∃ (A7 : Option Addr) (c7 : Nat), s20 = .int .i64 e3 ∧ s23 = .slice A7 K3.length c7 ∧ Sl wx 0 A7 K3 ∧ v14.grownBy wx none)
  case first =>
    by_cases hz : CF = 0
    · have hz2 : pathsF p = 0 := by rw [← hCF.out]; exact hz
      have hm : Hid (chRes p = K3) := by rw [Hid, hK3.out]; unfold chK; rw [if_pos hz2]
      have hm2 : Hid (pathsF (chainN p.length p) = e3) := by rw [Hid, he3.out]; unfold chE; rw [if_pos hz2]
      have hMO := chainedOf_any A2 c2 p v14 (hp.pure g14') hz2
      rw [hm.out, hm2.out] at hMO
      have hb : (CF == 0) = true := by simp [hz]
      clear hz hz2 hm hm2
      go_wp2_with fail
      refine hMO.mono ?_
      rintro e w15 ⟨A7, c7, rfl, hS7, hg15⟩
      go_wp2_with fail
      go_meet
      exact ⟨A7, c7, rfl, rfl, hS7, hg15⟩
    · have hb : (CF == 0) = false := by simp [hz]
      have hn : ¬ pathsF p = 0 := by rw [← hCF.out]; exact hz
      have hm : Hid (K3 = []) := by rw [Hid, hK3.out]; unfold chK; rw [if_neg hn]
      have hm2 : Hid (CF = e3) := by rw [Hid, he3.out, hCF.out]; unfold chE; rw [if_neg hn]
      clear hz hn
      go_wp2_with fail
      go_meet
      exact ⟨none, 0, by rw [hm2.out], by rw [hm.out]; rfl, by rw [hm.out]; exact Sl.nil, World.grownBy.refl _ _⟩
  case rest =>
  obtain ⟨A7, c7, rfl, rfl, hK7, g15⟩ := hcut
  rename World => v15
  have g15' := g14'.t g15
  have hE1 : (e1 == e1) = true := by simp
  have hE2 : (e2 == e2) = true := by simp
  have hE3 : (e3 == e3) = true := by simp
  have hE4 : (m1 == m1) = true := by simp
  have hEq := equalInts_any A4 A6 c4 c6 K2 K2 v15 (hK11.pure g15') (hK6.pure g15)
  rw [eqB_refl] at hEq
  go_wp2_with fail
  refine hEq.mono ?_
  rintro e v16 ⟨rfl, h16⟩
  have g16 := g15'.t h16
  go_wp2_with fail
  refine (samePaths_same A5 c5 K3 A7 c7 _ (hCk.pure g16) (hK7.pure h16)).mono ?_
  rintro e v17 ⟨rfl, h17⟩
  go_wp2_with fail
  refine (pathed_any _).mono ?_
  rintro e v18 ⟨rfl, h18⟩
  go_wp2_with fail
  go_ret
  exact ⟨rfl, hgT2.out.t (g16.t (h17.t h18))⟩

end Go.Proofs.YtmhnjpcjagbdhaaGreat

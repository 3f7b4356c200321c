/- Contracts of functions that this seat's laws reach, each: what one call returns and what it leaves in memory; no condition beyond each theorem's own hypotheses. -/
import Derived.Test.YtjodjdjfagjiaaaQ5
import Derived.Test.YtjodjdjfagjiaaaQ1
import Derived.StillTailTactics
import Derived.Test.YtjodjdjfagjiaaaQ3
set_option linter.unusedVariables false
set_option linter.unusedSimpArgs false
namespace Go.Proofs.Ytjodjdjfagjiaaa
open Go.RowKit Go.Bl

set_option maxHeartbeats 400000 in
theorem usedCl_any (i gc : Nat) (f : Fc) (w : World) (hp : w.cell? ⟨gc, 0, none⟩ = some (.int .i64 i)) :
    Calls Try.prog 105 #[.agg #[.int .i64 f.a, .int .i64 f.b, .int .i64 f.c], .pointer (some ⟨gc, 0, none⟩)] w fun e w' => e = .returned (.bool (hasI i f)) ∧ w.grownBy w' none := by
  have hlt := cell_lt hp
  simp only at hlt
  have hne : gc ≠ w.heap.size := by omega
  have hv : hasI i f = (f.a == (i : Int) || f.b == (i : Int) || f.c == (i : Int)) := rfl
  generalize hasI i f = r at *
  subst hv
  by_cases h1 : f.a = (i : Int)
  · have b1 : (f.a == (i : Int)) = true := by simp [h1]
    rw [b1]
    replace h1 := hide h1
    go_enter Try.func105, Try.ntmps105
    go_wp2
    go_ret
    exact ⟨rfl, (by repeat (first | exact World.grownBy.refl _ _ | assumption | refine gr_alloc ?_ _ | (apply gr_tail; assumption) | refine gr_drewN ?_ _ | refine gr_drew ?_))⟩
  · have b1 : (f.a == (i : Int)) = false := by simp [h1]
    replace h1 := hide h1
    by_cases h2 : f.b = (i : Int)
    · have b2 : (f.b == (i : Int)) = true := by simp [h2]
      rw [b1, b2]
      replace h2 := hide h2
      go_enter Try.func105, Try.ntmps105
      go_wp2
      go_ret
      exact ⟨rfl, (by repeat (first | exact World.grownBy.refl _ _ | assumption | refine gr_alloc ?_ _ | (apply gr_tail; assumption) | refine gr_drewN ?_ _ | refine gr_drew ?_))⟩
    · have b2 : (f.b == (i : Int)) = false := by simp [h2]
      replace h2 := hide h2
      rw [b1, b2]
      go_enter Try.func105, Try.ntmps105
      go_wp2
      go_ret
      exact ⟨rfl, (by repeat (first | exact World.grownBy.refl _ _ | assumption | refine gr_alloc ?_ _ | (apply gr_tail; assumption) | refine gr_drewN ?_ _ | refine gr_drew ?_))⟩

set_option maxHeartbeats 800000 in
set_option maxRecDepth 100000 in
theorem indexUsed_any (q gc : Nat) (A : Option Addr) (c : Nat) (l : List Fc) (w : World) (hl : Sl w 0 A l) (hp : w.cell? ⟨gc, 0, none⟩ = some (.int .i64 (q : Nat))) :
    Calls Try.prog 108 #[.slice A l.length c, .func (.func 105) #[] #[.pointer (some ⟨gc, 0, none⟩)]] w fun e w' => ∃ r : Int, e = .returned (.int .i64 r) ∧ decide (0 ≤ r) = l.any (hasI q) ∧ w.grownBy w' none := by
  have hm := hl.1
  unfold maxLen at hm
  go_enter Try.func108, Try.ntmps108
  go_wp2
  go_loopw [8] (fun i wr => ∃ k : Nat, k ≤ l.length ∧ i = .int .i64 k ∧ w.grownBy wr none ∧ Hid ((l.take k).any (hasI q) = false)) (fun i _ => l.length - (intOf i).toNat)
  case atStart => exact ⟨0, Nat.zero_le _, rfl, World.grownBy.refl _ _, by simp [Hid]⟩
  case round =>
    obtain ⟨k, hk, rfl, hg, hall⟩ := hrel
    by_cases hlt : k < l.length
    · obtain ⟨g, o, cx, rfl, hb0, hb1, rfl, hc⟩ := (hl.pure hg).at_ (by decide) hlt
      have v0 : wr.cell? ⟨g, o + k * 3, none⟩ = some (.int .i64 l[k].a) := hc 0 _ rfl
      have v1 : wr.cell? ⟨g, o + k * 3 + 1, none⟩ = some (.int .i64 l[k].b) := hc 1 _ rfl
      have v2 : wr.cell? ⟨g, o + k * 3 + 2, none⟩ = some (.int .i64 l[k].c) := hc 2 _ rfl
      clear hc
      have HS : Hid ((l.take (k + 1)).any (hasI q) = ((l.take k).any (hasI q) || (hasI q) l[k])) := by rw [Hid, take_snoc hlt, List.any_append]; simp
      have HA : Hid ((hasI q) l[k] = true → l.any (hasI q) = true) := fun h => List.any_eq_true.2 ⟨_, List.getElem_mem _, h⟩
      have hmem := List.getElem_mem hlt
      have hp' := hg.k hp
      generalize l[k] = f at *
      obtain ⟨bb, hbb⟩ : ∃ bb, (hasI q) f = bb := ⟨_, rfl⟩
      have hcon := usedCl_any q gc f wr hp'
      simp only [hbb] at hcon HS HA
      replace hcon := hide hcon
      replace hbb := hide hbb
      replace HS := hide HS
      replace HA := hide HA
      replace hmem := hide hmem
      go_wp2_with fail
      refine (hcon.out).mono ?_
      rintro e w' ⟨rfl, hg'⟩
      cases bb
      · go_wp2_with fail
        (go_roundw; (case rel => exact ⟨k + 1, by omega, by go_num, gr_trans hg hg', by rw [Hid, HS.out, hall.out]; rfl⟩); (case measure => simp [intOf]; omega))
      · have HB := hide (HA.out rfl)
        go_wp2_with fail
        go_ret
        exact ⟨k, rfl, by rw [HB.out]; simp, gr_trans hg hg'⟩
    · have HB : Hid (l.any (hasI q) = false) := by have := hall.out; rwa [List.take_of_length_le (by omega)] at this
      go_wp2
      go_ret
      exact ⟨-1, rfl, by rw [HB.out]; rfl, hg⟩

set_option maxHeartbeats 400000 in
theorem containsUsed_any (q gc : Nat) (A : Option Addr) (c : Nat) (l : List Fc) (w : World) (hl : Sl w 0 A l) (hp : w.cell? ⟨gc, 0, none⟩ = some (.int .i64 (q : Nat))) :
    Calls Try.prog 104 #[.slice A l.length c, .func (.func 105) #[] #[.pointer (some ⟨gc, 0, none⟩)]] w fun e w' => e = .returned (.bool (l.any (hasI q))) ∧ w.grownBy w' none := by
  go_enter Try.func104, Try.ntmps104
  go_wp2_with fail
  refine (indexUsed_any _ _ _ _ _ _ hl (by assumption)).mono ?_
  rintro e w1 ⟨r, rfl, hr, hg⟩
  replace hr := hide hr
  go_wp2_with fail
  go_ret
  exact ⟨ret_bool hr.out, hg⟩

/-- the new numbers behind k rounds, as a map -/
def atK (vs : List V3) (U : List Bool) (k : Nat) : Int → Option Int := fun z => if 0 ≤ z ∧ z < k ∧ U.getD z.toNat false = true then some (rkI vs U z.toNat) else none
theorem atK_zero (vs : List V3) (U : List Bool) : (fun _ => none) = atK vs U 0 := by funext z; unfold atK; rw [if_neg (by omega)]
theorem atK_yes {vs : List V3} {U : List Bool} {k : Nat} (hu : k < U.length) (h : U[k] = true) : (fun z => if z = (k : Int) then some (((keepTo vs U k).length : Nat) : Int) else atK vs U k z) = atK vs U (k + 1) := by
  funext z
  unfold atK
  by_cases e : z = (k : Int)
  · subst e
    rw [if_pos rfl, if_pos ⟨by omega, by omega, by rw [Int.toNat_natCast, List.getD_eq_getElem?_getD, List.getElem?_eq_getElem hu, Option.getD_some, h]⟩]
    rfl
  · rw [if_neg e]
    by_cases h1 : 0 ≤ z ∧ z < k ∧ U.getD z.toNat false = true
    · rw [if_pos h1, if_pos ⟨h1.1, by omega, h1.2.2⟩]
    · rw [if_neg h1, if_neg (fun h2 => h1 ⟨h2.1, by omega, h2.2.2⟩)]
theorem atK_no {vs : List V3} {U : List Bool} {k : Nat} (hu : k < U.length) (h : U[k] = false) : atK vs U k = atK vs U (k + 1) := by
  funext z
  unfold atK
  by_cases e : z = (k : Int)
  · subst e
    rw [if_neg (by omega), if_neg (fun h2 => by
      have := h2.2.2
      rw [Int.toNat_natCast, List.getD_eq_getElem?_getD, List.getElem?_eq_getElem hu, Option.getD_some, h] at this
      cases this)]
  · by_cases h1 : 0 ≤ z ∧ z < k ∧ U.getD z.toNat false = true
    · rw [if_pos h1, if_pos ⟨h1.1, by omega, h1.2.2⟩]
    · rw [if_neg h1, if_neg (fun h2 => h1 ⟨h2.1, by omega, h2.2.2⟩)]
theorem atK_get {vs : List V3} {fs : List Fc} {f : Fc} (hf : f ∈ fs) {i : Nat} (hi : i < vs.length) (h : f.a = i ∨ f.b = i ∨ f.c = i) : (atK vs (useL vs.length fs) vs.length i).getD 0 = rkI vs (useL vs.length fs) i := by
  unfold atK
  rw [if_pos ⟨by omega, by omega, by rw [Int.toNat_natCast]; exact useL_hit hf hi h⟩, Int.toNat_natCast]; rfl

theorem rkI_ok (vs : List V3) (U : List Bool) (k : Nat) (h : vs.length ≤ 1000) (hk : k ≤ vs.length) : okI (((keepTo vs U k).length : Nat) : Int) := okI_of (by have := keepTo_len vs U k; omega)

set_option maxHeartbeats 4000000 in
set_option maxRecDepth 100000 in
theorem usedRef_any (A : Option Addr) (c : Nat) (vs : List V3) (B : Option Addr) (d : Nat) (fs : List Fc) (w : World) (hl : Sl w 0 A vs) (hfs : Sl w 0 B fs) (hin : ∀ f ∈ fs, inF vs.length f = true) (hvl : vs.length ≤ 1000) (hfl : fs.length ≤ 2000) :
    Calls Try.prog 84 #[.agg #[.slice A vs.length c, .slice B fs.length d]] w fun e w' => ∃ A' c' B' d', e = .returned (.agg #[.slice A' (trimM ⟨vs, fs⟩).vs.length c', .slice B' (trimM ⟨vs, fs⟩).fs.length d']) ∧ Own w' w.heap.size 49 A' c' (trimM ⟨vs, fs⟩).vs ∧ Own w' w.heap.size 67 B' d' (trimM ⟨vs, fs⟩).fs ∧ w.grownBy w' none := by
  obtain ⟨W, hW⟩ : ∃ W, W = (w.alloc (.cells #[.slice A vs.length c, .slice B fs.length d] 29)).alloc (.cells #[.slice none 0 0, .slice none 0 0] 29) := ⟨_, rfl⟩
  have hWs : W.heap.size = w.heap.size + 1 + 1 := by rw [hW]; simp
  have hgW : w.grownBy W none := by rw [hW]; exact (by repeat (first | exact World.grownBy.refl _ _ | assumption | refine gr_alloc ?_ _ | (apply gr_tail; assumption) | refine gr_drewN ?_ _ | refine gr_drew ?_))
  have b0 : W.cell? ⟨w.heap.size, 0, none⟩ = some (.slice A vs.length c) := by rw [hW]; go_simp
  have b1 : W.cell? ⟨w.heap.size, 1, none⟩ = some (.slice B fs.length d) := by rw [hW]; go_simp
  have q0 : Cell W (w.heap.size + 1) 0 (.slice none 0 0) := by rw [hW]; exact ⟨by go_simp, by go_simp⟩
  have q1 : Cell W (w.heap.size + 1) 1 (.slice none 0 0) := by rw [hW]; exact ⟨by go_simp, by go_simp⟩
  have hmk := run_makeMap (P := Try.prog) 125 W
  have hM0 := MapOf.made intM W
  obtain ⟨W2, hW2⟩ : ∃ x, x = (W.alloc (.map #[] 0)).alloc (.cells #[.slice none 0 0, .slice none 0 0] 29) := ⟨_, rfl⟩
  have hg2 : W.grownBy W2 none := by rw [hW2]; exact (by repeat (first | exact World.grownBy.refl _ _ | assumption | refine gr_alloc ?_ _ | (apply gr_tail; assumption) | refine gr_drewN ?_ _ | refine gr_drew ?_))
  have hM2 : MapOf intM W2 W.heap.size 0 (fun _ => none) := by rw [hW2]; exact hM0.kept (row := none) (gr_alloc (World.grownBy.refl _ _) _) (by simp)
  have hO2 : Box W2 (W.heap.size + 1) 29 [.slice none 0 0, .slice none 0 0] := by
    have := Box.new (W.alloc (.map #[] 0)) [.slice none 0 0, .slice none 0 0] 29
    rw [hW2]
    simpa using this
  clear hM0
  replace hW := hide hW.symm
  replace hW2 := hide hW2.symm
  replace hWs := hide hWs
  replace q0 := hide q0
  replace q1 := hide q1
  replace hin := hide hin
  go_enter Try.func84, Try.ntmps84
  go_upto_region 1 with fail
  rw [hW.out]
  go_upto_region 3 with fail
  rw [hW2.out]
  clear hmk
  have hlt2 := hO2.lt
  have hgw2 := gr_trans hgW hg2
  have b0' := hg2.k b0
  have b1' := hg2.k b1
  generalize hgo : W.heap.size + 1 = go at *
  generalize hgm : W.heap.size = gm at *
  have hmo : gm < go := by omega
  have hwm : w.heap.size + 1 < gm := by have := hWs.out; omega
  have hWm : W.heap.size ≤ gm := by omega
  replace hgo := hide hgo
  replace hgm := hide hgm
  go_wp2_with fail
  obtain ⟨U, hU⟩ : ∃ U, U = useL vs.length fs := ⟨_, rfl⟩
  have hUl : U.length = vs.length := by rw [hU]; exact useL_len _ _
  have hUk : ∀ k (h : k < U.length), fs.any (hasI k) = U[k] := fun k h => by subst hU; rw [useL_at]
  replace hU := hide hU
  replace hUl := hide hUl
  replace hUk := hide hUk
  go_loopw [13] (fun i wr => ∃ (k : Nat) (A' : Option Addr) (c' : Nat), k ≤ vs.length ∧ i = .int .i64 k ∧ MapOf intM wr gm k (atK vs U k) ∧ Box wr go 29 [.slice A' (keepTo vs U k).length c', .slice none 0 0] ∧ Own wr (go + 1) 49 A' c' (keepTo vs U k) ∧ W.grownBy wr none) (fun i _ => vs.length - (intOf i).toNat)
  case atStart => exact ⟨0, none, 0, by omega, rfl, by rw [← atK_zero]; exact hM2, hO2, Own.nil _ _ _, hg2⟩
  case round =>
    obtain ⟨k, A', c', hk, rfl, hM, hO, hown, hg⟩ := hrel
    have hgw := gr_trans hgW hg
    have c0 := hg.k b0
    have c1 := hg.k b1
    have hgt := hO.lt
    have hlt0 : w.heap.size < wr.heap.size := cell_lt c0
    by_cases hlt : k < vs.length
    · obtain ⟨gv, ov, rfl, -, hbv, hcc⟩ := (hl.pure hgw).v3 (by omega)
      obtain ⟨x0, x1, x2⟩ := hcc k hlt
      clear hcc
      have hltU : k < U.length := by rw [hUl.out]; exact hlt
      have hcu := hUk.out k hltU
      have hq := gr_alloc (gr_alloc (World.grownBy.refl wr none) (.cells #[.int .i64 k] 3)) (.cells #[.int .i64 vs[k].x, .int .i64 vs[k].y, .int .i64 vs[k].z] 49)
      have hky := (keepTo_yes (vs := vs) (U := U) hlt hltU)
      have hkn := (keepTo_no (vs := vs) (U := U) (k := k) hltU)
      have hay := (atK_yes (vs := vs) (U := U) (k := k) hltU)
      have han := (atK_no (vs := vs) (U := U) (k := k) hltU)
      have hkl := keepTo_len vs U k
      have hcon := containsUsed_any k wr.heap.size B d fs _ (hfs.pure (gr_trans hgw hq)) (by go_simp)
      rw [hcu] at hcon
      generalize U[k] = bb at *
      generalize vs[k] = v at *
      replace hcu := hide hcu
      replace hky := hide hky
      replace hkn := hide hkn
      replace hay := hide hay
      replace han := hide han
      replace hcon := hide hcon
      go_wp2_with fail
      refine hcon.out.mono ?_
      rintro e w1 ⟨rfl, hg1⟩
      have hq1 := gr_trans hq hg1
      have hM1 := hide (hM.kept hq1 (by simp))
      have hO1 := hO.pure hq1
      have hown1 := hide (hown.pure hq1)
      have hg01 := gr_trans hg hq1
      have d0 := hq1.k x0
      have e0 : w1.cell? ⟨wr.heap.size, 0, none⟩ = some (.int .i64 k) := hg1.k (by go_simp)
      have e1 : w1.cell? ⟨wr.heap.size + 1, 0, none⟩ = some (.int .i64 v.x) := hg1.k (by go_simp)
      have e2 : w1.cell? ⟨wr.heap.size + 1, 1, none⟩ = some (.int .i64 v.y) := hg1.k (by go_simp)
      have e3 : w1.cell? ⟨wr.heap.size + 1, 2, none⟩ = some (.int .i64 v.z) := hg1.k (by go_simp)
      have hlt1 : wr.heap.size + 1 < w1.heap.size := cell_lt e1
      clear hcon hM hO hown hq1 hq hg1 d0
      obtain ⟨o0, p0⟩ := hO1.c 0 rfl
      obtain ⟨o1, p1⟩ := hO1.c 1 rfl
      cases bb
      · go_wp2_with fail
        (go_roundw; (case rel => exact ⟨k + 1, A', c', by omega, by go_num, by rw [← han.out (by simp)]; exact hM1.out.mono (by omega), by rw [hkn.out (by simp)]; exact hO1, by rw [hkn.out (by simp)]; exact hown1.out, hg01⟩); (case measure => simp [intOf]; omega))
      · replace hky := hide (hky.out (by simp))
        replace hay := hide (hay.out (by simp))
        clear hkn han
        have hgt1 := hO1.lt
        obtain ⟨KL, hKL⟩ : ∃ n, n = (keepTo vs U k).length := ⟨_, rfl⟩
        rw [← hKL] at o0 hO1 hkl
        have hok := rkI_ok vs U k hvl (by omega)
        rw [← hKL] at hok
        replace hKL := hide hKL
        go_upto_region 8 with (at_mapUpdate; refine wpList_store_M _ intM rfl (.tmp 22) (.tmp 23) (.tmp 26) _ rfl Try.underlying125 gm k _ rfl hM1.out (by simp [maxLen]; omega) (k : Int) (KL : Int) rfl rfl (okI_of (by omega)) hok ?_; intro w2 hM2 hg2)
        have hO2 := hO1.gr hg2 (by intro e; injection e; omega)
        obtain ⟨o0, p0⟩ := hO2.c 0 rfl
        obtain ⟨o1, p1⟩ := hO2.c 1 rfl
        replace e1 := gr_cell hg2 e1 (by intro e; injection e with e; simp only at e; omega)
        replace e2 := gr_cell hg2 e2 (by intro e; injection e with e; simp only at e; omega)
        replace e3 := gr_cell hg2 e3 (by intro e; injection e with e; simp only at e; omega)
        have hown2 := hown1.out.keep hg2 (fun g e => by injection e; omega)
        have hg02 : W.grownBy w2 none := gr_row hg01 hg2 (fun g e => by injection e; omega)
        have hgt2 := hO2.lt
        have hM3 : MapOf intM w2 gm (k + 1) (atK vs U (k + 1)) := by rw [← hay.out, ← hKL.out]; exact hM2
        clear hM2
        clear e0 hg01 hO1 hM1 hown1
        have hq2 := gr_alloc (World.grownBy.refl w2 none) (.cells #[.int .i64 v.x, .int .i64 v.y, .int .i64 v.z] 49)
        replace hown2 := hide hown2
        replace hM3 := hide hM3
        go_wp2_with (at_builtin; obtain ⟨i0, hi, hz, h1, h2⟩ := info_parts info_v3; refine wpList_pushAt (α := V3) _ rfl (.tmp 28) (.tmp 30) _ rfl (go + 1) 49 i0 _ 24 Try.underlying26 hi hz h1 h2 rfl _ _ _ (keepTo vs U k) rfl ?c1 (by exact (hown2.out.pure hq2)) 0 ⟨_, 0, none⟩ 1 1 [⟨v.x, v.y, v.z⟩] rfl rfl (by exact (sl_oneAt _ 0 _ _ _ _ (by first | rfl | simp) (Nat.zero_le _) rfl)) ?c2 ?c3 ?c4 ?_)
        case c1 => exact hKL.out
        case c2 => rw [← hKL.out]; simp; omega
        case c3 => rw [← hKL.out]; simp [maxLen]; omega
        case c4 => have := hq2.size; omega
        intro A5 c5 w5 hown5 hG5
        have hoq := hown2.out.pure hq2
        have hO5 := (hO2.pure hq2).gr hG5.1 ((hO2.pure hq2).ne_own hoq (by decide))
        have hg05 : W.grownBy w5 none := gr_row (gr_trans hg02 hq2) hG5.1 (fun x e => by have := (hoq.blk_lt e).1; omega)
        have hM5 := (hM3.out.kept hq2 (by simp)).kept hG5.1 (fun e => by have := (hoq.blk_lt e).1; omega)
        rw [show ([⟨v.x, v.y, v.z⟩] : List V3) = [v] from rfl, ← hky.out] at hown5
        obtain ⟨o0, p0⟩ := hO5.c 0 rfl
        obtain ⟨o1, p1⟩ := hO5.c 1 rfl
        have hO6 := hide (hO5.set_ 0 (.slice A5 (KL + 1) c5) (by simp))
        have hown6 := hide (hown5.set_other (i := 0) (.slice A5 (KL + 1) c5) (hO5.ne_own hown5 (by decide)))
        have hg06 := hide (gr_set hg05 (p := ⟨go, 0, none⟩) (.inr (by simp only; omega)) (.slice A5 (KL + 1) c5))
        have hM6 := hide (hM5.kept (gr_set (World.grownBy.refl w5 (some go)) (p := ⟨go, 0, none⟩) (.inl rfl) (.slice A5 (KL + 1) c5)) (by intro e; injection e; omega))
        have hkl1 : Hid ((keepTo vs U (k + 1)).length = KL + 1) := by rw [Hid, hky.out, List.length_append, ← hKL.out]; rfl
        clear hO5 hown5 hg05 hM5 hoq hG5
        try rw [← hKL.out]
        go_wp2_with fail
        (go_roundw; (case rel => exact ⟨k + 1, A5, c5, by omega, by go_num, hM6.out, by rw [hkl1.out]; exact hO6.out, hown6.out, hg06.out⟩); (case measure => simp [intOf]; omega))
    · have hkn : k = vs.length := by omega
      subst hkn
      go_upto_if 38 with fail
      obtain ⟨V, hV⟩ : ∃ V, V = keepTo vs U vs.length := ⟨_, rfl⟩
      rw [← hV] at hown hO
      obtain ⟨at_, hat⟩ : ∃ at_, at_ = atK vs U vs.length := ⟨_, rfl⟩
      rw [← hat] at hM
      have hget : ∀ f ∈ fs, ∀ i : Nat, i < vs.length → (f.a = i ∨ f.b = i ∨ f.c = i) → (at_ i).getD 0 = rkI vs U i := fun f hf i hi h => by rw [hat, hU.out]; exact atK_get hf hi h
      replace hget := hide hget
      replace hV := hide hV
      replace hat := hide hat
      clear hUk hgt hlt0 hgw c0
      obtain ⟨wc, rfl⟩ : ∃ x, x = wr := ⟨wr, rfl⟩
      go_loopw [37] (fun i wr => ∃ (k : Nat) (B' : Option Addr) (d' : Nat), k ≤ fs.length ∧ i = .int .i64 k ∧ MapOf intM wr gm vs.length at_ ∧ Box wr go 29 [.slice A' V.length c', .slice B' k d'] ∧ Own wr (go + 1) 49 A' c' V ∧ Own wr (go + 1) 67 B' d' ((fs.take k).map (renum vs U)) ∧ W.grownBy wr none) (fun i _ => fs.length - (intOf i).toNat)
      case atStart => exact ⟨0, none, 0, by omega, rfl, hM, hO, hown, Own.nil _ _ _, hg⟩
      case round =>
        clear hM hO hown hg c1
        obtain ⟨k, B', d', hk, rfl, hM, hO, hown, hF, hg⟩ := hrel
        have hgt := hO.lt
        have hgw := gr_trans hgW hg
        obtain ⟨o0, p0⟩ := hO.c 0 rfl
        obtain ⟨o1, p1⟩ := hO.c 1 rfl
        by_cases hlt : k < fs.length
        · obtain ⟨gf, of, rfl, -, hbf, hcc⟩ := (hfs.pure hgw).fc (by omega)
          obtain ⟨x0, x1, x2⟩ := hcc k hlt
          clear hcc
          have hmem := List.getElem_mem hlt
          have hfi := inF_bd (hin.out _ hmem)
          obtain ⟨ia, eia⟩ := Int.eq_ofNat_of_zero_le hfi.1.1
          obtain ⟨ib, eib⟩ := Int.eq_ofNat_of_zero_le hfi.2.1.1
          obtain ⟨ic, eic⟩ := Int.eq_ofNat_of_zero_le hfi.2.2.1
          have hia : ia < vs.length := by omega
          have hib : ib < vs.length := by omega
          have hic : ic < vs.length := by omega
          have ga := hget.out _ hmem ia hia (.inl eia)
          have gb := hget.out _ hmem ib hib (.inr (.inl eib))
          have gc := hget.out _ hmem ic hic (.inr (.inr eic))
          have he : (fs.take (k + 1)).map (renum vs U) = (fs.take k).map (renum vs U) ++ [(⟨rkI vs U ia, rkI vs U ib, rkI vs U ic⟩ : Fc)] := by
            rw [take_snoc hlt, List.map_append, List.map_singleton]
            unfold renum
            rw [eia, eib, eic]
            simp
          rw [eia] at x0
          rw [eib] at x1
          rw [eic] at x2
          generalize rkI vs U ia = ra at *
          generalize rkI vs U ib = rb at *
          generalize rkI vs U ic = rc at *
          obtain ⟨FL, hFL⟩ : ∃ FL, FL = (fs.take k).map (renum vs U) := ⟨_, rfl⟩
          rw [← hFL] at hF he
          have hFl : FL.length = k := by rw [hFL, List.length_map, List.length_take, Nat.min_eq_left hk]
          replace hFl := hide hFl
          clear hFL
          replace he := hide he
          clear hfi eia eib eic hmem
          replace hF := hide hF
          replace hown := hide hown
          have hq := gr_alloc (World.grownBy.refl wr none) (.cells #[.int .i64 ia, .int .i64 ib, .int .i64 ic] 67)
          have hM1 := hide (hM.kept hq (by simp))
          have hq2 := gr_alloc hq (.cells #[.int .i64 ra, .int .i64 rb, .int .i64 rc] 67)
          have za : okI (ia : Int) := okI_of (by omega)
          have zb : okI (ib : Int) := okI_of (by omega)
          have zc : okI (ic : Int) := okI_of (by omega)
          replace za := hide za
          replace zb := hide zb
          replace zc := hide zc
          replace ga := hide ga
          replace gb := hide gb
          replace gc := hide gc
          have L1 := look_int hM1.out za.out ga.out
          have L2 := look_int hM1.out zb.out gb.out
          have L3 := look_int hM1.out zc.out gc.out
          go_wp2_with (at_builtin; obtain ⟨i0, hi, hz, h1, h2⟩ := info_parts info_face; refine wpList_pushAt (α := Fc) _ rfl (.tmp 42) (.tmp 56) _ rfl (go + 1) 67 i0 _ 24 Try.underlying27 hi hz h1 h2 rfl _ _ _ FL rfl ?c1 (by exact (hF.out.pure hq2)) 0 ⟨_, 0, none⟩ 1 1 [⟨ra, rb, rc⟩] rfl rfl (by exact (sl_oneAt _ 0 _ _ _ _ (by first | rfl | simp) (Nat.zero_le _) rfl)) ?c2 ?c3 ?c4 ?_)
          case c1 => exact hFl.out.symm
          case c2 => rw [hFl.out]; simp; omega
          case c3 => rw [hFl.out]; simp [maxLen]; omega
          case c4 => have := hq2.size; omega
          clear L1 L2 L3
          intro B5 d5 w5 hF5 hG5
          have hoq := hF.out.pure hq2
          have hO5 := (hO.pure hq2).gr hG5.1 ((hO.pure hq2).ne_own hoq (by decide))
          have hg05 : W.grownBy w5 none := gr_row (gr_trans hg hq2) hG5.1 (fun x e => by have := (hoq.blk_lt e).1; omega)
          have hM5 := (hM1.out.kept (row := none) (gr_alloc (World.grownBy.refl _ _) _) (by simp)).kept hG5.1 (fun e => by have := (hoq.blk_lt e).1; omega)
          have hownq := hown.out.pure hq2
          have hown5 := hownq.ne hG5.1 (fun x hx => hownq.ne_own hoq (by decide) hx)
          rw [← he.out] at hF5
          obtain ⟨o0, p0⟩ := hO5.c 0 rfl
          obtain ⟨o1, p1⟩ := hO5.c 1 rfl
          have hO6 := hide (hO5.set_ 1 (.slice B5 (k + 1) d5) (by simp))
          have hown6 := hide (hown5.set_other (i := 1) (.slice B5 (k + 1) d5) (hO5.ne_own hown5 (by decide)))
          have hF6 := hide (hF5.set_other (i := 1) (.slice B5 (k + 1) d5) (hO5.ne_own hF5 (by decide)))
          have hg06 := hide (gr_set hg05 (p := ⟨go, 1, none⟩) (.inr (by simp only; omega)) (.slice B5 (k + 1) d5))
          have hM6 := hide (hM5.kept (gr_set (World.grownBy.refl w5 (some go)) (p := ⟨go, 1, none⟩) (.inl rfl) (.slice B5 (k + 1) d5)) (by intro e; injection e; omega))
          clear hO5 hown5 hF5 hg05 hM5 hoq hG5 hownq
          rw [hFl.out]
          go_wp2_with fail
          (go_roundw; (case rel => exact ⟨k + 1, B5, d5, by omega, by go_num, hM6.out, hO6.out, hown6.out, hF6.out, hg06.out⟩); (case measure => simp [intOf]; omega))
        · have hkn : k = fs.length := by omega
          subst hkn
          rw [List.take_length] at hF
          obtain ⟨k0, kf0⟩ := q0.out.gr hg (by simp)
          obtain ⟨k1, kf1⟩ := q1.out.gr hg (by simp)
          have hVn : blk A' ≠ some (w.heap.size + 1) := fun e => by have := (hown.blk_lt e).1; omega
          have hFn : blk B' ≠ some (w.heap.size + 1) := fun e => by have := (hF.blk_lt e).1; omega
          have hV9 := fun u v => (hown.set_other (g' := w.heap.size + 1) (i := 0) u hVn).set_other (i := 1) v hVn
          have hF9 := fun u v => (hF.set_other (g' := w.heap.size + 1) (i := 0) u hFn).set_other (i := 1) v hFn
          have hw9 := fun u v => gr_set (gr_set hgw (p := ⟨w.heap.size + 1, 0, none⟩) (.inr (by simp)) u) (p := ⟨w.heap.size + 1, 1, none⟩) (.inr (by simp)) v
          have hlo : w.heap.size ≤ go + 1 := by omega
          replace hV9 := hide hV9
          replace hF9 := hide hF9
          replace hw9 := hide hw9
          clear hown hF hM hVn hFn
          have eV : Hid ((trimM ⟨vs, fs⟩).vs = V) := by rw [Hid, hV.out, hU.out]; rfl
          have eF : Hid ((trimM ⟨vs, fs⟩).fs = fs.map (renum vs U)) := by rw [Hid, hU.out]; rfl
          go_wp2_with fail
          refine bodyPost_ret (v := .agg #[.slice A' V.length c', .slice B' fs.length d']) (by simp [results, Try.results84, go_sem, k0, k1, kf0, kf1]) rfl ⟨A', c', B', d', ?_, ?_, ?_, hw9.out _ _⟩
          · rw [eV.out, eF.out, List.length_map]
          · rw [eV.out]; exact (hV9.out _ _).lower hlo
          · rw [eF.out]; exact (hF9.out _ _).lower hlo

end Go.Proofs.Ytjodjdjfagjiaaa

namespace Go.Proofs.Ytjodjdjfagjiaaa
open Go.RowKit Go.Bl

/-- the fault of indices of faces, behind some -/
def ffF (n : Nat) (seen : List Int) : List Int → Int
  | [] => 0
  | k :: r => if k < 0 ∨ (n : Int) ≤ k then 8 else if memB seen k then 6 else ffF n (seen ++ [k]) r
def facesErr (n : Nat) (L : List Int) : Int := if L = [] then 8 else ffF n [] L
def ffK (n : Nat) (L : List Int) (k : Nat) : Int := ffF n (L.take k) (L.drop k)
theorem ffK_step {n : Nat} {L : List Int} {k : Nat} (h : k < L.length) : ffK n L k = if L[k] < 0 ∨ (n : Int) ≤ L[k] then 8 else if memB (L.take k) L[k] then 6 else ffK n L (k + 1) := by
  unfold ffK
  rw [List.drop_eq_getElem_cons h, List.take_succ_eq_append_getElem h]
  rfl
theorem ffK_end {n : Nat} {L : List Int} : ffK n L L.length = 0 := by unfold ffK; rw [List.drop_length]; rfl
theorem ffF_in {n : Nat} : ∀ {L seen : List Int}, ffF n seen L = 0 → ∀ i ∈ L, 0 ≤ i ∧ i < n
  | [], _, _ => by simp
  | k :: r, seen, h => by
    unfold ffF at h
    by_cases h1 : k < 0 ∨ (n : Int) ≤ k
    · rw [if_pos h1] at h; cases h
    · rw [if_neg h1] at h
      by_cases h2 : memB seen k = true
      · rw [if_pos h2] at h; cases h
      · rw [if_neg h2] at h
        intro i hi
        rcases List.mem_cons.1 hi with rfl | hi
        · omega
        · exact ffF_in h i hi

def seenI (n : Nat) (T : List Int) : List Bool := (List.range n).map fun (i : Nat) => memB T (i : Int)
theorem seenI_len (n : Nat) (T : List Int) : (seenI n T).length = n := by simp [seenI]
theorem seenI_get {n : Nat} {T : List Int} {i : Nat} (h : i < (seenI n T).length) : (seenI n T)[i] = memB T (i : Int) := by simp [seenI]
theorem seenI_nil (n : Nat) : seenI n [] = List.replicate n false := by
  apply List.ext_getElem <;> simp [seenI, memB]
theorem memB_snoc (T : List Int) (x y : Int) : memB (T ++ [x]) y = (memB T y || decide (y = x)) := by
  unfold memB; rw [Bool.eq_iff_iff]; simp
theorem seenI_set {n : Nat} {T : List Int} {k : Nat} (h : k < T.length) {i : Nat} (hi : T[k] = (i : Int)) : seenI n (T.take (k + 1)) = (seenI n (T.take k)).set i true := by
  apply List.ext_getElem
  · simp [seenI]
  · intro j h1 h2
    rw [List.getElem_set, seenI_get, List.take_succ_eq_append_getElem h, memB_snoc, hi]
    by_cases hj : i = j
    · subst hj; simp
    · rw [if_neg hj, seenI_get]
      have : ¬ ((j : Int) = (i : Int)) := by omega
      simp [this]

set_option maxHeartbeats 1000000 in
set_option maxRecDepth 100000 in
theorem facesFault_any (A : Option Addr) (n c : Nat) (B : Option Addr) (m d : Nat) (F : Option Addr) (e0 : Nat) (L : List Int) (w : World) (hL : Sl w 0 F L) (hcap : L.length ≤ e0) (hm : m ≤ 1000000) (hLl : L.length ≤ 1000000) :
    Calls Try.prog 33 #[.agg #[.slice A n c, .slice B m d], .slice F L.length e0] w fun e w' => e = .returned (.int .i64 (facesErr m L)) ∧ w.grownBy w' none := by
  obtain ⟨W, hW⟩ : ∃ W, W = w.alloc (.cells #[.slice A n c, .slice B m d] 29) := ⟨_, rfl⟩
  have hgW : w.grownBy W none := by rw [hW]; exact (by repeat (first | exact World.grownBy.refl _ _ | assumption | refine gr_alloc ?_ _ | (apply gr_tail; assumption) | refine gr_drewN ?_ _ | refine gr_drew ?_))
  have b1 : W.cell? ⟨w.heap.size, 1, none⟩ = some (.slice B m d) := by rw [hW]; go_simp
  replace hW := hide hW.symm
  by_cases h0 : L = []
  · subst h0
    go_enter Try.func33, Try.ntmps33
    go_wp2
    go_ret
    exact ⟨ret_int (by simp [facesErr]), by rw [hW.out]; exact hgW⟩
  · have hE : Hid (facesErr m L = ffK m L 0) := by rw [Hid]; unfold facesErr ffK; rw [if_neg h0]; simp
    rw [hE.out]
    have h00 : (L.length == 0) = false := by simpa using h0
    have h01 : ((L.length : Int) == 0) = false := by simpa using h0
    clear h0
    go_enter Try.func33, Try.ntmps33
    go_upto_region 1 with fail
    rw [hW.out]
    go_wp2_with fail
    go_loopw [12] (fun i wr => ∃ k : Nat, k ≤ L.length ∧ i = .int .i64 k ∧ W.grownBy wr none ∧ Hid (ffK m L 0 = ffK m L k)) (fun i _ => L.length - (intOf i).toNat)
    case atStart => exact ⟨0, Nat.zero_le _, rfl, World.grownBy.refl _ _, rfl⟩
    case round =>
      obtain ⟨k, hk, rfl, hg, hX⟩ := hrel
      by_cases hlt : k < L.length
      · have hst := hide (ffK_step (n := m) hlt)
        have hcon := containsInt_any F e0 (L.take k) L[k] wr (((hL.pure hgW).pure hg).take _)
        rw [List.length_take, Nat.min_eq_left hk] at hcon
        have c1 := hg.k b1
        have hk0 : k ≤ e0 := by omega
        obtain ⟨g, o, cx, rfl, hb0, hb1, rfl, hc⟩ := ((hL.pure hgW).pure hg).at_ (by decide) hlt
        have c0 : wr.cell? ⟨g, o + k, none⟩ = some (.int .i64 L[k]) := by have := hc 0 _ rfl; rwa [show Enc.sz Int = 1 from rfl, Nat.mul_one] at this
        clear hc
        generalize L[k] = x at *
        replace hcon := hide hcon
        by_cases h1 : x < 0 ∨ (m : Int) ≤ x
        · have hi : inB x 0 ((m : Int) - 1) = false := by unfold inB; simp; omega
          have hF : Hid (ffK m L 0 = 8) := by rw [Hid, hX.out, hst.out, if_pos h1]
          replace hi := hide hi
          clear h1 hcon hst hX
          go_wp2_with fail
          refine (in_any _ _ _ _).mono ?_
          rintro e w1 ⟨rfl, rfl⟩
          rw [hi.out]
          go_wp2_with fail
          go_ret
          exact ⟨ret_int hF.out.symm, gr_trans hgW hg⟩
        · have hi : inB x 0 ((m : Int) - 1) = true := by unfold inB; simp; omega
          replace hi := hide hi
          obtain ⟨bb, hbb⟩ : ∃ bb, memB (L.take k) x = bb := ⟨_, rfl⟩
          rw [Hid, hbb] at hcon
          have hF : Hid (ffK m L 0 = if bb then 6 else ffK m L (k + 1)) := by rw [Hid, hX.out, hst.out, if_neg h1, hbb]
          replace hcon := hide hcon
          clear h1 hst hX hbb
          go_wp2_with fail
          refine (in_any _ _ _ _).mono ?_
          rintro e w1 ⟨rfl, rfl⟩
          rw [hi.out]
          go_wp2_with fail
          refine hcon.out.mono ?_
          rintro e w1 ⟨rfl, rfl⟩
          cases bb
          · go_wp2_with fail
            (go_roundw; (case rel => exact ⟨k + 1, by omega, by go_num, hg, by simpa [Hid] using hF.out⟩); (case measure => simp [intOf]; omega))
          · go_wp2_with fail
            go_ret
            exact ⟨ret_int (by simpa using hF.out.symm), gr_trans hgW hg⟩
      · have hF : Hid (ffK m L 0 = 0) := by rw [Hid, hX.out, show k = L.length by omega]; exact ffK_end
        go_wp2
        go_ret
        exact ⟨ret_int hF.out.symm, gr_trans hgW hg⟩

end Go.Proofs.Ytjodjdjfagjiaaa

namespace Go.Proofs.Ytjodjdjfagjiaaa
open Go.RowKit Go.Bl

/-- the faces of indices -/
def pickF (fs : List Fc) (L : List Int) : List Fc := L.map fun i => fs.getD i.toNat ⟨0, 0, 0⟩
theorem pickF_len (fs : List Fc) (L : List Int) : (pickF fs L).length = L.length := by simp [pickF]
theorem pickF_snoc {fs : List Fc} {L : List Int} {k : Nat} (h : k < L.length) {j : Nat} (hj : L[k] = (j : Int)) (hl : j < fs.length) : pickF fs (L.take (k + 1)) = pickF fs (L.take k) ++ [fs[j]] := by
  unfold pickF
  rw [take_snoc h, List.map_append, List.map_singleton, hj, Int.toNat_natCast, List.getD_eq_getElem?_getD, List.getElem?_eq_getElem hl, Option.getD_some]
theorem pickF_in {n : Nat} {fs : List Fc} {L : List Int} (h : ∀ f ∈ fs, inF n f = true) (hL : ∀ i ∈ L, 0 ≤ i ∧ i < fs.length) : ∀ f ∈ pickF fs L, inF n f = true := by
  intro f hf
  obtain ⟨i, hi, rfl⟩ := List.mem_map.1 hf
  obtain ⟨h0, h1⟩ := hL i hi
  have : i.toNat < fs.length := by omega
  rw [List.getD_eq_getElem?_getD, List.getElem?_eq_getElem this, Option.getD_some]
  exact h _ (List.getElem_mem _)
def partM (vs : List V3) (fs : List Fc) (L : List Int) : MeshV := trimM ⟨vs, pickF fs L⟩

set_option maxHeartbeats 4000000 in
set_option maxRecDepth 100000 in
theorem partOf_any (A : Option Addr) (c : Nat) (vs : List V3) (B : Option Addr) (d : Nat) (fs : List Fc) (F : Option Addr) (e0 : Nat) (L : List Int) (w : World) (hl : Sl w 0 A vs) (hfs : Sl w 0 B fs) (hL : Sl w 0 F L) (hM : meshF ⟨vs, fs⟩ = 0) (hLi : ∀ i ∈ L, 0 ≤ i ∧ i < fs.length) (hLl : L.length ≤ 2000) :
    Calls Try.prog 34 #[.agg #[.slice A vs.length c, .slice B fs.length d], .slice F L.length e0] w (SMeshE w.heap.size (okM (partM vs fs L)) (meshF (partM vs fs L)) w) := by
  obtain ⟨-, hvl, hfl, -, hv⟩ := right_bd hM
  have hin := right_in hM
  clear hM
  obtain ⟨W, hW⟩ : ∃ W, W = (w.alloc (.cells #[.slice A vs.length c, .slice B fs.length d] 29)).alloc (.cells #[.slice none 0 0, .slice none 0 0] 29) := ⟨_, rfl⟩
  have hWs : W.heap.size = w.heap.size + 1 + 1 := by rw [hW]; simp
  have hgW : w.grownBy W none := by rw [hW]; exact (by repeat (first | exact World.grownBy.refl _ _ | assumption | refine gr_alloc ?_ _ | (apply gr_tail; assumption) | refine gr_drewN ?_ _ | refine gr_drew ?_))
  have b0 : W.cell? ⟨w.heap.size, 0, none⟩ = some (.slice A vs.length c) := by rw [hW]; go_simp
  have b1 : W.cell? ⟨w.heap.size, 1, none⟩ = some (.slice B fs.length d) := by rw [hW]; go_simp
  have q0 : Cell W (w.heap.size + 1) 0 (.slice none 0 0) := by rw [hW]; exact ⟨by go_simp, by go_simp⟩
  have q1 : Cell W (w.heap.size + 1) 1 (.slice none 0 0) := by rw [hW]; exact ⟨by go_simp, by go_simp⟩
  replace hW := hide hW.symm
  replace hWs := hide hWs
  replace q0 := hide q0
  replace q1 := hide q1
  replace hin := hide hin
  have hCl := hide (cloneV3_any A c vs W (hl.pure hgW) (by omega))
  go_enter Try.func34, Try.ntmps34
  go_upto_region 1 with fail
  rw [hW.out]
  go_wp2_with fail
  refine hCl.out.mono ?_
  rintro e w1 ⟨A1, c1, rfl, ho1, hg1⟩
  have b1W := b1
  replace b1 := hg1.k b1
  obtain ⟨go, hgo⟩ : ∃ g, g = w1.heap.size := ⟨_, rfl⟩
  have hO := Box.new w1 [.slice A1 vs.length c1, .slice none 0 0] 29
  have hq0 := gr_alloc (World.grownBy.refl w1 none) (.cells [.slice A1 vs.length c1, .slice none 0 0].toArray 29)
  rw [← hgo] at hO
  have hgo2 : Hid (W.heap.size ≤ go) := by rw [Hid, hgo]; exact hg1.size
  have hlt1 : w.heap.size < w1.heap.size := cell_lt b1
  obtain ⟨W3, hW3⟩ : ∃ x, x = w1.alloc (.cells #[.slice A1 vs.length c1, .slice none 0 0] 29) := ⟨_, rfl⟩
  have hg3 : W.grownBy W3 none := by rw [hW3]; exact gr_trans hg1 hq0
  have hoV : Own W3 W.heap.size 49 A1 c1 vs := by rw [hW3]; exact ho1.pure hq0
  replace hO : Box W3 go 29 [.slice A1 vs.length c1, .slice none 0 0] := by rw [hW3]; exact hO
  have b1' : W3.cell? ⟨w.heap.size, 1, none⟩ = some (.slice B fs.length d) := by rw [hW3]; exact hq0.k b1
  replace hW3 := hide hW3.symm
  replace hgo := hide hgo.symm
  have hlo : Hid (W.heap.size ≤ W.heap.size) := Nat.le_refl _
  have hgwn : Hid (w.heap.size + 1 < go) := by have := hgo2.out; have := hWs.out; simp only [Hid]; omega
  clear hq0 ho1 hCl
  go_upto_region 2 with fail
  rw [hW3.out, hgo.out]
  clear hlt1 b1 hg1
  go_wp2_with fail
  go_loopw [15] (fun i wr => ∃ (k : Nat) (B' : Option Addr) (d' : Nat), k ≤ L.length ∧ i = .int .i64 k ∧ Box wr go 29 [.slice A1 vs.length c1, .slice B' k d'] ∧ Own wr W.heap.size 67 B' d' (pickF fs (L.take k)) ∧ Own wr W.heap.size 49 A1 c1 vs ∧ W.grownBy wr none) (fun i _ => L.length - (intOf i).toNat)
  case atStart => exact ⟨0, none, 0, by omega, rfl, hO, Own.nil _ _ _, hoV, hg3⟩
  case round =>
    clear hO hoV hg3 b1'
    obtain ⟨k, B', d', hk, rfl, hO, hF, hoV, hg⟩ := hrel
    obtain ⟨FL, hFL⟩ : ∃ FL, FL = pickF fs (L.take k) := ⟨_, rfl⟩
    rw [← hFL] at hF
    have hFl : Hid (FL.length = k) := by rw [Hid, hFL, pickF_len, List.length_take, Nat.min_eq_left hk]
    have hgw := gr_trans hgW hg
    have c1' := hg.k b1W
    have hlt0 : w.heap.size < wr.heap.size := cell_lt c1'
    by_cases hlt : k < L.length
    · obtain ⟨h0, h1⟩ := hLi _ (List.getElem_mem hlt)
      obtain ⟨j, ej⟩ := Int.eq_ofNat_of_zero_le h0
      have hj : j < fs.length := by omega
      have hsn := pickF_snoc (fs := fs) hlt ej hj
      rw [← hFL] at hsn
      obtain ⟨g, o, cx, rfl, hb0, hb1, rfl, hc⟩ := (hL.pure hgw).at_ (by decide) hlt
      have c0 : wr.cell? ⟨g, o + k, none⟩ = some (.int .i64 L[k]) := by have := hc 0 _ rfl; rwa [show Enc.sz Int = 1 from rfl, Nat.mul_one] at this
      clear hc
      rw [ej] at c0
      clear h0 h1 ej
      obtain ⟨gf, of, rfl, -, hbf, hcc⟩ := (hfs.pure hgw).fc (by omega)
      obtain ⟨x0, x1, x2⟩ := hcc j hj
      clear hcc
      generalize fs[j] = f at *
      replace hsn := hide hsn
      replace hFL := hide hFL
      go_upto_region 5 with fail
      have hB : ∀ wx, wr.grownBy wx none → wx.cell? ⟨go, 1, none⟩ = some (.slice B' k d') ∧ wx.cell? ⟨w.heap.size, 1, none⟩ = some (.slice (some ⟨gf, of, none⟩) fs.length d) ∧ wx.cell? ⟨gf, of + j * 3, none⟩ = some (.int .i64 f.a) ∧ wx.cell? ⟨gf, of + j * 3 + 1, none⟩ = some (.int .i64 f.b) ∧ wx.cell? ⟨gf, of + j * 3 + 2, none⟩ = some (.int .i64 f.c) := fun wx hx => ⟨hx.k (hO.c 1 rfl).1, hx.k c1', hx.k x0, hx.k x1, hx.k x2⟩
      replace hB := hide hB
      obtain ⟨lo, hlo'⟩ : ∃ lo, lo = W.heap.size := ⟨_, rfl⟩
      rw [← hlo'] at hF hoV hgo2
      replace hlo : Hid (lo ≤ wr.heap.size ∧ W.heap.size ≤ lo) := ⟨by rw [hlo']; exact hg.size, by omega⟩
      refine wp_region_tree (fun wx => wr.grownBy wx none) [2, 1, 2, 1, 2, 2, 1, 0, 0, 2, 0] (.bl 0 (.bl 1 (.bl 2 (.bl 3 (.bl 4 (.bl 5 (.bl 6 (.ef 7 (.ef 8 (.bl 9 (.ef 10 .done))))))))))) (by kernel_rfl) (by kernel_rfl) (gr_drew (World.grownBy.refl _ _)) ?_
      obtain ⟨w1, hw1⟩ : ∃ x, x = (wr).drew := ⟨_, rfl⟩
      rw [← hw1]
      have hgw1 : (wr).grownBy w1 none := by rw [hw1]; exact gr_drew (World.grownBy.refl _ _)
      clear hw1
      refine tree_p rfl rfl rfl rfl _ rfl (by simp) (fun K hK => ?_)
      apply Exists.intro
      refine ⟨fun wq K' hK' => ?_, ?_⟩
      · go_wp2_with fail
        exact hK'
      go_simp
      refine hK _ ?_
      clear hK K
      refine tree_b rfl rfl rfl rfl _ rfl (by simp) (fun K hK => ?_)
      apply Exists.intro
      refine ⟨fun wq hq K' hK' => ?_, ?_⟩
      · obtain ⟨c0, c1, c2, c3, c4⟩ := hB.out wq hq
        go_wp2_with fail
        exact hK'
      go_simp
      refine hK _ ?_
      clear hK K
      refine tree_p rfl rfl rfl rfl _ rfl (by simp) (fun K hK => ?_)
      apply Exists.intro
      refine ⟨fun wq K' hK' => ?_, ?_⟩
      · go_wp2_with fail
        exact hK'
      go_simp
      refine hK _ ?_
      clear hK K
      refine tree_b rfl rfl rfl rfl _ rfl (by simp) (fun K hK => ?_)
      apply Exists.intro
      refine ⟨fun wq hq K' hK' => ?_, ?_⟩
      · obtain ⟨c0, c1, c2, c3, c4⟩ := hB.out wq hq
        go_wp2_with fail
        exact hK'
      go_simp
      refine hK _ ?_
      clear hK K
      refine tree_p rfl rfl rfl rfl _ rfl (by simp) (fun K hK => ?_)
      apply Exists.intro
      refine ⟨fun wq K' hK' => ?_, ?_⟩
      · go_wp2_with fail
        exact hK'
      go_simp
      refine hK _ ?_
      clear hK K
      refine tree_p rfl rfl rfl rfl _ rfl (by simp) (fun K hK => ?_)
      apply Exists.intro
      refine ⟨fun wq K' hK' => ?_, ?_⟩
      · go_wp2_with fail
        exact hK'
      go_simp
      refine hK _ ?_
      clear hK K
      refine tree_b rfl rfl rfl rfl _ rfl (by simp) (fun K hK => ?_)
      apply Exists.intro
      refine ⟨fun wq hq K' hK' => ?_, ?_⟩
      · obtain ⟨c0, c1, c2, c3, c4⟩ := hB.out wq hq
        go_wp2_with fail
        exact hK'
      go_simp
      refine hK _ ?_
      clear hK K
      refine tree_e rfl rfl (fun K hK => ?_)
      go_wp2_with fail
      try go_simp
      refine hK _ _ (gr_alloc (gr_trans hgw1 (World.grownBy.refl _ _)) _) ?_
      clear hK K
      obtain ⟨w7, hw7⟩ : ∃ x, x = (w1).alloc (.cells [.int .i64 f.a, .int .i64 f.b, .int .i64 f.c].toArray 67) := ⟨_, rfl⟩
      have hg7 : (w1).grownBy w7 none := by rw [hw7]; exact gr_alloc (World.grownBy.refl _ _) _
      have hb7 : Box w7 (w1).heap.size 67 [.int .i64 f.a, .int .i64 f.b, .int .i64 f.c] := by rw [hw7]; exact Box.new _ _ _
      rw [← hw7]
      clear hw7
      have hs7 := hb7.sl (l := [f]) (lo := 0) ⟨_, [], by simp, rfl, rfl⟩ (Nat.zero_le _) (by simp [maxLen])
      have hq7 := gr_trans hgw1 hg7
      refine tree_e0 (by kernel_rfl) rfl rfl (fun K hK => ?_)
      have hF7 := hF.pure hq7
      have hO7 := hO.pure hq7
      obtain ⟨i0, hi, hz, hi1, hi2⟩ := info_parts info_face
      refine wp_pushAt (α := Fc) _ (.tmp 20) (.tmp 26) _ rfl lo 67 i0 _ 24 Try.underlying27 hi hz hi1 hi2 rfl _ _ _ FL rfl hFl.out.symm hF7 0 ⟨_, 0, none⟩ 1 1 [f] rfl rfl hs7 ?_ ?_ ?_ ?_
      · rw [hFl.out]; simp; omega
      · rw [hFl.out]; simp [maxLen]; omega
      · have := hq7.size; have := hlo.out; omega
      intro B5 d5 w8 hF8 hG8
      have hO8 := hO7.gr hG8.1 (hO7.ne_own hF7 (by decide))
      rw [show (FL ++ [f]).length = k + 1 by rw [List.length_append, hFl.out]; rfl]
      try go_simp
      refine hK _ _ trivial ?_
      clear hK K
      refine tree_p rfl rfl rfl rfl _ rfl (by simp) (fun K hK => ?_)
      apply Exists.intro
      refine ⟨fun wq K' hK' => ?_, ?_⟩
      · go_wp2_with fail
        exact hK'
      go_simp
      refine hK _ ?_
      clear hK K
      refine tree_e0 (by kernel_rfl) rfl rfl (fun K hK => ?_)
      obtain ⟨o0, p0⟩ := hO8.c 0 rfl
      obtain ⟨o1, p1⟩ := hO8.c 1 rfl
      have hO9 := hide (hO8.set_ 1 (.slice B5 (k + 1) d5) (by simp))
      have hF9 := hide (hF8.set_other (i := 1) (.slice B5 (k + 1) d5) (hO8.ne_own hF8 (by decide)))
      have hoV8 := (hoV.pure hq7).ne hG8.1 (fun x hx => (hoV.pure hq7).ne_own hF7 (by decide) hx)
      have hoV9 := hide (hoV8.set_other (i := 1) (.slice B5 (k + 1) d5) (hO8.ne_own hoV8 (by decide)))
      have hg8 : W.grownBy w8 none := gr_row (gr_trans hg hq7) hG8.1 (fun x e => by have := (hF7.blk_lt e).1; have := hlo.out; omega)
      have hg9 := hide (gr_set hg8 (p := ⟨go, 1, none⟩) (.inr (by have := hgo2.out; simp only; omega)) (.slice B5 (k + 1) d5))
      have hG9 := hide hG8
      clear hoV8 hg8 hF8 hG8
      replace hO8 := hide hO8
      go_wp2_with fail
      try go_simp
      refine hK _ _ trivial ?_
      clear hK K
      refine tree_done ?_
      go_wp2_with fail
      refine ⟨⟨k + 1, B5, d5, by omega, by go_num, hO9.out, by rw [hsn.out, ← hlo']; exact hF9.out, by rw [← hlo']; exact hoV9.out, hg9.out⟩, by simp [intOf]; omega⟩
    · have hkn : k = L.length := by omega
      subst hkn
      rw [hFL, List.take_length] at hF
      obtain ⟨o0, p0⟩ := hO.c 0 rfl
      obtain ⟨o1, p1⟩ := hO.c 1 rfl
      have hSV := hoV.sl.mono (Nat.zero_le _)
      have hSF := hF.sl.mono (Nat.zero_le _)
      have hinp := pickF_in hin.out hLi
      have hffl : (pickF fs L).length ≤ 2000 := by rw [pickF_len]; exact hLl
      clear hFL hFl hO hF hoV hk
      obtain ⟨PF, hPF⟩ : ∃ PF, PF = pickF fs L := ⟨_, rfl⟩
      have hPM : Hid (partM vs fs L = trimM ⟨vs, PF⟩) := by rw [Hid, hPF]; rfl
      have hPl : L.length = PF.length := by rw [hPF, pickF_len]
      rw [← hPF] at hSF hinp hffl
      rw [hPl] at o1
      clear hPl hPF
      have hU := usedRef_any A1 c1 vs B' d' PF wr hSV hSF hinp hvl hffl
      obtain ⟨TM, hTM⟩ : ∃ TM, TM = trimM ⟨vs, PF⟩ := ⟨_, rfl⟩
      rw [← hTM] at hU
      replace hU := hide hU
      obtain ⟨k0, kf0⟩ := q0.out.gr hg (by simp)
      obtain ⟨k1, kf1⟩ := q1.out.gr hg (by simp)
      have hwr := gr_trans hgW hg
      have hle : w.heap.size + 1 < W.heap.size := by have := hWs.out; omega
      have hlw := hg.size
      replace hTM : Hid (partM vs fs L = TM) := by rw [Hid, hTM]; exact hPM.out
      clear hPM hSV hSF hinp
      go_wp2_with fail
      refine hU.out.mono ?_
      rintro e wu ⟨Au, cu, Bu, du, rfl, huV, huF, hgu⟩
      have hR := right_any Au cu TM.vs Bu du TM.fs wu W.heap.size (huV.lower hlw).sl (huF.lower hlw).sl
      replace hR := hide hR
      obtain ⟨k0, kf0⟩ := Cell.gr ⟨k0, kf0⟩ hgu (by simp)
      obtain ⟨k1, kf1⟩ := Cell.gr ⟨k1, kf1⟩ hgu (by simp)
      have hwu := gr_trans hwr hgu
      clear huV huF hU
      go_wp2_with fail
      refine hR.out.mono ?_
      rintro e w9 ⟨A9, c9, B9, d9, rfl, hs9, hf9, hg9⟩
      obtain ⟨k0, kf0⟩ := Cell.gr ⟨k0, kf0⟩ hg9 (by simp)
      obtain ⟨k1, kf1⟩ := Cell.gr ⟨k1, kf1⟩ hg9 (by simp)
      have hgs := fun (v1 v2 : Value) => gr_set (gr_set (World.grownBy.refl w9 (some (w.heap.size + 1))) (p := ⟨w.heap.size + 1, 0, none⟩) (.inl rfl) v1) (p := ⟨w.heap.size + 1, 1, none⟩) (.inl rfl) v2
      have hk := fun v1 v2 => gr_row (gr_trans hwu hg9) (hgs v1 v2) (fun g e => by injection e; omega)
      replace hgs := hide hgs
      replace hk := hide hk
      clear hR
      go_wp2_with fail
      refine bodyPost_ret (v := .tuple #[.agg #[.slice A9 (okM TM).vs.length c9, .slice B9 (okM TM).fs.length d9],   .int .i64 (meshF TM)]) (by simp [results, Try.results34, go_sem, k0, k1, kf0, kf1]) rfl ?_
      rw [hTM.out]
      exact ⟨A9, c9, B9, d9, rfl, (hs9.gr (hgs.out _ _) (fun g e => by injection e; omega)).mono (by omega), (hf9.gr (hgs.out _ _) (fun g e => by injection e; omega)).mono (by omega), hk.out _ _⟩

end Go.Proofs.Ytjodjdjfagjiaaa

namespace Go.Proofs.Ytjodjdjfagjiaaa
open Go.RowKit Go.Bl

def partE (vs : List V3) (fs : List Fc) (L : List Int) : Int := if meshF ⟨vs, fs⟩ ≠ 0 then meshF ⟨vs, fs⟩ else if facesErr fs.length L ≠ 0 then facesErr fs.length L else meshF (partM vs fs L)
def partR (vs : List V3) (fs : List Fc) (L : List Int) : MeshV := if meshF ⟨vs, fs⟩ ≠ 0 then ⟨[], []⟩ else if facesErr fs.length L ≠ 0 then ⟨[], []⟩ else okM (partM vs fs L)

set_option maxHeartbeats 1000000 in
set_option maxRecDepth 100000 in
theorem part_bad0 (A : Option Addr) (c : Nat) (vs : List V3) (B : Option Addr) (d : Nat) (fs : List Fc) (F : Option Addr) (n0 e0 : Nat) (w : World) (hl : Sl w 0 A vs) (hfs : Sl w 0 B fs) (hM : meshF ⟨vs, fs⟩ ≠ 0) :
    Calls Try.prog 30 #[.agg #[.slice A vs.length c, .slice B fs.length d], .slice F n0 e0] w (SMeshE w.heap.size ⟨[], []⟩ (meshF ⟨vs, fs⟩) w) := by
  obtain ⟨W, hW⟩ : ∃ W, W = (w.alloc (.cells #[.slice A vs.length c, .slice B fs.length d] 29)).alloc (.cells #[.slice none 0 0, .slice none 0 0] 29) := ⟨_, rfl⟩
  have hWs : W.heap.size = w.heap.size + 1 + 1 := by rw [hW]; simp
  have hgW : w.grownBy W none := by rw [hW]; exact (by repeat (first | exact World.grownBy.refl _ _ | assumption | refine gr_alloc ?_ _ | (apply gr_tail; assumption) | refine gr_drewN ?_ _ | refine gr_drew ?_))
  have b0 : W.cell? ⟨w.heap.size, 0, none⟩ = some (.slice A vs.length c) := by rw [hW]; go_simp
  have b1 : W.cell? ⟨w.heap.size, 1, none⟩ = some (.slice B fs.length d) := by rw [hW]; go_simp
  have q0 : Cell W (w.heap.size + 1) 0 (.slice none 0 0) := by rw [hW]; exact ⟨by go_simp, by go_simp⟩
  have q1 : Cell W (w.heap.size + 1) 1 (.slice none 0 0) := by rw [hW]; exact ⟨by go_simp, by go_simp⟩
  replace hW := hide hW.symm
  replace hWs := hide hWs
  replace q0 := hide q0
  replace q1 := hide q1
  have hltw : w.heap.size < w.heap.size + 1 := Nat.lt_succ_self _
  have hC := checkMesh_any A c vs B d fs W ((hl.mono (Nat.zero_le _)).pure hgW) ((hfs.mono (Nat.zero_le _)).pure hgW)
  generalize meshF ⟨vs, fs⟩ = E at *
  have hb : (E != 0) = true := by simpa using hM
  clear hM
  replace hC := hide hC
  go_enter Try.func30, Try.ntmps30
  go_upto_region 1 with fail
  rw [hW.out]
  go_wp2_with fail
  refine hC.out.mono ?_
  rintro e w1 ⟨rfl, hg1⟩
  clear hC
  obtain ⟨k0, kf0⟩ := q0.out.gr hg1 (by simp)
  obtain ⟨k1, kf1⟩ := q1.out.gr hg1 (by simp)
  have hgX := gr_trans hgW hg1
  have hgs := fun (v1 v2 : Value) => gr_set (gr_set (World.grownBy.refl w1 (some (w.heap.size + 1))) (p := ⟨w.heap.size + 1, 0, none⟩) (.inl rfl) v1) (p := ⟨w.heap.size + 1, 1, none⟩) (.inl rfl) v2
  have hkk := fun v1 v2 => gr_row hgX (hgs v1 v2) (fun g e => by injection e; omega)
  clear q0 q1
  replace hgs := hide hgs
  replace hkk := hide hkk
  go_wp2_with fail
  exact bodyPost_ret (v := .tuple #[.agg #[.slice none 0 0, .slice none 0 0], .int .i64 E]) (by simp [results, Try.results30, go_sem, k0, k1, kf0, kf1]) rfl ⟨none, 0, none, 0, rfl, slNil _ _ _, slNil _ _ _, hkk.out _ _⟩

set_option maxHeartbeats 1000000 in
set_option maxRecDepth 100000 in
theorem part_nil (A : Option Addr) (c : Nat) (vs : List V3) (B : Option Addr) (d : Nat) (fs : List Fc) (F : Option Addr) (e0 : Nat) (w : World) (hl : Sl w 0 A vs) (hfs : Sl w 0 B fs) (hM : meshF ⟨vs, fs⟩ = 0) :
    Calls Try.prog 30 #[.agg #[.slice A vs.length c, .slice B fs.length d], .slice F 0 e0] w (SMeshE w.heap.size ⟨[], []⟩ 8 w) := by
  obtain ⟨W, hW⟩ : ∃ W, W = (w.alloc (.cells #[.slice A vs.length c, .slice B fs.length d] 29)).alloc (.cells #[.slice none 0 0, .slice none 0 0] 29) := ⟨_, rfl⟩
  have hWs : W.heap.size = w.heap.size + 1 + 1 := by rw [hW]; simp
  have hgW : w.grownBy W none := by rw [hW]; exact (by repeat (first | exact World.grownBy.refl _ _ | assumption | refine gr_alloc ?_ _ | (apply gr_tail; assumption) | refine gr_drewN ?_ _ | refine gr_drew ?_))
  have b0 : W.cell? ⟨w.heap.size, 0, none⟩ = some (.slice A vs.length c) := by rw [hW]; go_simp
  have b1 : W.cell? ⟨w.heap.size, 1, none⟩ = some (.slice B fs.length d) := by rw [hW]; go_simp
  have q0 : Cell W (w.heap.size + 1) 0 (.slice none 0 0) := by rw [hW]; exact ⟨by go_simp, by go_simp⟩
  have q1 : Cell W (w.heap.size + 1) 1 (.slice none 0 0) := by rw [hW]; exact ⟨by go_simp, by go_simp⟩
  replace hW := hide hW.symm
  replace hWs := hide hWs
  replace q0 := hide q0
  replace q1 := hide q1
  have hltw : w.heap.size < w.heap.size + 1 := Nat.lt_succ_self _
  have hC := checkMesh_any A c vs B d fs W ((hl.mono (Nat.zero_le _)).pure hgW) ((hfs.mono (Nat.zero_le _)).pure hgW)
  rw [hM] at hC
  clear hM
  replace hC := hide hC
  go_enter Try.func30, Try.ntmps30
  go_upto_region 1 with fail
  rw [hW.out]
  go_wp2_with fail
  refine hC.out.mono ?_
  rintro e w1 ⟨rfl, hg1⟩
  clear hC
  obtain ⟨k0, kf0⟩ := q0.out.gr hg1 (by simp)
  obtain ⟨k1, kf1⟩ := q1.out.gr hg1 (by simp)
  have hgX := gr_trans hgW hg1
  have hgs := fun (v1 v2 : Value) => gr_set (gr_set (World.grownBy.refl w1 (some (w.heap.size + 1))) (p := ⟨w.heap.size + 1, 0, none⟩) (.inl rfl) v1) (p := ⟨w.heap.size + 1, 1, none⟩) (.inl rfl) v2
  have hkk := fun v1 v2 => gr_row hgX (hgs v1 v2) (fun g e => by injection e; omega)
  clear q0 q1
  replace hgs := hide hgs
  replace hkk := hide hkk
  go_wp2_with fail
  exact bodyPost_ret (v := .tuple #[.agg #[.slice none 0 0, .slice none 0 0], .int .i64 8]) (by simp [results, Try.results30, go_sem, k0, k1, kf0, kf1]) rfl ⟨none, 0, none, 0, rfl, slNil _ _ _, slNil _ _ _, hkk.out _ _⟩

set_option maxHeartbeats 4000000 in
set_option maxRecDepth 100000 in
theorem part_run (A : Option Addr) (c : Nat) (vs : List V3) (B : Option Addr) (d : Nat) (fs : List Fc) (F : Option Addr) (e0 : Nat) (L : List Int) (w : World) (hl : Sl w 0 A vs) (hfs : Sl w 0 B fs) (hL : Sl w 0 F L) (hM : meshF ⟨vs, fs⟩ = 0) (hLl : L.length ≤ 2000) (hL0 : L ≠ []) :
    Calls Try.prog 30 #[.agg #[.slice A vs.length c, .slice B fs.length d], .slice F L.length e0] w (SMeshE w.heap.size (partR vs fs L) (partE vs fs L) w) := by
  obtain ⟨-, hvl, hfl, -, hv⟩ := right_bd hM
  have hin := right_in hM
  obtain ⟨W, hW⟩ : ∃ W, W = (w.alloc (.cells #[.slice A vs.length c, .slice B fs.length d] 29)).alloc (.cells #[.slice none 0 0, .slice none 0 0] 29) := ⟨_, rfl⟩
  have hWs : W.heap.size = w.heap.size + 1 + 1 := by rw [hW]; simp
  have hgW : w.grownBy W none := by rw [hW]; exact (by repeat (first | exact World.grownBy.refl _ _ | assumption | refine gr_alloc ?_ _ | (apply gr_tail; assumption) | refine gr_drewN ?_ _ | refine gr_drew ?_))
  have b0 : W.cell? ⟨w.heap.size, 0, none⟩ = some (.slice A vs.length c) := by rw [hW]; go_simp
  have b1 : W.cell? ⟨w.heap.size, 1, none⟩ = some (.slice B fs.length d) := by rw [hW]; go_simp
  have q0 : Cell W (w.heap.size + 1) 0 (.slice none 0 0) := by rw [hW]; exact ⟨by go_simp, by go_simp⟩
  have q1 : Cell W (w.heap.size + 1) 1 (.slice none 0 0) := by rw [hW]; exact ⟨by go_simp, by go_simp⟩
  replace hW := hide hW.symm
  replace hWs := hide hWs
  replace q0 := hide q0
  replace q1 := hide q1
  have hltw : w.heap.size < w.heap.size + 1 := Nat.lt_succ_self _
  have hC := checkMesh_any A c vs B d fs W ((hl.mono (Nat.zero_le _)).pure hgW) ((hfs.mono (Nat.zero_le _)).pure hgW)
  rw [hM] at hC
  have hE : Hid (facesErr fs.length L = ffK fs.length L 0) := by rw [Hid]; unfold facesErr ffK; rw [if_neg hL0]; simp
  have hPE : Hid (partE vs fs L = if ffK fs.length L 0 ≠ 0 then ffK fs.length L 0 else meshF (partM vs fs L)) := by rw [Hid]; unfold partE; rw [if_neg (by simp [hM]), hE.out]
  have hPR : Hid (partR vs fs L = if ffK fs.length L 0 ≠ 0 then ⟨[], []⟩ else okM (partM vs fs L)) := by rw [Hid]; unfold partR; rw [if_neg (by simp [hM]), hE.out]
  have hIn : Hid (ffK fs.length L 0 = 0 → ∀ i ∈ L, 0 ≤ i ∧ i < fs.length) := fun h => ffF_in (by simpa [ffK] using h)
  have h00 : (L.length == 0) = false := by simpa using hL0
  have h01 : ((L.length : Int) == 0) = false := by simpa using hL0
  clear hM hE hL0
  replace hC := hide hC
  replace hin := hide hin
  have hi0 := info_parts info_bool
  go_enter Try.func30, Try.ntmps30
  go_upto_region 1 with fail
  rw [hW.out]
  go_wp2_with fail
  refine hC.out.mono ?_
  rintro e w1 ⟨rfl, hg1⟩
  clear hC
  obtain ⟨i0, hi, hz, hi1, hi2⟩ := hi0
  obtain ⟨w2, hrun, hoS, hg2⟩ := run_makeOwn (P := Try.prog) w1 101 4 i0 _ false Try.underlying101 hi hz hi1 rfl rfl .i64 .i64 fs.length (by rw [hi2]; omega) (by simp [maxLen]; omega)
  clear hi hz hi1 hi2 i0
  rw [← seenI_nil] at hoS
  have hgg := gr_trans hg1 hg2
  have b1a := hg1.k b1
  have b0b := hgg.k b0
  have b1b := hgg.k b1
  obtain ⟨gs, hgs⟩ : ∃ g, g = w1.heap.size := ⟨_, rfl⟩
  rw [← hgs] at hrun hoS
  have hgs1 : gs < w2.heap.size := (hoS.blk_lt (g := gs) rfl).2
  have hgs0 : W.heap.size ≤ gs := by rw [hgs]; exact hg1.size
  replace hgs := hide hgs
  go_upto_region 7 with fail
  clear hrun b1a hg1 hg2
  obtain ⟨go, hgo⟩ : ∃ g, g = w2.heap.size := ⟨_, rfl⟩
  obtain ⟨W3, hW3⟩ : ∃ x, x = w2.alloc (.cells #[.slice A vs.length c, .slice none 0 0] 29) := ⟨_, rfl⟩
  have hq0 := gr_alloc (World.grownBy.refl w2 none) (.cells [.slice A vs.length c, .slice none 0 0].toArray 29)
  have hO : Box W3 go 29 [.slice A vs.length c, .slice none 0 0] := by rw [hW3, hgo]; exact Box.new w2 [.slice A vs.length c, .slice none 0 0] 29
  have hg3 : W.grownBy W3 none := by rw [hW3]; exact gr_trans hgg hq0
  have hoV : Own W3 W.heap.size 4 (some ⟨gs, 0, none⟩) fs.length (seenI fs.length (L.take 0)) := by rw [hW3]; exact (hoS.pure hq0).lower hgs0
  have hgo2 : Hid (W.heap.size ≤ go) := by rw [Hid, hgo]; omega
  have hsgo : gs < go := by omega
  have hgwn : Hid (w.heap.size + 1 < go) := by have := hgo2.out; have := hWs.out; simp only [Hid]; omega
  replace hW3 := hide hW3.symm
  replace hgo := hide hgo.symm
  clear hq0 hoS
  go_upto_region 8 with fail
  rw [hW3.out, hgo.out]
  clear b0b b1b hgg hgs1
  go_wp2_with fail
  go_loopw [30] (fun i wr => ∃ (k : Nat) (B' : Option Addr) (d' : Nat), k ≤ L.length ∧ i = .int .i64 k ∧ Box wr go 29 [.slice A vs.length c, .slice B' k d'] ∧ Own wr W.heap.size 67 B' d' (pickF fs (L.take k)) ∧ Own wr W.heap.size 4 (some ⟨gs, 0, none⟩) fs.length (seenI fs.length (L.take k)) ∧ W.grownBy wr none ∧ Hid (ffK fs.length L 0 = ffK fs.length L k)) (fun i _ => L.length - (intOf i).toNat)
  case atStart => exact ⟨0, none, 0, by omega, rfl, hO, Own.nil _ _ _, hoV, hg3, rfl⟩
  case round =>
    clear hO hoV hg3
    obtain ⟨k, B', d', hk, rfl, hO, hF, hoV, hg, hX⟩ := hrel
    obtain ⟨FL, hFL⟩ : ∃ FL, FL = pickF fs (L.take k) := ⟨_, rfl⟩
    rw [← hFL] at hF
    have hFl : Hid (FL.length = k) := by rw [Hid, hFL, pickF_len, List.length_take, Nat.min_eq_left hk]
    have hgw := gr_trans hgW hg
    have c1' := hg.k b1
    have hlt0 : w.heap.size < wr.heap.size := cell_lt c1'
    by_cases hlt : k < L.length
    · obtain ⟨g, o, cx, rfl, hb0, hb1, rfl, hc⟩ := (hL.pure hgw).at_ (by decide) hlt
      have c0 : wr.cell? ⟨g, o + k, none⟩ = some (.int .i64 L[k]) := by have := hc 0 _ rfl; rwa [show Enc.sz Int = 1 from rfl, Nat.mul_one] at this
      clear hc
      have hst := hide (ffK_step (n := fs.length) hlt)
      by_cases hx0 : L[k] < 0
      · have hF8 : ffK fs.length L 0 = 8 := by rw [hX.out, hst.out, if_pos (.inl hx0)]
        rw [hF8] at hPE hPR
        replace hPE : Hid (partE vs fs L = 8) := by rw [Hid, hPE.out]; rfl
        replace hPR : Hid (partR vs fs L = ⟨[], []⟩) := by rw [Hid, hPR.out]; rfl
        generalize L[k] = x at *
        rw [hPE.out, hPR.out]
        clear hF8 hX hst
        obtain ⟨k0, kf0⟩ := q0.out.gr hg (by simp)
        obtain ⟨k1, kf1⟩ := q1.out.gr hg (by simp)
        have hgX := gr_trans hgW hg
        have hgs := fun (v1 v2 : Value) => gr_set (gr_set (World.grownBy.refl wr (some (w.heap.size + 1))) (p := ⟨w.heap.size + 1, 0, none⟩) (.inl rfl) v1) (p := ⟨w.heap.size + 1, 1, none⟩) (.inl rfl) v2
        have hkk := fun v1 v2 => gr_row hgX (hgs v1 v2) (fun g e => by injection e; omega)
        clear q0 q1
        replace hgs := hide hgs
        replace hkk := hide hkk
        go_wp2_with fail
        exact bodyPost_ret (v := .tuple #[.agg #[.slice none 0 0, .slice none 0 0], .int .i64 8]) (by simp [results, Try.results30, go_sem, k0, k1, kf0, kf1]) rfl ⟨none, 0, none, 0, rfl, slNil _ _ _, slNil _ _ _, hkk.out _ _⟩
      · by_cases hx1 : (fs.length : Int) ≤ L[k]
        · have hF8 : ffK fs.length L 0 = 8 := by rw [hX.out, hst.out, if_pos (.inr hx1)]
          rw [hF8] at hPE hPR
          replace hPE : Hid (partE vs fs L = 8) := by rw [Hid, hPE.out]; rfl
          replace hPR : Hid (partR vs fs L = ⟨[], []⟩) := by rw [Hid, hPR.out]; rfl
          generalize L[k] = x at *
          rw [hPE.out, hPR.out]
          clear hF8 hX hst
          obtain ⟨k0, kf0⟩ := q0.out.gr hg (by simp)
          obtain ⟨k1, kf1⟩ := q1.out.gr hg (by simp)
          have hgX := gr_trans hgW hg
          have hgs := fun (v1 v2 : Value) => gr_set (gr_set (World.grownBy.refl wr (some (w.heap.size + 1))) (p := ⟨w.heap.size + 1, 0, none⟩) (.inl rfl) v1) (p := ⟨w.heap.size + 1, 1, none⟩) (.inl rfl) v2
          have hkk := fun v1 v2 => gr_row hgX (hgs v1 v2) (fun g e => by injection e; omega)
          clear q0 q1
          replace hgs := hide hgs
          replace hkk := hide hkk
          go_wp2_with fail
          exact bodyPost_ret (v := .tuple #[.agg #[.slice none 0 0, .slice none 0 0], .int .i64 8]) (by simp [results, Try.results30, go_sem, k0, k1, kf0, kf1]) rfl ⟨none, 0, none, 0, rfl, slNil _ _ _, slNil _ _ _, hkk.out _ _⟩
        · obtain ⟨j, ej⟩ := Int.eq_ofNat_of_zero_le (Int.not_lt.1 hx0)
          have hj : j < fs.length := by omega
          have hlS : j < (seenI fs.length (L.take k)).length := by rw [seenI_len]; exact hj
          have s0 := hoV.cell_bool hlS
          have s1 := hoV.frozen j
          rw [seenI_get] at s0
          obtain ⟨bb, hbb⟩ : ∃ bb, memB (L.take k) (j : Int) = bb := ⟨_, rfl⟩
          rw [hbb] at s0
          have hX2 : Hid (ffK fs.length L 0 = if bb then 6 else ffK fs.length L (k + 1)) := by rw [Hid, hX.out, hst.out, if_neg (by omega), ej, hbb]
          cases bb
          · have hsn := pickF_snoc (fs := fs) hlt ej hj
            rw [← hFL] at hsn
            have hse := seenI_set (n := fs.length) hlt ej
            have hoV2 := hoV.set_bool hlS true
            rw [← hse] at hoV2
            obtain ⟨gf, of, rfl, -, hbf, hcc⟩ := hfs.fc (by omega)
            obtain ⟨x0, x1, x2⟩ := hcc j hj
            clear hcc
            rw [ej] at c0 hx0 hx1
            clear ej
            generalize fs[j] = f at *
            have hX3 : Hid (ffK fs.length L 0 = ffK fs.length L (k + 1)) := by rw [Hid, hX2.out]; rfl
            have hgst := gr_set (World.grownBy.refl wr (some gs)) (p := ⟨gs, j, none⟩) (.inl rfl) (.bool true)
            have hO2 := hO.gr hgst (by intro e; injection e; omega)
            have hF2 := hF.ne hgst (fun x hx e => hoV.ne_own hF (by decide) (x := gs) rfl (hx.trans e.symm))
            have hwgs : w.heap.size < gs := by have := hWs.out; omega
            have hgr2 := gr_set hg (p := ⟨gs, j, none⟩) (.inr hgs0) (.bool true)
            have hgw2 := gr_trans hgW hgr2
            have y0 := hgw2.k x0
            have y1 := hgw2.k x1
            have y2 := hgw2.k x2
            have y3 := hgr2.k b1
            have hsz : w.heap.size ≤ wr.heap.size := hgw.size
            clear hX hX2 hst hse hlS hbb
            replace hsn := hide hsn
            replace hFL := hide hFL
            replace hF2 := hide hF2
            replace hO2 := hide hO2
            replace hoV2 := hide hoV2
            replace hgr2 := hide hgr2
            clear hoV hF
            go_upto_region 16 with fail
            obtain ⟨wn, hwn⟩ : ∃ x, x = wr.setCell ⟨gs, j, none⟩ (.bool true) := ⟨_, rfl⟩
            rw [← hwn] at hF2 hO2 hoV2 hgr2 y0 y1 y2 y3 hgw2 ⊢
            clear hwn hgst
            have hF := hF2.out
            have hO := hO2.out
            have hoV := hoV2.out
            have hg := hgr2.out
            clear hF2 hO2 hoV2 hgr2
            have hB : ∀ wx, wn.grownBy wx none → wx.cell? ⟨go, 1, none⟩ = some (.slice B' k d') ∧ wx.cell? ⟨w.heap.size, 1, none⟩ = some (.slice (some ⟨gf, of, none⟩) fs.length d) ∧ wx.cell? ⟨gf, of + j * 3, none⟩ = some (.int .i64 f.a) ∧ wx.cell? ⟨gf, of + j * 3 + 1, none⟩ = some (.int .i64 f.b) ∧ wx.cell? ⟨gf, of + j * 3 + 2, none⟩ = some (.int .i64 f.c) := fun wx hx => ⟨hx.k (hO.c 1 rfl).1, hx.k y3, hx.k y0, hx.k y1, hx.k y2⟩
            replace hB := hide hB
            obtain ⟨lo, hlo'⟩ : ∃ lo, lo = W.heap.size := ⟨_, rfl⟩
            rw [← hlo'] at hF hoV hgo2
            have hlo : Hid (lo ≤ wn.heap.size ∧ W.heap.size ≤ lo) := ⟨by rw [hlo']; exact hg.size, by omega⟩
            clear hx0 hx1 c0 c1' s0 s1 hgw2 hgw
            replace hlo' := hide hlo'
            refine wp_region_tree (fun wx => wn.grownBy wx none) [2, 1, 2, 1, 2, 2, 1, 0, 0, 2, 0] (.bl 0 (.bl 1 (.bl 2 (.bl 3 (.bl 4 (.bl 5 (.bl 6 (.ef 7 (.ef 8 (.bl 9 (.ef 10 .done))))))))))) (by kernel_rfl) (by kernel_rfl) (gr_drew (World.grownBy.refl _ _)) ?_
            obtain ⟨w1, hw1⟩ : ∃ x, x = (wn).drew := ⟨_, rfl⟩
            rw [← hw1]
            have hgw1 : (wn).grownBy w1 none := by rw [hw1]; exact gr_drew (World.grownBy.refl _ _)
            clear hw1
            refine tree_p rfl rfl rfl rfl _ rfl (by simp) (fun K hK => ?_)
            apply Exists.intro
            refine ⟨fun wq K' hK' => ?_, ?_⟩
            · go_wp2_with fail
              exact hK'
            go_simp
            refine hK _ ?_
            clear hK K
            refine tree_b rfl rfl rfl rfl _ rfl (by simp) (fun K hK => ?_)
            apply Exists.intro
            refine ⟨fun wq hq K' hK' => ?_, ?_⟩
            · obtain ⟨c0, c1, c2, c3, c4⟩ := hB.out wq hq
              go_wp2_with fail
              exact hK'
            go_simp
            refine hK _ ?_
            clear hK K
            refine tree_p rfl rfl rfl rfl _ rfl (by simp) (fun K hK => ?_)
            apply Exists.intro
            refine ⟨fun wq K' hK' => ?_, ?_⟩
            · go_wp2_with fail
              exact hK'
            go_simp
            refine hK _ ?_
            clear hK K
            refine tree_b rfl rfl rfl rfl _ rfl (by simp) (fun K hK => ?_)
            apply Exists.intro
            refine ⟨fun wq hq K' hK' => ?_, ?_⟩
            · obtain ⟨c0, c1, c2, c3, c4⟩ := hB.out wq hq
              go_wp2_with fail
              exact hK'
            go_simp
            refine hK _ ?_
            clear hK K
            refine tree_p rfl rfl rfl rfl _ rfl (by simp) (fun K hK => ?_)
            apply Exists.intro
            refine ⟨fun wq K' hK' => ?_, ?_⟩
            · go_wp2_with fail
              exact hK'
            go_simp
            refine hK _ ?_
            clear hK K
            refine tree_p rfl rfl rfl rfl _ rfl (by simp) (fun K hK => ?_)
            apply Exists.intro
            refine ⟨fun wq K' hK' => ?_, ?_⟩
            · go_wp2_with fail
              exact hK'
            go_simp
            refine hK _ ?_
            clear hK K
            refine tree_b rfl rfl rfl rfl _ rfl (by simp) (fun K hK => ?_)
            apply Exists.intro
            refine ⟨fun wq hq K' hK' => ?_, ?_⟩
            · obtain ⟨c0, c1, c2, c3, c4⟩ := hB.out wq hq
              go_wp2_with fail
              exact hK'
            go_simp
            refine hK _ ?_
            clear hK K
            refine tree_e rfl rfl (fun K hK => ?_)
            go_wp2_with fail
            try go_simp
            refine hK _ _ (gr_alloc (gr_trans hgw1 (World.grownBy.refl _ _)) _) ?_
            clear hK K
            obtain ⟨w7, hw7⟩ : ∃ x, x = (w1).alloc (.cells [.int .i64 f.a, .int .i64 f.b, .int .i64 f.c].toArray 67) := ⟨_, rfl⟩
            have hg7 : (w1).grownBy w7 none := by rw [hw7]; exact gr_alloc (World.grownBy.refl _ _) _
            have hb7 : Box w7 (w1).heap.size 67 [.int .i64 f.a, .int .i64 f.b, .int .i64 f.c] := by rw [hw7]; exact Box.new _ _ _
            rw [← hw7]
            clear hw7
            have hs7 := hb7.sl (l := [f]) (lo := 0) ⟨_, [], by simp, rfl, rfl⟩ (Nat.zero_le _) (by simp [maxLen])
            have hq7 := gr_trans hgw1 hg7
            refine tree_e0 (by kernel_rfl) rfl rfl (fun K hK => ?_)
            have hF7 := hF.pure hq7
            have hO7 := hO.pure hq7
            obtain ⟨i0, hi, hz, hi1, hi2⟩ := info_parts info_face
            refine wp_pushAt (α := Fc) _ (.tmp 53) (.tmp 59) _ rfl lo 67 i0 _ 24 Try.underlying27 hi hz hi1 hi2 rfl _ _ _ FL rfl hFl.out.symm hF7 0 ⟨_, 0, none⟩ 1 1 [f] rfl rfl hs7 ?_ ?_ ?_ ?_
            · rw [hFl.out]; simp; omega
            · rw [hFl.out]; simp [maxLen]; omega
            · have := hq7.size; have := hlo.out; omega
            intro B5 d5 w8 hF8 hG8
            have hO8 := hO7.gr hG8.1 (hO7.ne_own hF7 (by decide))
            rw [show (FL ++ [f]).length = k + 1 by rw [List.length_append, hFl.out]; rfl]
            try go_simp
            refine hK _ _ trivial ?_
            clear hK K
            refine tree_p rfl rfl rfl rfl _ rfl (by simp) (fun K hK => ?_)
            apply Exists.intro
            refine ⟨fun wq K' hK' => ?_, ?_⟩
            · go_wp2_with fail
              exact hK'
            go_simp
            refine hK _ ?_
            clear hK K
            refine tree_e0 (by kernel_rfl) rfl rfl (fun K hK => ?_)
            obtain ⟨o0, p0⟩ := hO8.c 0 rfl
            obtain ⟨o1, p1⟩ := hO8.c 1 rfl
            have hO9 := hide (hO8.set_ 1 (.slice B5 (k + 1) d5) (by simp))
            have hF9 := hide (hF8.set_other (i := 1) (.slice B5 (k + 1) d5) (hO8.ne_own hF8 (by decide)))
            have hoV8 := (hoV.pure hq7).ne hG8.1 (fun x hx => (hoV.pure hq7).ne_own hF7 (by decide) hx)
            have hoV9 := hide (hoV8.set_other (i := 1) (.slice B5 (k + 1) d5) (hO8.ne_own hoV8 (by decide)))
            have hg8 : W.grownBy w8 none := gr_row (gr_trans hg hq7) hG8.1 (fun x e => by have := (hF7.blk_lt e).1; have := hlo.out; omega)
            have hg9 := hide (gr_set hg8 (p := ⟨go, 1, none⟩) (.inr (by have := hgo2.out; simp only; omega)) (.slice B5 (k + 1) d5))
            have hG9 := hide hG8
            clear hoV8 hg8 hF8 hG8
            replace hO8 := hide hO8
            go_wp2_with fail
            try go_simp
            refine hK _ _ trivial ?_
            clear hK K
            refine tree_done ?_
            go_wp2_with fail
            replace hlo' := hlo'.out
            refine ⟨⟨k + 1, B5, d5, by omega, by go_num, hO9.out, by rw [hsn.out, ← hlo']; exact hF9.out, by rw [← hlo']; exact hoV9.out, hg9.out, hX3⟩, by simp [intOf]; omega⟩
          · have hF8 : ffK fs.length L 0 = 6 := by rw [hX2.out]; rfl
            rw [hF8] at hPE hPR
            replace hPE : Hid (partE vs fs L = 6) := by rw [Hid, hPE.out]; rfl
            replace hPR : Hid (partR vs fs L = ⟨[], []⟩) := by rw [Hid, hPR.out]; rfl
            rw [ej] at c0 hx0 hx1
            rw [hPE.out, hPR.out]
            clear hF8 hX hX2 hst hlS hbb ej
            obtain ⟨k0, kf0⟩ := q0.out.gr hg (by simp)
            obtain ⟨k1, kf1⟩ := q1.out.gr hg (by simp)
            have hgX := gr_trans hgW hg
            have hgs := fun (v1 v2 : Value) => gr_set (gr_set (World.grownBy.refl wr (some (w.heap.size + 1))) (p := ⟨w.heap.size + 1, 0, none⟩) (.inl rfl) v1) (p := ⟨w.heap.size + 1, 1, none⟩) (.inl rfl) v2
            have hkk := fun v1 v2 => gr_row hgX (hgs v1 v2) (fun g e => by injection e; omega)
            clear q0 q1
            replace hgs := hide hgs
            replace hkk := hide hkk
            go_wp2_with fail
            exact bodyPost_ret (v := .tuple #[.agg #[.slice none 0 0, .slice none 0 0], .int .i64 6]) (by simp [results, Try.results30, go_sem, k0, k1, kf0, kf1]) rfl ⟨none, 0, none, 0, rfl, slNil _ _ _, slNil _ _ _, hkk.out _ _⟩
    · have hkn : k = L.length := by omega
      subst hkn
      have hF8 : ffK fs.length L 0 = 0 := by rw [hX.out]; exact ffK_end
      have hLi := hIn.out hF8
      rw [hF8] at hPE hPR
      replace hPE : Hid (partE vs fs L = meshF (partM vs fs L)) := by rw [Hid, hPE.out]; rfl
      replace hPR : Hid (partR vs fs L = okM (partM vs fs L)) := by rw [Hid, hPR.out]; rfl
      rw [hFL, List.take_length] at hF
      obtain ⟨o0, p0⟩ := hO.c 0 rfl
      obtain ⟨o1, p1⟩ := hO.c 1 rfl
      have hSV := hl.pure hgw
      have hSF := hF.sl.mono (Nat.zero_le _)
      have hinp := pickF_in hin.out hLi
      have hffl : (pickF fs L).length ≤ 2000 := by rw [pickF_len]; exact hLl
      clear hF8 hX hFL hFl hO hF hoV hk hLi
      obtain ⟨PF, hPF⟩ : ∃ PF, PF = pickF fs L := ⟨_, rfl⟩
      have hPM : Hid (partM vs fs L = trimM ⟨vs, PF⟩) := by rw [Hid, hPF]; rfl
      have hPl : L.length = PF.length := by rw [hPF, pickF_len]
      rw [← hPF] at hSF hinp hffl
      rw [hPl] at o1
      clear hPl hPF
      have hU := trimmed_any A c vs B' d' PF wr hSV hSF hinp hvl hffl
      obtain ⟨TM, hTM⟩ : ∃ TM, TM = trimM ⟨vs, PF⟩ := ⟨_, rfl⟩
      rw [← hTM] at hU
      replace hU := hide hU
      obtain ⟨k0, kf0⟩ := q0.out.gr hg (by simp)
      obtain ⟨k1, kf1⟩ := q1.out.gr hg (by simp)
      have hwr := gr_trans hgW hg
      have hle : w.heap.size + 1 < W.heap.size := by have := hWs.out; omega
      have hlw := hg.size
      replace hTM : Hid (partM vs fs L = TM) := by rw [Hid, hTM]; exact hPM.out
      clear hPM hSV hSF hinp
      go_wp2_with fail
      refine hU.out.mono ?_
      rintro e wu ⟨Au, cu, Bu, du, rfl, huV, huF, hgu⟩
      have hR := checked_any Au cu TM.vs Bu du TM.fs wu W.heap.size (huV.lower hlw).sl (huF.lower hlw).sl
      replace hR := hide hR
      obtain ⟨k0, kf0⟩ := Cell.gr ⟨k0, kf0⟩ hgu (by simp)
      obtain ⟨k1, kf1⟩ := Cell.gr ⟨k1, kf1⟩ hgu (by simp)
      have hwu := gr_trans hwr hgu
      clear huV huF hU
      go_wp2_with fail
      refine hR.out.mono ?_
      rintro e w9 ⟨A9, c9, B9, d9, rfl, hs9, hf9, hg9⟩
      obtain ⟨k0, kf0⟩ := Cell.gr ⟨k0, kf0⟩ hg9 (by simp)
      obtain ⟨k1, kf1⟩ := Cell.gr ⟨k1, kf1⟩ hg9 (by simp)
      have hgs := fun (v1 v2 : Value) => gr_set (gr_set (World.grownBy.refl w9 (some (w.heap.size + 1))) (p := ⟨w.heap.size + 1, 0, none⟩) (.inl rfl) v1) (p := ⟨w.heap.size + 1, 1, none⟩) (.inl rfl) v2
      have hk := fun v1 v2 => gr_row (gr_trans hwu hg9) (hgs v1 v2) (fun g e => by injection e; omega)
      replace hgs := hide hgs
      replace hk := hide hk
      clear hR
      go_wp2_with fail
      refine bodyPost_ret (v := .tuple #[.agg #[.slice A9 (okM TM).vs.length c9, .slice B9 (okM TM).fs.length d9],   .int .i64 (meshF TM)]) (by simp [results, Try.results30, go_sem, k0, k1, kf0, kf1]) rfl ?_
      rw [hPR.out, hPE.out, hTM.out]
      exact ⟨A9, c9, B9, d9, rfl, (hs9.gr (hgs.out _ _) (fun g e => by injection e; omega)).mono (by omega), (hf9.gr (hgs.out _ _) (fun g e => by injection e; omega)).mono (by omega), hk.out _ _⟩

theorem partGo_any (A : Option Addr) (c : Nat) (vs : List V3) (B : Option Addr) (d : Nat) (fs : List Fc) (F : Option Addr) (e0 : Nat) (L : List Int) (w : World) (hl : Sl w 0 A vs) (hfs : Sl w 0 B fs) (hL : Sl w 0 F L) (hLl : L.length ≤ 2000) :
    Calls Try.prog 30 #[.agg #[.slice A vs.length c, .slice B fs.length d], .slice F L.length e0] w (SMeshE w.heap.size (partR vs fs L) (partE vs fs L) w) := by
  by_cases hM : meshF ⟨vs, fs⟩ = 0
  · by_cases h0 : L = []
    · subst h0
      have := part_nil A c vs B d fs F e0 w hl hfs hM
      have e1 : partR vs fs [] = ⟨[], []⟩ := by unfold partR; rw [if_neg (by simp [hM]), if_pos (by simp [facesErr])]
      have e2 : partE vs fs [] = 8 := by unfold partE; rw [if_neg (by simp [hM]), if_pos (by simp [facesErr])]; simp [facesErr]
      rw [e1, e2]
      exact this
    · exact part_run A c vs B d fs F e0 L w hl hfs hL hM hLl h0
  · unfold partR partE
    rw [if_pos hM, if_pos hM]
    exact part_bad0 A c vs B d fs F _ e0 w hl hfs hM

end Go.Proofs.Ytjodjdjfagjiaaa

namespace Go.Proofs.Ytjodjdjfagjiaaa
open Go.RowKit Go.Bl

/-- where a place stands first -/
def fstV : List V3 → V3 → Nat
  | [], _ => 0
  | x :: l, v => if x = v then 0 else fstV l v + 1
theorem fstV_at : ∀ {vs : List V3} {v : V3} {k : Nat} (h : k < vs.length), v ∉ vs.take k → vs[k] = v → fstV vs v = k
  | [], _, k, h, _, _ => by simp at h
  | x :: l, v, 0, _, _, he => by simp at he; unfold fstV; rw [if_pos he]
  | x :: l, v, k + 1, h, hn, he => by
    simp only [List.take_succ_cons, List.mem_cons, not_or] at hn
    unfold fstV
    rw [if_neg (fun e => hn.1 e.symm), fstV_at (k := k) (by simpa using h) hn.2 (by simpa using he)]
theorem fstV_lt : ∀ {vs : List V3} {v : V3}, v ∈ vs → fstV vs v < vs.length
  | [], _, h => by simp at h
  | x :: l, v, h => by
    unfold fstV
    by_cases e : x = v
    · rw [if_pos e]; simp
    · rw [if_neg e]
      have := fstV_lt (vs := l) (v := v) (by rcases List.mem_cons.1 h with h | h; exact absurd h.symm e; exact h)
      simp; omega
def firstK (vs : List V3) (k : Nat) : V3 → Option Int := fun v => if v ∈ vs.take k then some (fstV vs v) else none
theorem firstK_zero (vs : List V3) : (fun _ => none) = firstK vs 0 := by funext v; simp [firstK]
theorem firstK_all {vs : List V3} {v : V3} (h : v ∈ vs) : (firstK vs vs.length v).getD 0 = fstV vs v := by
  unfold firstK; rw [List.take_length, if_pos h]; rfl
theorem firstK_old {vs : List V3} {k : Nat} (h : k < vs.length) (hm : vs[k] ∈ vs.take k) : firstK vs (k + 1) = firstK vs k := by
  funext v
  unfold firstK
  rw [List.take_succ_eq_append_getElem h]
  by_cases hv : v ∈ vs.take k
  · rw [if_pos (List.mem_append_left _ hv), if_pos hv]
  · rw [if_neg hv, if_neg (fun h2 => by
      rcases List.mem_append.1 h2 with h2 | h2
      · exact hv h2
      · rw [List.mem_singleton] at h2; subst h2; exact hv hm)]
theorem firstK_new {vs : List V3} {k : Nat} (h : k < vs.length) (hm : vs[k] ∉ vs.take k) : (fun z => if z = vs[k] then some (k : Int) else firstK vs k z) = firstK vs (k + 1) := by
  funext v
  unfold firstK
  rw [List.take_succ_eq_append_getElem h]
  by_cases hv : v = vs[k]
  · subst hv
    rw [if_pos rfl, if_pos (List.mem_append_right _ (List.mem_singleton.2 rfl)), fstV_at h hm rfl]
  · rw [if_neg hv]
    by_cases hv2 : v ∈ vs.take k
    · rw [if_pos hv2, if_pos (List.mem_append_left _ hv2)]
    · rw [if_neg hv2, if_neg (fun h2 => by
        rcases List.mem_append.1 h2 with h2 | h2
        · exact hv2 h2
        · exact hv (List.mem_singleton.1 h2))]
theorem firstK_some (vs : List V3) (k : Nat) (v : V3) : (firstK vs k v).isSome = decide (v ∈ vs.take k) := by unfold firstK; by_cases h : v ∈ vs.take k <;> simp [h]

set_option maxHeartbeats 1000000 in
set_option maxRecDepth 100000 in
theorem indexV_any (A : Option Addr) (c : Nat) (l : List V3) (v : V3) (w : World) (hl : Sl w 0 A l) (hv : v ∈ l) :
    Calls Try.prog 86 #[.slice A l.length c, .agg #[.int .i64 v.x, .int .i64 v.y, .int .i64 v.z]] w fun e w' => e = .returned (.int .i64 (fstV l v)) ∧ w.grownBy w' none := by
  have hm := hl.1
  unfold maxLen at hm
  have hg0 := gr_alloc (World.grownBy.refl w none) (.cells #[.int .i64 v.x, .int .i64 v.y, .int .i64 v.z] 49)
  have hb0 := Box.new w [.int .i64 v.x, .int .i64 v.y, .int .i64 v.z] 49
  replace hb0 := hide hb0
  go_enter Try.func86, Try.ntmps86
  go_wp2_with fail
  obtain ⟨W, hW⟩ : ∃ x, x = w.alloc (.cells #[.int .i64 v.x, .int .i64 v.y, .int .i64 v.z] 49) := ⟨_, rfl⟩
  rw [← hW] at hg0 ⊢
  replace hb0 : Box W w.heap.size 49 [.int .i64 v.x, .int .i64 v.y, .int .i64 v.z] := by rw [hW]; exact hb0.out
  clear hW
  go_loopw [8] (fun i wr => ∃ k : Nat, k < l.length ∧ i = .int .i64 k ∧ W.grownBy wr none ∧ Hid (v ∉ l.take k)) (fun i _ => l.length - (intOf i).toNat)
  case atStart => exact ⟨0, List.length_pos_iff.2 (List.ne_nil_of_mem hv), rfl, World.grownBy.refl _ _, by simp [Hid]⟩
  case round =>
    obtain ⟨k, hlt, rfl, hg, hall⟩ := hrel
    have hbr := hb0.pure hg
    obtain ⟨g, o, rfl, -, hbg, hcc⟩ := (hl.pure (gr_trans hg0 hg)).v3 (by omega)
    obtain ⟨x0, x1, x2⟩ := hcc k hlt
    clear hcc
    have hB : ∀ wx, wr.grownBy wx none → wx.cell? ⟨w.heap.size, 0, none⟩ = some (.int .i64 v.x) ∧ wx.cell? ⟨w.heap.size, 1, none⟩ = some (.int .i64 v.y) ∧ wx.cell? ⟨w.heap.size, 2, none⟩ = some (.int .i64 v.z) ∧ wx.cell? ⟨g, o + k * 3, none⟩ = some (.int .i64 l[k].x) ∧ wx.cell? ⟨g, o + k * 3 + 1, none⟩ = some (.int .i64 l[k].y) ∧ wx.cell? ⟨g, o + k * 3 + 2, none⟩ = some (.int .i64 l[k].z) :=
      fun wx hx => ⟨hx.k (hbr.c 0 rfl).1, hx.k (hbr.c 1 rfl).1, hx.k (hbr.c 2 rfl).1, hx.k x0, hx.k x1, hx.k x2⟩
    replace hB := hide hB
    have hyes : Hid (l[k] = v → fstV l v = k) := fun e => fstV_at hlt hall.out e
    have hno : Hid (l[k] ≠ v → v ∉ l.take (k + 1)) := fun e => by
      rw [List.take_succ_eq_append_getElem hlt, List.mem_append, List.mem_singleton, not_or]
      exact ⟨hall.out, fun e2 => e e2.symm⟩
    have hend : Hid (v ∉ l.take (k + 1) → k + 1 < l.length) := fun h => by
      rcases Nat.lt_or_ge (k + 1) l.length with h2 | h2
      · exact h2
      · rw [List.take_of_length_le h2] at h; exact absurd hv h
    have hlk : Hid (l[k] = v ↔ (v.x = l[k].x ∧ v.y = l[k].y ∧ v.z = l[k].z)) := by
      constructor
      · intro e; rw [e]; exact ⟨rfl, rfl, rfl⟩
      · rintro ⟨h1, h2, h3⟩; exact v3_ext h1.symm h2.symm h3.symm
    have hv0 := hide hv
    clear hv
    generalize l[k] = y at *
    have hbc := hbr.lt
    clear hbr x0 x1 x2
    go_upto_region 4 with fail
    by_cases he : y = v
    · have e1 := (hlk.out).1 he
      have hF := hide (hyes.out he)
      subst he
      clear e1 hlk hyes hno hend
      refine wp_region_tree (fun wx => wr.grownBy wx none) [1, 2, 2, 2, 1, 2] (.bl 0 (.bl 1 (.bl 2 (.bl 3 (.bl 4 (.bl 5 .done)))))) (by kernel_rfl) (by kernel_rfl) (gr_drew (World.grownBy.refl _ _)) ?_
      obtain ⟨w1, hw1⟩ : ∃ x, x = (wr).drew := ⟨_, rfl⟩
      rw [← hw1]
      have hgw1 : (wr).grownBy w1 none := by rw [hw1]; exact gr_drew (World.grownBy.refl _ _)
      clear hw1
      refine tree_b rfl rfl rfl rfl _ rfl (by simp) (fun K hK => ?_)
      apply Exists.intro
      refine ⟨fun wq hq K' hK' => ?_, ?_⟩
      · obtain ⟨c0, c1, c2, c3, c4, c5⟩ := hB.out wq hq
        go_wp2_with fail
        exact hK'
      go_simp
      refine hK _ ?_
      clear hK K
      refine tree_p rfl rfl rfl rfl _ rfl (by simp) (fun K hK => ?_)
      apply Exists.intro
      refine ⟨fun wq K' hK' => ?_, ?_⟩
      · go_wp2_with fail
        exact hK'
      go_simp
      refine hK _ ?_
      clear hK K
      refine tree_p rfl rfl rfl rfl _ rfl (by simp) (fun K hK => ?_)
      apply Exists.intro
      refine ⟨fun wq K' hK' => ?_, ?_⟩
      · go_wp2_with fail
        exact hK'
      go_simp
      refine hK _ ?_
      clear hK K
      refine tree_p rfl rfl rfl rfl _ rfl (by simp) (fun K hK => ?_)
      apply Exists.intro
      refine ⟨fun wq K' hK' => ?_, ?_⟩
      · go_wp2_with fail
        exact hK'
      go_simp
      refine hK _ ?_
      clear hK K
      refine tree_b rfl rfl rfl rfl _ rfl (by simp) (fun K hK => ?_)
      apply Exists.intro
      refine ⟨fun wq hq K' hK' => ?_, ?_⟩
      · obtain ⟨c0, c1, c2, c3, c4, c5⟩ := hB.out wq hq
        go_wp2_with fail
        exact hK'
      go_simp
      refine hK _ ?_
      clear hK K
      refine tree_p rfl rfl rfl rfl _ rfl (by simp) (fun K hK => ?_)
      apply Exists.intro
      refine ⟨fun wq K' hK' => ?_, ?_⟩
      · go_wp2_with fail
        exact hK'
      go_simp
      refine hK _ ?_
      clear hK K
      refine tree_done ?_
      go_wp2_with fail
      go_ret
      exact ⟨ret_int (by rw [hF.out]), gr_trans hg0 (gr_trans hg hgw1)⟩
    · have hnv := hno.out he
      have hk1 := hend.out hnv
      replace hnv := hide hnv
      have hne : ¬ (v.x = y.x ∧ v.y = y.y ∧ v.z = y.z) := fun h => he (hlk.out.2 h)
      clear hlk hyes hno hend he
      obtain ⟨vx, vy, vz⟩ := v
      obtain ⟨yx, yy, yz⟩ := y
      simp only at hne hB
      have hcs : (vx == yx) = false ∨ ((vx == yx) = true ∧ (vy == yy) = false) ∨ ((vx == yx) = true ∧ (vy == yy) = true ∧ (vz == yz) = false) := by
        by_cases h1 : vx = yx
        · by_cases h2 : vy = yy
          · exact .inr (.inr ⟨by simp [h1], by simp [h2], by simp; exact fun h3 => hne ⟨h1, h2, h3⟩⟩)
          · exact .inr (.inl ⟨by simp [h1], by simp [h2]⟩)
        · exact .inl (by simp [h1])
      clear hne
      rcases hcs with h1 | ⟨h1, h2⟩ | ⟨h1, h2, h3⟩
      all_goals
        refine wp_region_tree (fun wx => wr.grownBy wx none) [1, 2, 2, 2, 1, 2] (.bl 0 (.bl 1 (.bl 2 (.bl 3 (.bl 4 (.bl 5 .done)))))) (by kernel_rfl) (by kernel_rfl) (gr_drew (World.grownBy.refl _ _)) ?_
        obtain ⟨w1, hw1⟩ : ∃ x, x = (wr).drew := ⟨_, rfl⟩
        rw [← hw1]
        have hgw1 : (wr).grownBy w1 none := by rw [hw1]; exact gr_drew (World.grownBy.refl _ _)
        clear hw1
        refine tree_b rfl rfl rfl rfl _ rfl (by simp) (fun K hK => ?_)
        apply Exists.intro
        refine ⟨fun wq hq K' hK' => ?_, ?_⟩
        · obtain ⟨c0, c1, c2, c3, c4, c5⟩ := hB.out wq hq
          go_wp2_with fail
          exact hK'
        go_simp
        refine hK _ ?_
        clear hK K
        refine tree_p rfl rfl rfl rfl _ rfl (by simp) (fun K hK => ?_)
        apply Exists.intro
        refine ⟨fun wq K' hK' => ?_, ?_⟩
        · go_wp2_with fail
          exact hK'
        go_simp
        refine hK _ ?_
        clear hK K
        refine tree_p rfl rfl rfl rfl _ rfl (by simp) (fun K hK => ?_)
        apply Exists.intro
        refine ⟨fun wq K' hK' => ?_, ?_⟩
        · go_wp2_with fail
          exact hK'
        go_simp
        refine hK _ ?_
        clear hK K
        refine tree_p rfl rfl rfl rfl _ rfl (by simp) (fun K hK => ?_)
        apply Exists.intro
        refine ⟨fun wq K' hK' => ?_, ?_⟩
        · go_wp2_with fail
          exact hK'
        go_simp
        refine hK _ ?_
        clear hK K
        refine tree_b rfl rfl rfl rfl _ rfl (by simp) (fun K hK => ?_)
        apply Exists.intro
        refine ⟨fun wq hq K' hK' => ?_, ?_⟩
        · obtain ⟨c0, c1, c2, c3, c4, c5⟩ := hB.out wq hq
          go_wp2_with fail
          exact hK'
        go_simp
        refine hK _ ?_
        clear hK K
        refine tree_p rfl rfl rfl rfl _ rfl (by simp) (fun K hK => ?_)
        apply Exists.intro
        refine ⟨fun wq K' hK' => ?_, ?_⟩
        · go_wp2_with fail
          exact hK'
        go_simp
        refine hK _ ?_
        clear hK K
        refine tree_done ?_
        go_wp2_with fail
        exact ⟨⟨k + 1, hk1, by go_num, gr_trans hg hgw1, hnv⟩, by simp [intOf]; omega⟩

set_option maxHeartbeats 1000000 in
set_option maxRecDepth 100000 in
theorem weldCl_any (gt gm b n j : Nat) (A : Option Addr) (c : Nat) (vs : List V3) (w : World) (hl : Sl w 0 A vs) (ht : w.cell? ⟨gt, 0, none⟩ = some (.map (some b))) (hm : w.cell? ⟨gm, 0, none⟩ = some (.slice A vs.length c)) (hM : MapOf vecM w b n (firstK vs vs.length)) (hj : j < vs.length) (hok : okV vs[j]) :
    Calls Try.prog 81 #[.int .i64 (j : Nat), .pointer (some ⟨gt, 0, none⟩), .pointer (some ⟨gm, 0, none⟩)] w fun e w' => e = .returned (.int .i64 (fstV vs vs[j])) ∧ w.grownBy w' none := by
  obtain ⟨g, o, rfl, -, hbg, hcc⟩ := hl.v3 (by omega)
  obtain ⟨x0, x1, x2⟩ := hcc j hj
  clear hcc
  have hr := firstK_all (vs := vs) (v := vs[j]) (List.getElem_mem hj)
  have hB : ∀ wx, w.grownBy wx none → wx.cell? ⟨gt, 0, none⟩ = some (.map (some b)) ∧ wx.cell? ⟨gm, 0, none⟩ = some (.slice (some ⟨g, o, none⟩) vs.length c) ∧ wx.cell? ⟨g, o + j * 3, none⟩ = some (.int .i64 vs[j].x) ∧ wx.cell? ⟨g, o + j * 3 + 1, none⟩ = some (.int .i64 vs[j].y) ∧ wx.cell? ⟨g, o + j * 3 + 2, none⟩ = some (.int .i64 vs[j].z) ∧ (Instr.lookup 103 (.map (some b)) (.agg #[.int .i64 vs[j].x, .int .i64 vs[j].y, .int .i64 vs[j].z]) false).run Try.prog wx = .ok (.int .i64 (fstV vs vs[j] : Nat)) wx :=
    fun wx hx => ⟨hx.k ht, hx.k hm, hx.k x0, hx.k x1, hx.k x2, look_vec (hM.kept hx (by simp)) hok hr⟩
  replace hB := hide hB
  clear hr hok x0 x1 x2 hM
  generalize vs[j] = v at *
  generalize fstV vs v = R at *
  go_enter Try.func81, Try.ntmps81
  go_upto_region 1 with fail
  refine wp_region_tree (fun wx => w.grownBy wx none) [1, 2, 1, 2, 2, 1, 1, 2] (.bl 0 (.bl 1 (.bl 2 (.bl 3 (.bl 4 (.bl 5 (.bl 6 (.bl 7 .done)))))))) (by kernel_rfl) (by kernel_rfl) (gr_drew (World.grownBy.refl _ _)) ?_
  obtain ⟨w1, hw1⟩ : ∃ x, x = (w).drew := ⟨_, rfl⟩
  rw [← hw1]
  have hgw1 : (w).grownBy w1 none := by rw [hw1]; exact gr_drew (World.grownBy.refl _ _)
  clear hw1
  refine tree_b rfl rfl rfl rfl _ rfl (by simp) (fun K hK => ?_)
  apply Exists.intro
  refine ⟨fun wq hq K' hK' => ?_, ?_⟩
  · obtain ⟨c0, c1, c2, c3, c4, c5⟩ := hB.out wq hq
    go_wp2_with fail
    exact hK'
  go_simp
  refine hK _ ?_
  clear hK K
  refine tree_p rfl rfl rfl rfl _ rfl (by simp) (fun K hK => ?_)
  apply Exists.intro
  refine ⟨fun wq K' hK' => ?_, ?_⟩
  · go_wp2_with fail
    exact hK'
  go_simp
  refine hK _ ?_
  clear hK K
  refine tree_b rfl rfl rfl rfl _ rfl (by simp) (fun K hK => ?_)
  apply Exists.intro
  refine ⟨fun wq hq K' hK' => ?_, ?_⟩
  · obtain ⟨c0, c1, c2, c3, c4, c5⟩ := hB.out wq hq
    go_wp2_with fail
    exact hK'
  go_simp
  refine hK _ ?_
  clear hK K
  refine tree_p rfl rfl rfl rfl _ rfl (by simp) (fun K hK => ?_)
  apply Exists.intro
  refine ⟨fun wq K' hK' => ?_, ?_⟩
  · go_wp2_with fail
    exact hK'
  go_simp
  refine hK _ ?_
  clear hK K
  refine tree_p rfl rfl rfl rfl _ rfl (by simp) (fun K hK => ?_)
  apply Exists.intro
  refine ⟨fun wq K' hK' => ?_, ?_⟩
  · go_wp2_with fail
    exact hK'
  go_simp
  refine hK _ ?_
  clear hK K
  refine tree_b rfl rfl rfl rfl _ rfl (by simp) (fun K hK => ?_)
  apply Exists.intro
  refine ⟨fun wq hq K' hK' => ?_, ?_⟩
  · obtain ⟨c0, c1, c2, c3, c4, c5⟩ := hB.out wq hq
    go_wp2_with fail
    exact hK'
  go_simp
  refine hK _ ?_
  clear hK K
  refine tree_b rfl rfl rfl rfl _ rfl (by simp) (fun K hK => ?_)
  apply Exists.intro
  refine ⟨fun wq hq K' hK' => ?_, ?_⟩
  · obtain ⟨c0, c1, c2, c3, c4, c5⟩ := hB.out wq hq
    go_wp2_with fail
    exact hK'
  go_simp
  refine hK _ ?_
  clear hK K
  refine tree_p rfl rfl rfl rfl _ rfl (by simp) (fun K hK => ?_)
  apply Exists.intro
  refine ⟨fun wq K' hK' => ?_, ?_⟩
  · go_wp2_with fail
    exact hK'
  go_simp
  refine hK _ ?_
  clear hK K
  refine tree_done ?_
  go_wp2_with fail
  go_ret
  exact ⟨rfl, hgw1⟩

set_option maxHeartbeats 1000000 in
set_option maxRecDepth 100000 in
theorem weldRefCl_any (gm j : Nat) (A : Option Addr) (c : Nat) (vs : List V3) (w : World) (hl : Sl w 0 A vs) (hm : w.cell? ⟨gm, 0, none⟩ = some (.slice A vs.length c)) (hj : j < vs.length) :
    Calls Try.prog 85 #[.int .i64 (j : Nat), .pointer (some ⟨gm, 0, none⟩)] w fun e w' => e = .returned (.int .i64 (fstV vs vs[j])) ∧ w.grownBy w' none := by
  obtain ⟨g, o, rfl, -, hbg, hcc⟩ := hl.v3 (by omega)
  obtain ⟨x0, x1, x2⟩ := hcc j hj
  clear hcc
  have hB : ∀ wx, w.grownBy wx none → wx.cell? ⟨gm, 0, none⟩ = some (.slice (some ⟨g, o, none⟩) vs.length c) ∧ wx.cell? ⟨g, o + j * 3, none⟩ = some (.int .i64 vs[j].x) ∧ wx.cell? ⟨g, o + j * 3 + 1, none⟩ = some (.int .i64 vs[j].y) ∧ wx.cell? ⟨g, o + j * 3 + 2, none⟩ = some (.int .i64 vs[j].z) :=
    fun wx hx => ⟨hx.k hm, hx.k x0, hx.k x1, hx.k x2⟩
  have hI := fun wx (hx : w.grownBy wx none) => indexV_any (some ⟨g, o, none⟩) c vs vs[j] wx (hl.pure hx) (List.getElem_mem hj)
  replace hB := hide hB
  replace hI := hide hI
  clear x0 x1 x2
  generalize vs[j] = v at *
  go_enter Try.func85, Try.ntmps85
  go_upto_region 1 with fail
  refine wp_region_tree (fun wx => w.grownBy wx none) [2, 1, 2, 1, 2, 2, 1, 0, 2] (.bl 0 (.bl 1 (.bl 2 (.bl 3 (.bl 4 (.bl 5 (.bl 6 (.ef 7 (.bl 8 .done))))))))) (by kernel_rfl) (by kernel_rfl) (gr_drew (World.grownBy.refl _ _)) ?_
  obtain ⟨w1, hw1⟩ : ∃ x, x = (w).drew := ⟨_, rfl⟩
  rw [← hw1]
  have hgw1 : (w).grownBy w1 none := by rw [hw1]; exact gr_drew (World.grownBy.refl _ _)
  clear hw1
  refine tree_p rfl rfl rfl rfl _ rfl (by simp) (fun K hK => ?_)
  apply Exists.intro
  refine ⟨fun wq K' hK' => ?_, ?_⟩
  · go_wp2_with fail
    exact hK'
  go_simp
  refine hK _ ?_
  clear hK K
  refine tree_b rfl rfl rfl rfl _ rfl (by simp) (fun K hK => ?_)
  apply Exists.intro
  refine ⟨fun wq hq K' hK' => ?_, ?_⟩
  · obtain ⟨c0, c1, c2, c3⟩ := hB.out wq hq
    go_wp2_with fail
    exact hK'
  go_simp
  refine hK _ ?_
  clear hK K
  refine tree_p rfl rfl rfl rfl _ rfl (by simp) (fun K hK => ?_)
  apply Exists.intro
  refine ⟨fun wq K' hK' => ?_, ?_⟩
  · go_wp2_with fail
    exact hK'
  go_simp
  refine hK _ ?_
  clear hK K
  refine tree_b rfl rfl rfl rfl _ rfl (by simp) (fun K hK => ?_)
  apply Exists.intro
  refine ⟨fun wq hq K' hK' => ?_, ?_⟩
  · obtain ⟨c0, c1, c2, c3⟩ := hB.out wq hq
    go_wp2_with fail
    exact hK'
  go_simp
  refine hK _ ?_
  clear hK K
  refine tree_p rfl rfl rfl rfl _ rfl (by simp) (fun K hK => ?_)
  apply Exists.intro
  refine ⟨fun wq K' hK' => ?_, ?_⟩
  · go_wp2_with fail
    exact hK'
  go_simp
  refine hK _ ?_
  clear hK K
  refine tree_p rfl rfl rfl rfl _ rfl (by simp) (fun K hK => ?_)
  apply Exists.intro
  refine ⟨fun wq K' hK' => ?_, ?_⟩
  · go_wp2_with fail
    exact hK'
  go_simp
  refine hK _ ?_
  clear hK K
  refine tree_b rfl rfl rfl rfl _ rfl (by simp) (fun K hK => ?_)
  apply Exists.intro
  refine ⟨fun wq hq K' hK' => ?_, ?_⟩
  · obtain ⟨c0, c1, c2, c3⟩ := hB.out wq hq
    go_wp2_with fail
    exact hK'
  go_simp
  refine hK _ ?_
  clear hK K
  refine tree_e0 (by kernel_rfl) rfl rfl (fun K hK => ?_)
  go_wp2_with fail
  refine (hI.out w1 hgw1).mono ?_
  rintro e w7 ⟨rfl, hg7⟩
  go_wp2_with fail
  try go_simp
  refine hK _ _ trivial ?_
  clear hK K
  refine tree_p rfl rfl rfl rfl _ rfl (by simp) (fun K hK => ?_)
  apply Exists.intro
  refine ⟨fun wq K' hK' => ?_, ?_⟩
  · go_wp2_with fail
    exact hK'
  go_simp
  refine hK _ ?_
  clear hK K
  refine tree_done ?_
  go_wp2_with fail
  go_ret
  exact ⟨rfl, gr_trans hgw1 hg7⟩
end Go.Proofs.Ytjodjdjfagjiaaa

namespace Go.Proofs.Ytjodjdjfagjiaaa
open Go.RowKit Go.Bl

def weldF (vs : List V3) (f : Fc) : Fc := ⟨fstV vs (vs.getD f.a.toNat ⟨0, 0, 0⟩), fstV vs (vs.getD f.b.toNat ⟨0, 0, 0⟩), fstV vs (vs.getD f.c.toNat ⟨0, 0, 0⟩)⟩
def okFc (g : Fc) : Bool := g.a != g.b && (g.b != g.c && g.c != g.a)
def weldK (vs : List V3) (fs : List Fc) (k : Nat) : List Fc := ((fs.take k).map (weldF vs)).filter okFc
def weldM (vs : List V3) (fs : List Fc) : MeshV := trimM ⟨vs, weldK vs fs fs.length⟩
theorem weldK_zero (vs : List V3) (fs : List Fc) : weldK vs fs 0 = [] := by simp [weldK]
theorem weldK_yes {vs : List V3} {fs : List Fc} {k : Nat} (h : k < fs.length) {g : Fc} (hg : weldF vs fs[k] = g) (ho : okFc g = true) : weldK vs fs (k + 1) = weldK vs fs k ++ [g] := by
  unfold weldK; rw [take_snoc h, List.map_append, List.filter_append, List.map_singleton, hg]; simp [ho]
theorem weldK_no {vs : List V3} {fs : List Fc} {k : Nat} (h : k < fs.length) {g : Fc} (hg : weldF vs fs[k] = g) (ho : okFc g = false) : weldK vs fs (k + 1) = weldK vs fs k := by
  unfold weldK; rw [take_snoc h, List.map_append, List.filter_append, List.map_singleton, hg]; simp [ho]
theorem weldK_len (vs : List V3) (fs : List Fc) (k : Nat) : (weldK vs fs k).length ≤ k := by
  unfold weldK
  refine Nat.le_trans (List.length_filter_le _ _) ?_
  rw [List.length_map, List.length_take]; omega
theorem weldF_of {vs : List V3} {f : Fc} {ia ib ic : Nat} (ha : f.a = ia) (hb : f.b = ib) (hc : f.c = ic) (la : ia < vs.length) (lb : ib < vs.length) (lc : ic < vs.length) : weldF vs f = ⟨fstV vs vs[ia], fstV vs vs[ib], fstV vs vs[ic]⟩ := by
  unfold weldF
  rw [ha, hb, hc, Int.toNat_natCast, Int.toNat_natCast, Int.toNat_natCast]
  simp only [List.getD_eq_getElem?_getD, List.getElem?_eq_getElem la, List.getElem?_eq_getElem lb, List.getElem?_eq_getElem lc, Option.getD_some]
theorem weldK_in {vs : List V3} {fs : List Fc} (hin : ∀ f ∈ fs, inF vs.length f = true) (k : Nat) : ∀ f ∈ weldK vs fs k, inF vs.length f = true := by
  intro g hg
  unfold weldK at hg
  obtain ⟨hg, -⟩ := List.mem_filter.1 hg
  obtain ⟨f, hf, rfl⟩ := List.mem_map.1 hg
  have hfi := inF_bd (hin f (List.mem_of_mem_take hf))
  obtain ⟨ia, eia⟩ := Int.eq_ofNat_of_zero_le hfi.1.1
  obtain ⟨ib, eib⟩ := Int.eq_ofNat_of_zero_le hfi.2.1.1
  obtain ⟨ic, eic⟩ := Int.eq_ofNat_of_zero_le hfi.2.2.1
  have hia : ia < vs.length := by omega
  have hib : ib < vs.length := by omega
  have hic : ic < vs.length := by omega
  rw [weldF_of eia eib eic hia hib hic]
  have h1 := fstV_lt (List.getElem_mem hia)
  have h2 := fstV_lt (List.getElem_mem hib)
  have h3 := fstV_lt (List.getElem_mem hic)
  simp [inF, inI]
  omega

set_option maxHeartbeats 4000000 in
set_option maxRecDepth 100000 in
theorem weldedRef_any (A : Option Addr) (c : Nat) (vs : List V3) (B : Option Addr) (d : Nat) (fs : List Fc) (w : World) (hl : Sl w 0 A vs) (hfs : Sl w 0 B fs) (hM : meshF ⟨vs, fs⟩ = 0) :
    Calls Try.prog 35 #[.agg #[.slice A vs.length c, .slice B fs.length d]] w (SMeshE w.heap.size (okM (weldM vs fs)) (meshF (weldM vs fs)) w) := by
  obtain ⟨-, hvl, hfl, -, hv⟩ := right_bd hM
  have hin := right_in hM
  clear hM
  obtain ⟨W, hW⟩ : ∃ W, W = (w.alloc (.cells #[.slice A vs.length c, .slice B fs.length d] 29)).alloc (.cells #[.slice none 0 0, .slice none 0 0] 29) := ⟨_, rfl⟩
  have hWs : W.heap.size = w.heap.size + 1 + 1 := by rw [hW]; simp
  have hgW : w.grownBy W none := by rw [hW]; exact (by repeat (first | exact World.grownBy.refl _ _ | assumption | refine gr_alloc ?_ _ | (apply gr_tail; assumption) | refine gr_drewN ?_ _ | refine gr_drew ?_))
  have b0 : W.cell? ⟨w.heap.size, 0, none⟩ = some (.slice A vs.length c) := by rw [hW]; go_simp
  have b1 : W.cell? ⟨w.heap.size, 1, none⟩ = some (.slice B fs.length d) := by rw [hW]; go_simp
  have q0 : Cell W (w.heap.size + 1) 0 (.slice none 0 0) := by rw [hW]; exact ⟨by go_simp, by go_simp⟩
  have q1 : Cell W (w.heap.size + 1) 1 (.slice none 0 0) := by rw [hW]; exact ⟨by go_simp, by go_simp⟩
  replace hW := hide hW.symm
  replace hWs := hide hWs
  replace q0 := hide q0
  replace q1 := hide q1
  replace hin := hide hin
  have hCl := hide (cloneV3_any A c vs W (hl.pure hgW) (by omega))
  go_enter Try.func35, Try.ntmps35
  go_upto_region 1 with fail
  rw [hW.out]
  go_wp2_with fail
  refine hCl.out.mono ?_
  rintro e w1 ⟨A1, c1, rfl, ho1, hg1⟩
  have b1W := b1
  replace b1 := hg1.k b1
  obtain ⟨go, hgo⟩ : ∃ g, g = w1.heap.size := ⟨_, rfl⟩
  have hO := Box.new w1 [.slice A1 vs.length c1, .slice none 0 0] 29
  have hq0 := gr_alloc (World.grownBy.refl w1 none) (.cells [.slice A1 vs.length c1, .slice none 0 0].toArray 29)
  rw [← hgo] at hO
  have hgo2 : Hid (W.heap.size ≤ go) := by rw [Hid, hgo]; exact hg1.size
  obtain ⟨W3, hW3⟩ : ∃ x, x = w1.alloc (.cells #[.slice A1 vs.length c1, .slice none 0 0] 29) := ⟨_, rfl⟩
  have hg3 : W.grownBy W3 none := by rw [hW3]; exact gr_trans hg1 hq0
  have hoV : Own W3 W.heap.size 49 A1 c1 vs := by rw [hW3]; exact ho1.pure hq0
  replace hO : Box W3 go 29 [.slice A1 vs.length c1, .slice none 0 0] := by rw [hW3]; exact hO
  replace hW3 := hide hW3.symm
  replace hgo := hide hgo.symm
  clear hq0 ho1 hCl
  go_upto_region 3 with fail
  rw [hW3.out, hgo.out]
  have b1' := hg3.k b1W
  clear b1 hg1
  go_wp2_with fail
  go_loopw [17] (fun i wr => ∃ (k : Nat) (B' : Option Addr) (d' : Nat), k ≤ fs.length ∧ i = .int .i64 k ∧ Box wr go 29 [.slice A1 vs.length c1, .slice B' (weldK vs fs k).length d'] ∧ Own wr W.heap.size 67 B' d' (weldK vs fs k) ∧ Own wr W.heap.size 49 A1 c1 vs ∧ W.grownBy wr none) (fun i _ => fs.length - (intOf i).toNat)
  case atStart => exact ⟨0, none, 0, by omega, rfl, by rw [weldK_zero]; exact hO, by rw [weldK_zero]; exact Own.nil _ _ _, hoV, hg3⟩
  case round =>
    clear hO hoV hg3 b1'
    obtain ⟨k, B', d', hk, rfl, hO0, hF0, hoV0, hg0⟩ := hrel
    have hgw := gr_trans hgW hg0
    by_cases hlt : k < fs.length
    · obtain ⟨gf, of, rfl, -, hbf, hcc⟩ := (hfs.pure hgw).fc (by omega)
      obtain ⟨x0, x1, x2⟩ := hcc k hlt
      clear hcc
      have hmem := List.getElem_mem hlt
      have hfi := inF_bd (hin.out _ hmem)
      obtain ⟨ia, eia⟩ := Int.eq_ofNat_of_zero_le hfi.1.1
      obtain ⟨ib, eib⟩ := Int.eq_ofNat_of_zero_le hfi.2.1.1
      obtain ⟨ic, eic⟩ := Int.eq_ofNat_of_zero_le hfi.2.2.1
      have hia : ia < vs.length := by omega
      have hib : ib < vs.length := by omega
      have hic : ic < vs.length := by omega
      have hwf := weldF_of eia eib eic hia hib hic
      rw [eia] at x0
      rw [eib] at x1
      rw [eic] at x2
      have hyes := weldK_yes (vs := vs) hlt hwf
      have hno := weldK_no (vs := vs) hlt hwf
      have hkl := weldK_len vs fs k
      have hca := fun wx (hx : W.grownBy wx none) => weldRefCl_any w.heap.size ia A c vs wx (hl.pure (gr_trans hgW hx)) (hx.k b0) hia
      have hcb := fun wx (hx : W.grownBy wx none) => weldRefCl_any w.heap.size ib A c vs wx (hl.pure (gr_trans hgW hx)) (hx.k b0) hib
      have hcc := fun wx (hx : W.grownBy wx none) => weldRefCl_any w.heap.size ic A c vs wx (hl.pure (gr_trans hgW hx)) (hx.k b0) hic
      generalize ((fstV vs vs[ia] : Nat) : Int) = ra at *
      generalize ((fstV vs vs[ib] : Nat) : Int) = rb at *
      generalize ((fstV vs vs[ic] : Nat) : Int) = rc at *
      clear hwf eia eib eic hfi hmem hia hib hic
      obtain ⟨FL, hFL⟩ : ∃ FL, FL = weldK vs fs k := ⟨_, rfl⟩
      rw [← hFL] at hO0 hF0 hyes hno hkl
      replace hFL := hide hFL
      replace hyes := hide hyes
      replace hno := hide hno
      replace hca := hide hca
      replace hcb := hide hcb
      replace hcc := hide hcc
      replace hF0 := hide hF0
      replace hO0 := hide hO0
      replace hoV0 := hide hoV0
      go_upto_region 6 with fail
      obtain ⟨wn, hwn⟩ : ∃ x, x = wr.alloc (.cells #[.int .i64 ia, .int .i64 ib, .int .i64 ic] 67) := ⟨_, rfl⟩
      have hbn : Box wn wr.heap.size 67 [.int .i64 ia, .int .i64 ib, .int .i64 ic] := by rw [hwn]; exact Box.new _ _ _
      have hgn : wr.grownBy wn none := by rw [hwn]; exact gr_alloc (World.grownBy.refl _ _) _
      rw [← hwn]
      clear hwn
      have hB : ∀ wx, wn.grownBy wx none → wx.cell? ⟨wr.heap.size, 0, none⟩ = some (.int .i64 ia) ∧ wx.cell? ⟨wr.heap.size, 1, none⟩ = some (.int .i64 ib) ∧ wx.cell? ⟨wr.heap.size, 2, none⟩ = some (.int .i64 ic) := fun wx hx => ⟨hx.k (hbn.c 0 rfl).1, hx.k (hbn.c 1 rfl).1, hx.k (hbn.c 2 rfl).1⟩
      replace hB := hide hB
      have hgWn := gr_trans hg0 hgn
      clear hbn x0 x1 x2
      go_cut [8] from 21 to 33 (fun s8 wx => ∃ gx, s8 = .pointer (some ⟨gx, 0, none⟩) ∧ Box wx gx 67 [.int .i64 ra, .int .i64 rb, .int .i64 rc] ∧ wr.grownBy wx none)
      case first =>
        refine wp_region_tree (fun wx => wn.grownBy wx none) [2, 2, 1, 0, 2, 2, 1, 0, 2, 2, 1, 0, 2, 0, 0] (.bl 0 (.bl 1 (.bl 2 (.bl 4 (.bl 5 (.bl 6 (.bl 8 (.bl 9 (.bl 10 (.alt (.ef 3 (.alt (.ef 7 (.alt (.ef 11 (.bl 12 (.ef 13 (.ef 14 .done)))) (.ef 13 (.ef 11 (.bl 12 (.ef 14 .done)))))) (.ef 13 (.ef 7 (.ef 11 (.bl 12 (.ef 14 .done))))))) (.ef 13 (.ef 3 (.ef 7 (.ef 11 (.bl 12 (.ef 14 .done)))))))))))))))) (by kernel_rfl) (by kernel_rfl) (gr_drew (World.grownBy.refl _ _)) ?_
        obtain ⟨w1, hw1⟩ : ∃ x, x = (wn).drew := ⟨_, rfl⟩
        rw [← hw1]
        have hgw1 : (wn).grownBy w1 none := by rw [hw1]; exact gr_drew (World.grownBy.refl _ _)
        clear hw1
        refine tree_p rfl rfl rfl rfl _ rfl (by simp) (fun K hK => ?_)
        apply Exists.intro
        refine ⟨fun wq K' hK' => ?_, ?_⟩
        · go_wp2_with fail
          exact hK'
        go_simp
        refine hK _ ?_
        clear hK K
        refine tree_p rfl rfl rfl rfl _ rfl (by simp) (fun K hK => ?_)
        apply Exists.intro
        refine ⟨fun wq K' hK' => ?_, ?_⟩
        · go_wp2_with fail
          exact hK'
        go_simp
        refine hK _ ?_
        clear hK K
        refine tree_b rfl rfl rfl rfl _ rfl (by simp) (fun K hK => ?_)
        apply Exists.intro
        refine ⟨fun wq hq K' hK' => ?_, ?_⟩
        · obtain ⟨c0, c1, c2⟩ := hB.out wq hq
          go_wp2_with fail
          exact hK'
        go_simp
        refine hK _ ?_
        clear hK K
        refine tree_p rfl rfl rfl rfl _ rfl (by simp) (fun K hK => ?_)
        apply Exists.intro
        refine ⟨fun wq K' hK' => ?_, ?_⟩
        · go_wp2_with fail
          exact hK'
        go_simp
        refine hK _ ?_
        clear hK K
        refine tree_p rfl rfl rfl rfl _ rfl (by simp) (fun K hK => ?_)
        apply Exists.intro
        refine ⟨fun wq K' hK' => ?_, ?_⟩
        · go_wp2_with fail
          exact hK'
        go_simp
        refine hK _ ?_
        clear hK K
        refine tree_b rfl rfl rfl rfl _ rfl (by simp) (fun K hK => ?_)
        apply Exists.intro
        refine ⟨fun wq hq K' hK' => ?_, ?_⟩
        · obtain ⟨c0, c1, c2⟩ := hB.out wq hq
          go_wp2_with fail
          exact hK'
        go_simp
        refine hK _ ?_
        clear hK K
        refine tree_p rfl rfl rfl rfl _ rfl (by simp) (fun K hK => ?_)
        apply Exists.intro
        refine ⟨fun wq K' hK' => ?_, ?_⟩
        · go_wp2_with fail
          exact hK'
        go_simp
        refine hK _ ?_
        clear hK K
        refine tree_p rfl rfl rfl rfl _ rfl (by simp) (fun K hK => ?_)
        apply Exists.intro
        refine ⟨fun wq K' hK' => ?_, ?_⟩
        · go_wp2_with fail
          exact hK'
        go_simp
        refine hK _ ?_
        clear hK K
        refine tree_b rfl rfl rfl rfl _ rfl (by simp) (fun K hK => ?_)
        apply Exists.intro
        refine ⟨fun wq hq K' hK' => ?_, ?_⟩
        · obtain ⟨c0, c1, c2⟩ := hB.out wq hq
          go_wp2_with fail
          exact hK'
        go_simp
        refine hK _ ?_
        clear hK K
        refine tree_alt ?_ ?_
        · refine tree_e rfl rfl (fun K hK => ?_)
          go_wp2_with fail
          refine (hca.out w1 (gr_trans hgWn (gr_trans hgw1 (World.grownBy.refl _ _)))).mono ?_
          rintro e w3 ⟨rfl, hg3⟩
          go_wp2_with fail
          try go_simp
          refine hK _ _ (gr_trans (gr_trans hgw1 (World.grownBy.refl _ _)) hg3) ?_
          clear hK K
          refine tree_alt ?_ ?_
          · refine tree_e rfl rfl (fun K hK => ?_)
            go_wp2_with fail
            refine (hcb.out w3 (gr_trans hgWn (gr_trans hgw1 hg3))).mono ?_
            rintro e w7 ⟨rfl, hg7⟩
            go_wp2_with fail
            try go_simp
            refine hK _ _ (gr_trans (gr_trans hgw1 hg3) hg7) ?_
            clear hK K
            refine tree_alt ?_ ?_
            · refine tree_e0 (by kernel_rfl) rfl rfl (fun K hK => ?_)
              go_wp2_with fail
              refine (hcc.out w7 (gr_trans hgWn (gr_trans hgw1 (gr_trans hg3 hg7)))).mono ?_
              rintro e w11 ⟨rfl, hg11⟩
              go_wp2_with fail
              try go_simp
              refine hK _ _ trivial ?_
              clear hK K
              refine tree_p rfl rfl rfl rfl _ rfl (by simp) (fun K hK => ?_)
              apply Exists.intro
              refine ⟨fun wq K' hK' => ?_, ?_⟩
              · go_wp2_with fail
                exact hK'
              go_simp
              refine hK _ ?_
              clear hK K
              refine tree_e rfl rfl (fun K hK => ?_)
              go_wp2_with fail
              try go_simp
              refine hK _ _ (gr_alloc (gr_trans hgw1 (gr_trans (gr_trans hg3 hg7) hg11)) _) ?_
              clear hK K
              obtain ⟨w13, hw13⟩ : ∃ x, x = (w11).alloc (.cells [.int .i64 0, .int .i64 0, .int .i64 0].toArray 67) := ⟨_, rfl⟩
              have hg13 : (w11).grownBy w13 none := by rw [hw13]; exact gr_alloc (World.grownBy.refl _ _) _
              have hb13 : Box w13 (w11).heap.size 67 [.int .i64 0, .int .i64 0, .int .i64 0] := by rw [hw13]; exact Box.new _ _ _
              rw [← hw13]
              clear hw13
              obtain ⟨x13, hx13⟩ : ∃ x, x = (w11).heap.size := ⟨_, rfl⟩
              rw [← hx13] at hb13 ⊢
              have hxl13 : (w11).heap.size ≤ x13 := by omega
              clear hx13
              have hxw : wn.heap.size ≤ x13 := Nat.le_trans (gr_trans hgw1 (gr_trans (gr_trans hg3 hg7) hg11)).size hxl13
              refine tree_e0 (by kernel_rfl) rfl rfl (fun K hK => ?_)
              have hb14 := hb13.pure (w' := w13) (World.grownBy.refl _ _)
              obtain ⟨m0, f0⟩ := hb14.c 0 rfl
              obtain ⟨m1, f1⟩ := hb14.c 1 rfl
              obtain ⟨m2, f2⟩ := hb14.c 2 rfl
              have hgg := gr_trans hgn (gr_trans hgw1 (gr_trans (gr_trans (gr_trans hg3 hg7) hg11) hg13))
              go_wp2_with fail
              try go_simp
              refine hK _ _ trivial ?_
              clear hK K
              refine tree_done ?_
              obtain ⟨wg, hwg⟩ : ∃ x, x = (((w13).setCell ⟨x13, 0, none⟩ (.int .i64 ra)).setCell ⟨x13, 1, none⟩ (.int .i64 rb)).setCell ⟨x13, 2, none⟩ (.int .i64 rc) := ⟨_, rfl⟩
              rw [← hwg]
              have hbg : Box wg x13 67 [.int .i64 ra, .int .i64 rb, .int .i64 rc] := by rw [hwg]; exact ((hb14.set_ 0 _ (by simp)).set_ 1 _ (by simp)).set_ 2 _ (by simp)
              replace hgg : wr.grownBy wg none := by rw [hwg]; exact gr_set (gr_set (gr_set hgg (.inr (Nat.le_trans hgn.size hxw)) _) (.inr (Nat.le_trans hgn.size hxw)) _) (.inr (Nat.le_trans hgn.size hxw)) _
              clear hwg hb14 m0 m1 m2 f0 f1 f2
              go_wp2_with fail
              go_meet
              exact ⟨x13, rfl, hbg, hgg⟩
            · refine tree_e rfl rfl (fun K hK => ?_)
              go_wp2_with fail
              try go_simp
              refine hK _ _ (gr_alloc (gr_trans hgw1 (gr_trans hg3 hg7)) _) ?_
              clear hK K
              obtain ⟨w13, hw13⟩ : ∃ x, x = (w7).alloc (.cells [.int .i64 0, .int .i64 0, .int .i64 0].toArray 67) := ⟨_, rfl⟩
              have hg13 : (w7).grownBy w13 none := by rw [hw13]; exact gr_alloc (World.grownBy.refl _ _) _
              have hb13 : Box w13 (w7).heap.size 67 [.int .i64 0, .int .i64 0, .int .i64 0] := by rw [hw13]; exact Box.new _ _ _
              rw [← hw13]
              clear hw13
              obtain ⟨x13, hx13⟩ : ∃ x, x = (w7).heap.size := ⟨_, rfl⟩
              rw [← hx13] at hb13 ⊢
              have hxl13 : (w7).heap.size ≤ x13 := by omega
              clear hx13
              have hxw : wn.heap.size ≤ x13 := Nat.le_trans (gr_trans hgw1 (gr_trans hg3 hg7)).size hxl13
              refine tree_e0 (by kernel_rfl) rfl rfl (fun K hK => ?_)
              go_wp2_with fail
              refine (hcc.out w13 (gr_trans hgWn (gr_trans hgw1 (gr_trans (gr_trans hg3 hg7) hg13)))).mono ?_
              rintro e w11 ⟨rfl, hg11⟩
              go_wp2_with fail
              try go_simp
              refine hK _ _ trivial ?_
              clear hK K
              refine tree_p rfl rfl rfl rfl _ rfl (by simp) (fun K hK => ?_)
              apply Exists.intro
              refine ⟨fun wq K' hK' => ?_, ?_⟩
              · go_wp2_with fail
                exact hK'
              go_simp
              refine hK _ ?_
              clear hK K
              refine tree_e0 (by kernel_rfl) rfl rfl (fun K hK => ?_)
              have hb14 := hb13.pure (w' := w11) hg11
              obtain ⟨m0, f0⟩ := hb14.c 0 rfl
              obtain ⟨m1, f1⟩ := hb14.c 1 rfl
              obtain ⟨m2, f2⟩ := hb14.c 2 rfl
              have hgg := gr_trans hgn (gr_trans hgw1 (gr_trans (gr_trans (gr_trans hg3 hg7) hg13) hg11))
              go_wp2_with fail
              try go_simp
              refine hK _ _ trivial ?_
              clear hK K
              refine tree_done ?_
              obtain ⟨wg, hwg⟩ : ∃ x, x = (((w11).setCell ⟨x13, 0, none⟩ (.int .i64 ra)).setCell ⟨x13, 1, none⟩ (.int .i64 rb)).setCell ⟨x13, 2, none⟩ (.int .i64 rc) := ⟨_, rfl⟩
              rw [← hwg]
              have hbg : Box wg x13 67 [.int .i64 ra, .int .i64 rb, .int .i64 rc] := by rw [hwg]; exact ((hb14.set_ 0 _ (by simp)).set_ 1 _ (by simp)).set_ 2 _ (by simp)
              replace hgg : wr.grownBy wg none := by rw [hwg]; exact gr_set (gr_set (gr_set hgg (.inr (Nat.le_trans hgn.size hxw)) _) (.inr (Nat.le_trans hgn.size hxw)) _) (.inr (Nat.le_trans hgn.size hxw)) _
              clear hwg hb14 m0 m1 m2 f0 f1 f2
              go_wp2_with fail
              go_meet
              exact ⟨x13, rfl, hbg, hgg⟩
          · refine tree_e rfl rfl (fun K hK => ?_)
            go_wp2_with fail
            try go_simp
            refine hK _ _ (gr_alloc (gr_trans hgw1 hg3) _) ?_
            clear hK K
            obtain ⟨w13, hw13⟩ : ∃ x, x = (w3).alloc (.cells [.int .i64 0, .int .i64 0, .int .i64 0].toArray 67) := ⟨_, rfl⟩
            have hg13 : (w3).grownBy w13 none := by rw [hw13]; exact gr_alloc (World.grownBy.refl _ _) _
            have hb13 : Box w13 (w3).heap.size 67 [.int .i64 0, .int .i64 0, .int .i64 0] := by rw [hw13]; exact Box.new _ _ _
            rw [← hw13]
            clear hw13
            obtain ⟨x13, hx13⟩ : ∃ x, x = (w3).heap.size := ⟨_, rfl⟩
            rw [← hx13] at hb13 ⊢
            have hxl13 : (w3).heap.size ≤ x13 := by omega
            clear hx13
            have hxw : wn.heap.size ≤ x13 := Nat.le_trans (gr_trans hgw1 hg3).size hxl13
            refine tree_e rfl rfl (fun K hK => ?_)
            go_wp2_with fail
            refine (hcb.out w13 (gr_trans hgWn (gr_trans hgw1 (gr_trans hg3 hg13)))).mono ?_
            rintro e w7 ⟨rfl, hg7⟩
            go_wp2_with fail
            try go_simp
            refine hK _ _ (gr_trans (gr_trans hgw1 (gr_trans hg3 hg13)) hg7) ?_
            clear hK K
            refine tree_e0 (by kernel_rfl) rfl rfl (fun K hK => ?_)
            go_wp2_with fail
            refine (hcc.out w7 (gr_trans hgWn (gr_trans hgw1 (gr_trans (gr_trans hg3 hg13) hg7)))).mono ?_
            rintro e w11 ⟨rfl, hg11⟩
            go_wp2_with fail
            try go_simp
            refine hK _ _ trivial ?_
            clear hK K
            refine tree_p rfl rfl rfl rfl _ rfl (by simp) (fun K hK => ?_)
            apply Exists.intro
            refine ⟨fun wq K' hK' => ?_, ?_⟩
            · go_wp2_with fail
              exact hK'
            go_simp
            refine hK _ ?_
            clear hK K
            refine tree_e0 (by kernel_rfl) rfl rfl (fun K hK => ?_)
            have hb14 := hb13.pure (w' := w11) (gr_trans hg7 hg11)
            obtain ⟨m0, f0⟩ := hb14.c 0 rfl
            obtain ⟨m1, f1⟩ := hb14.c 1 rfl
            obtain ⟨m2, f2⟩ := hb14.c 2 rfl
            have hgg := gr_trans hgn (gr_trans hgw1 (gr_trans (gr_trans (gr_trans hg3 hg13) hg7) hg11))
            go_wp2_with fail
            try go_simp
            refine hK _ _ trivial ?_
            clear hK K
            refine tree_done ?_
            obtain ⟨wg, hwg⟩ : ∃ x, x = (((w11).setCell ⟨x13, 0, none⟩ (.int .i64 ra)).setCell ⟨x13, 1, none⟩ (.int .i64 rb)).setCell ⟨x13, 2, none⟩ (.int .i64 rc) := ⟨_, rfl⟩
            rw [← hwg]
            have hbg : Box wg x13 67 [.int .i64 ra, .int .i64 rb, .int .i64 rc] := by rw [hwg]; exact ((hb14.set_ 0 _ (by simp)).set_ 1 _ (by simp)).set_ 2 _ (by simp)
            replace hgg : wr.grownBy wg none := by rw [hwg]; exact gr_set (gr_set (gr_set hgg (.inr (Nat.le_trans hgn.size hxw)) _) (.inr (Nat.le_trans hgn.size hxw)) _) (.inr (Nat.le_trans hgn.size hxw)) _
            clear hwg hb14 m0 m1 m2 f0 f1 f2
            go_wp2_with fail
            go_meet
            exact ⟨x13, rfl, hbg, hgg⟩
        · refine tree_e rfl rfl (fun K hK => ?_)
          go_wp2_with fail
          try go_simp
          refine hK _ _ (gr_alloc (gr_trans hgw1 (World.grownBy.refl _ _)) _) ?_
          clear hK K
          obtain ⟨w13, hw13⟩ : ∃ x, x = (w1).alloc (.cells [.int .i64 0, .int .i64 0, .int .i64 0].toArray 67) := ⟨_, rfl⟩
          have hg13 : (w1).grownBy w13 none := by rw [hw13]; exact gr_alloc (World.grownBy.refl _ _) _
          have hb13 : Box w13 (w1).heap.size 67 [.int .i64 0, .int .i64 0, .int .i64 0] := by rw [hw13]; exact Box.new _ _ _
          rw [← hw13]
          clear hw13
          obtain ⟨x13, hx13⟩ : ∃ x, x = (w1).heap.size := ⟨_, rfl⟩
          rw [← hx13] at hb13 ⊢
          have hxl13 : (w1).heap.size ≤ x13 := by omega
          clear hx13
          have hxw : wn.heap.size ≤ x13 := Nat.le_trans (gr_trans hgw1 (World.grownBy.refl _ _)).size hxl13
          refine tree_e rfl rfl (fun K hK => ?_)
          go_wp2_with fail
          refine (hca.out w13 (gr_trans hgWn (gr_trans hgw1 hg13))).mono ?_
          rintro e w3 ⟨rfl, hg3⟩
          go_wp2_with fail
          try go_simp
          refine hK _ _ (gr_trans (gr_trans hgw1 hg13) hg3) ?_
          clear hK K
          refine tree_e rfl rfl (fun K hK => ?_)
          go_wp2_with fail
          refine (hcb.out w3 (gr_trans hgWn (gr_trans hgw1 (gr_trans hg13 hg3)))).mono ?_
          rintro e w7 ⟨rfl, hg7⟩
          go_wp2_with fail
          try go_simp
          refine hK _ _ (gr_trans (gr_trans hgw1 (gr_trans hg13 hg3)) hg7) ?_
          clear hK K
          refine tree_e0 (by kernel_rfl) rfl rfl (fun K hK => ?_)
          go_wp2_with fail
          refine (hcc.out w7 (gr_trans hgWn (gr_trans hgw1 (gr_trans (gr_trans hg13 hg3) hg7)))).mono ?_
          rintro e w11 ⟨rfl, hg11⟩
          go_wp2_with fail
          try go_simp
          refine hK _ _ trivial ?_
          clear hK K
          refine tree_p rfl rfl rfl rfl _ rfl (by simp) (fun K hK => ?_)
          apply Exists.intro
          refine ⟨fun wq K' hK' => ?_, ?_⟩
          · go_wp2_with fail
            exact hK'
          go_simp
          refine hK _ ?_
          clear hK K
          refine tree_e0 (by kernel_rfl) rfl rfl (fun K hK => ?_)
          have hb14 := hb13.pure (w' := w11) (gr_trans (gr_trans hg3 hg7) hg11)
          obtain ⟨m0, f0⟩ := hb14.c 0 rfl
          obtain ⟨m1, f1⟩ := hb14.c 1 rfl
          obtain ⟨m2, f2⟩ := hb14.c 2 rfl
          have hgg := gr_trans hgn (gr_trans hgw1 (gr_trans (gr_trans (gr_trans hg13 hg3) hg7) hg11))
          go_wp2_with fail
          try go_simp
          refine hK _ _ trivial ?_
          clear hK K
          refine tree_done ?_
          obtain ⟨wg, hwg⟩ : ∃ x, x = (((w11).setCell ⟨x13, 0, none⟩ (.int .i64 ra)).setCell ⟨x13, 1, none⟩ (.int .i64 rb)).setCell ⟨x13, 2, none⟩ (.int .i64 rc) := ⟨_, rfl⟩
          rw [← hwg]
          have hbg : Box wg x13 67 [.int .i64 ra, .int .i64 rb, .int .i64 rc] := by rw [hwg]; exact ((hb14.set_ 0 _ (by simp)).set_ 1 _ (by simp)).set_ 2 _ (by simp)
          replace hgg : wr.grownBy wg none := by rw [hwg]; exact gr_set (gr_set (gr_set hgg (.inr (Nat.le_trans hgn.size hxw)) _) (.inr (Nat.le_trans hgn.size hxw)) _) (.inr (Nat.le_trans hgn.size hxw)) _
          clear hwg hb14 m0 m1 m2 f0 f1 f2
          go_wp2_with fail
          go_meet
          exact ⟨x13, rfl, hbg, hgg⟩
      case rest =>
      obtain ⟨gx, rfl, hbg, hgg⟩ := hcut
      have hlwr : wr.heap.size ≤ wc.heap.size := hgg.size
      obtain ⟨y0, z0⟩ := hbg.c 0 rfl
      obtain ⟨y1, z1⟩ := hbg.c 1 rfl
      obtain ⟨y2, z2⟩ := hbg.c 2 rfl
      have hO := hO0.out.pure hgg
      have hF := hF0.out.pure hgg
      have hoV := hoV0.out.pure hgg
      have hg := gr_trans hg0 hgg
      have hltb := hbg.lt
      have hlto := hO.lt
      obtain ⟨o0, p0⟩ := hO.c 0 rfl
      obtain ⟨o1, p1⟩ := hO.c 1 rfl
      by_cases hok : okFc ⟨ra, rb, rc⟩ = true
      · have hsn := hide (hyes.out hok)
        simp only [okFc, Bool.and_eq_true] at hok
        obtain ⟨k1, k2, k3⟩ := hok
        have hq := gr_alloc (World.grownBy.refl wc none) (.cells #[.int .i64 ra, .int .i64 rb, .int .i64 rc] 67)
        replace hF := hide hF
        replace hoV := hide hoV
        clear hyes hno
        go_wp2_with (at_builtin; obtain ⟨i0, hi, hz, h1, h2⟩ := info_parts info_face; refine wpList_pushAt (α := Fc) _ rfl (.tmp 54) (.tmp 56) _ rfl W.heap.size 67 i0 _ 24 Try.underlying27 hi hz h1 h2 rfl _ _ _ FL rfl ?c1 (by exact (hF.out.pure hq)) 0 ⟨_, 0, none⟩ 1 1 [⟨ra, rb, rc⟩] rfl rfl (by exact (sl_oneAt _ 0 _ _ _ _ (by first | rfl | simp) (Nat.zero_le _) rfl)) ?c2 ?c3 ?c4 ?_)
        case c1 => rfl
        case c2 => simp; omega
        case c3 => simp [maxLen]; omega
        case c4 => have := hg.size; have := hq.size; omega
        intro B5 d5 w5 hF5 hG5
        have hoq := hF.out.pure hq
        have hO5 := (hO.pure hq).gr hG5.1 ((hO.pure hq).ne_own hoq (by decide))
        have hg05 : W.grownBy w5 none := gr_row (gr_trans hg hq) hG5.1 (fun x e => by have := (hoq.blk_lt e).1; omega)
        have hownq := hoV.out.pure hq
        have hown5 := hownq.ne hG5.1 (fun x hx => hownq.ne_own hoq (by decide) hx)
        rw [← hsn.out] at hF5
        obtain ⟨o0, p0⟩ := hO5.c 0 rfl
        obtain ⟨o1, p1⟩ := hO5.c 1 rfl
        have hO6 := hide (hO5.set_ 1 (.slice B5 (FL.length + 1) d5) (by simp))
        have hown6 := hide (hown5.set_other (i := 1) (.slice B5 (FL.length + 1) d5) (hO5.ne_own hown5 (by decide)))
        have hF6 := hide (hF5.set_other (i := 1) (.slice B5 (FL.length + 1) d5) (hO5.ne_own hF5 (by decide)))
        have hg06 := hide (gr_set hg05 (p := ⟨go, 1, none⟩) (.inr (by have := hgo2.out; simp only; omega)) (.slice B5 (FL.length + 1) d5))
        have hln : Hid ((weldK vs fs (k + 1)).length = FL.length + 1) := by rw [Hid, hsn.out, List.length_append]; rfl
        clear hO5 hown5 hF5 hg05 hoq hG5 hownq hsn
        go_wp2_with fail
        (go_roundw; (case rel => exact ⟨k + 1, B5, d5, by omega, by go_num, by rw [hln.out]; exact hO6.out, hF6.out, hown6.out, hg06.out⟩); (case measure => simp [intOf]; omega))
      · have hno2 := hide (hno.out (by simpa using hok))
        rw [← hno2.out] at hO hF
        have hbb : (ra != rb) = false ∨ ((ra != rb) = true ∧ (rb != rc) = false) ∨ ((ra != rb) = true ∧ (rb != rc) = true ∧ (rc != ra) = false) := by
          simp only [okFc] at hok
          cases h1 : (ra != rb) <;> cases h2 : (rb != rc) <;> cases h3 : (rc != ra) <;> simp_all
        clear hok hyes hno hno2
        replace hO := hide hO
        replace hF := hide hF
        rcases hbb with h1 | ⟨h1, h2⟩ | ⟨h1, h2, h3⟩
        all_goals
          go_wp2_with fail
          (go_roundw; (case rel => exact ⟨k + 1, B', d', by omega, by go_num, hO.out, hF.out, hoV, hg⟩); (case measure => simp [intOf]; omega))
    · have hkn : k = fs.length := by omega
      subst hkn
      obtain ⟨o0, p0⟩ := hO0.c 0 rfl
      obtain ⟨o1, p1⟩ := hO0.c 1 rfl
      have hg := hg0
      have hSV := hoV0.sl.mono (Nat.zero_le _)
      have hSF := hF0.sl.mono (Nat.zero_le _)
      have hinp := weldK_in (vs := vs) hin.out fs.length
      have hffl : (weldK vs fs fs.length).length ≤ 2000 := by have := weldK_len vs fs fs.length; omega
      clear hO0 hF0 hoV0 hk
      obtain ⟨PF, hPF⟩ : ∃ PF, PF = weldK vs fs fs.length := ⟨_, rfl⟩
      have hPM : Hid (weldM vs fs = trimM ⟨vs, PF⟩) := by rw [Hid, hPF]; rfl
      rw [← hPF] at hSF hinp hffl o1
      clear hPF
      have hgo3 := hgo2.out
      have hU := usedRef_any A1 c1 vs B' d' PF wr hSV hSF hinp hvl hffl
      obtain ⟨TM, hTM⟩ : ∃ TM, TM = trimM ⟨vs, PF⟩ := ⟨_, rfl⟩
      rw [← hTM] at hU
      replace hU := hide hU
      obtain ⟨k0, kf0⟩ := q0.out.gr hg (by simp)
      obtain ⟨k1, kf1⟩ := q1.out.gr hg (by simp)
      have hwr := gr_trans hgW hg
      have hle : w.heap.size + 1 < W.heap.size := by have := hWs.out; omega
      have hlw := hg.size
      replace hTM : Hid (weldM vs fs = TM) := by rw [Hid, hTM]; exact hPM.out
      clear hPM hSV hSF hinp
      go_wp2_with fail
      refine hU.out.mono ?_
      rintro e wu ⟨Au, cu, Bu, du, rfl, huV, huF, hgu⟩
      have hR := right_any Au cu TM.vs Bu du TM.fs wu W.heap.size (huV.lower hlw).sl (huF.lower hlw).sl
      replace hR := hide hR
      obtain ⟨k0, kf0⟩ := Cell.gr ⟨k0, kf0⟩ hgu (by simp)
      obtain ⟨k1, kf1⟩ := Cell.gr ⟨k1, kf1⟩ hgu (by simp)
      have hwu := gr_trans hwr hgu
      clear huV huF hU
      go_wp2_with fail
      refine hR.out.mono ?_
      rintro e w9 ⟨A9, c9, B9, d9, rfl, hs9, hf9, hg9⟩
      obtain ⟨k0, kf0⟩ := Cell.gr ⟨k0, kf0⟩ hg9 (by simp)
      obtain ⟨k1, kf1⟩ := Cell.gr ⟨k1, kf1⟩ hg9 (by simp)
      have hgs := fun (v1 v2 : Value) => gr_set (gr_set (World.grownBy.refl w9 (some (w.heap.size + 1))) (p := ⟨w.heap.size + 1, 0, none⟩) (.inl rfl) v1) (p := ⟨w.heap.size + 1, 1, none⟩) (.inl rfl) v2
      have hk := fun v1 v2 => gr_row (gr_trans hwu hg9) (hgs v1 v2) (fun g e => by injection e; omega)
      replace hgs := hide hgs
      replace hk := hide hk
      clear hR
      go_wp2_with fail
      refine bodyPost_ret (v := .tuple #[.agg #[.slice A9 (okM TM).vs.length c9, .slice B9 (okM TM).fs.length d9],   .int .i64 (meshF TM)]) (by simp [results, Try.results35, go_sem, k0, k1, kf0, kf1]) rfl ?_
      rw [hTM.out]
      exact ⟨A9, c9, B9, d9, rfl, (hs9.gr (hgs.out _ _) (fun g e => by injection e; omega)).mono (by omega), (hf9.gr (hgs.out _ _) (fun g e => by injection e; omega)).mono (by omega), hk.out _ _⟩
end Go.Proofs.Ytjodjdjfagjiaaa

namespace Go.Proofs.Ytjodjdjfagjiaaa
open Go.RowKit Go.Bl

def weldE (vs : List V3) (fs : List Fc) : Int := if meshF ⟨vs, fs⟩ ≠ 0 then meshF ⟨vs, fs⟩ else meshF (weldM vs fs)
def weldR (vs : List V3) (fs : List Fc) : MeshV := if meshF ⟨vs, fs⟩ ≠ 0 then ⟨[], []⟩ else okM (weldM vs fs)
theorem okV_bd {v : V3} (h : Bd 100000 v) : okV v := by
  obtain ⟨⟨h1, h2⟩, ⟨h3, h4⟩, h5, h6⟩ := h
  exact ⟨okI_of (by omega), okI_of (by omega), okI_of (by omega)⟩

set_option maxHeartbeats 1000000 in
set_option maxRecDepth 100000 in
theorem welded_bad (A : Option Addr) (c : Nat) (vs : List V3) (B : Option Addr) (d : Nat) (fs : List Fc) (w : World) (hl : Sl w 0 A vs) (hfs : Sl w 0 B fs) (hM : meshF ⟨vs, fs⟩ ≠ 0) :
    Calls Try.prog 31 #[.agg #[.slice A vs.length c, .slice B fs.length d]] w (SMeshE w.heap.size ⟨[], []⟩ (meshF ⟨vs, fs⟩) w) := by
  obtain ⟨W, hW⟩ : ∃ W, W = (w.alloc (.cells #[.slice A vs.length c, .slice B fs.length d] 29)).alloc (.cells #[.slice none 0 0, .slice none 0 0] 29) := ⟨_, rfl⟩
  have hWs : W.heap.size = w.heap.size + 1 + 1 := by rw [hW]; simp
  have hgW : w.grownBy W none := by rw [hW]; exact (by repeat (first | exact World.grownBy.refl _ _ | assumption | refine gr_alloc ?_ _ | (apply gr_tail; assumption) | refine gr_drewN ?_ _ | refine gr_drew ?_))
  have b0 : W.cell? ⟨w.heap.size, 0, none⟩ = some (.slice A vs.length c) := by rw [hW]; go_simp
  have b1 : W.cell? ⟨w.heap.size, 1, none⟩ = some (.slice B fs.length d) := by rw [hW]; go_simp
  have q0 : Cell W (w.heap.size + 1) 0 (.slice none 0 0) := by rw [hW]; exact ⟨by go_simp, by go_simp⟩
  have q1 : Cell W (w.heap.size + 1) 1 (.slice none 0 0) := by rw [hW]; exact ⟨by go_simp, by go_simp⟩
  replace hW := hide hW.symm
  replace hWs := hide hWs
  replace q0 := hide q0
  replace q1 := hide q1
  have hltw : w.heap.size < w.heap.size + 1 := Nat.lt_succ_self _
  have hC := checkMesh_any A c vs B d fs W ((hl.mono (Nat.zero_le _)).pure hgW) ((hfs.mono (Nat.zero_le _)).pure hgW)
  generalize meshF ⟨vs, fs⟩ = E at *
  have hb : (E != 0) = true := by simpa using hM
  clear hM
  replace hC := hide hC
  go_enter Try.func31, Try.ntmps31
  go_upto_region 1 with fail
  rw [hW.out]
  go_wp2_with fail
  refine hC.out.mono ?_
  rintro e w1 ⟨rfl, hg1⟩
  clear hC
  obtain ⟨k0, kf0⟩ := q0.out.gr hg1 (by simp)
  obtain ⟨k1, kf1⟩ := q1.out.gr hg1 (by simp)
  have hgX := gr_trans hgW hg1
  have hgs := fun (v1 v2 : Value) => gr_set (gr_set (World.grownBy.refl w1 (some (w.heap.size + 1))) (p := ⟨w.heap.size + 1, 0, none⟩) (.inl rfl) v1) (p := ⟨w.heap.size + 1, 1, none⟩) (.inl rfl) v2
  have hkk := fun v1 v2 => gr_row hgX (hgs v1 v2) (fun g e => by injection e; omega)
  clear q0 q1
  replace hgs := hide hgs
  replace hkk := hide hkk
  go_wp2_with fail
  exact bodyPost_ret (v := .tuple #[.agg #[.slice none 0 0, .slice none 0 0], .int .i64 E]) (by simp [results, Try.results31, go_sem, k0, k1, kf0, kf1]) rfl ⟨none, 0, none, 0, rfl, slNil _ _ _, slNil _ _ _, hkk.out _ _⟩

set_option maxHeartbeats 4000000 in
set_option maxRecDepth 100000 in
theorem welded_ok (A : Option Addr) (c : Nat) (vs : List V3) (B : Option Addr) (d : Nat) (fs : List Fc) (w : World) (hl : Sl w 0 A vs) (hfs : Sl w 0 B fs) (hM : meshF ⟨vs, fs⟩ = 0) :
    Calls Try.prog 31 #[.agg #[.slice A vs.length c, .slice B fs.length d]] w (SMeshE w.heap.size (okM (weldM vs fs)) (meshF (weldM vs fs)) w) := by
  obtain ⟨hbd, hvl, hfl, -, hv⟩ := right_bd hM
  have hin := right_in hM
  obtain ⟨W, hW⟩ : ∃ W, W = (w.alloc (.cells #[.slice A vs.length c, .slice B fs.length d] 29)).alloc (.cells #[.slice none 0 0, .slice none 0 0] 29) := ⟨_, rfl⟩
  have hWs : W.heap.size = w.heap.size + 1 + 1 := by rw [hW]; simp
  have hgW : w.grownBy W none := by rw [hW]; exact (by repeat (first | exact World.grownBy.refl _ _ | assumption | refine gr_alloc ?_ _ | (apply gr_tail; assumption) | refine gr_drewN ?_ _ | refine gr_drew ?_))
  have b0 : W.cell? ⟨w.heap.size, 0, none⟩ = some (.slice A vs.length c) := by rw [hW]; go_simp
  have b1 : W.cell? ⟨w.heap.size, 1, none⟩ = some (.slice B fs.length d) := by rw [hW]; go_simp
  have q0 : Cell W (w.heap.size + 1) 0 (.slice none 0 0) := by rw [hW]; exact ⟨by go_simp, by go_simp⟩
  have q1 : Cell W (w.heap.size + 1) 1 (.slice none 0 0) := by rw [hW]; exact ⟨by go_simp, by go_simp⟩
  replace hW := hide hW.symm
  replace hWs := hide hWs
  replace q0 := hide q0
  replace q1 := hide q1
  have hltw : w.heap.size < w.heap.size + 1 := Nat.lt_succ_self _
  have hC := checkMesh_any A c vs B d fs W ((hl.mono (Nat.zero_le _)).pure hgW) ((hfs.mono (Nat.zero_le _)).pure hgW)
  rw [hM] at hC
  clear hM
  replace hC := hide hC
  replace hin := hide hin
  have hokv : Hid (∀ v ∈ vs, okV v) := fun v hv => okV_bd (hbd v hv)
  clear hbd
  go_enter Try.func31, Try.ntmps31
  go_upto_region 1 with fail
  rw [hW.out]
  go_wp2_with fail
  refine hC.out.mono ?_
  rintro e w1 ⟨rfl, hg1⟩
  clear hC
  have hmk := run_makeMap (P := Try.prog) 103 w1
  have hM0 := MapOf.made vecM w1
  obtain ⟨W2, hW2⟩ : ∃ x, x = (w1.alloc (.map #[] 0)).alloc (.cells #[.map (some w1.heap.size)] 103) := ⟨_, rfl⟩
  have hg2 : w1.grownBy W2 none := by rw [hW2]; exact (by repeat (first | exact World.grownBy.refl _ _ | assumption | refine gr_alloc ?_ _ | (apply gr_tail; assumption) | refine gr_drewN ?_ _ | refine gr_drew ?_))
  have hM2 : MapOf vecM W2 w1.heap.size 0 (fun _ => none) := by rw [hW2]; exact hM0.kept (row := none) (gr_alloc (World.grownBy.refl _ _) _) (by simp)
  have hT2 : Box W2 (w1.heap.size + 1) 103 [.map (some w1.heap.size)] := by
    have := Box.new (w1.alloc (.map #[] 0)) [.map (some w1.heap.size)] 103
    rw [hW2]
    simpa using this
  have hg12 := gr_trans hg1 hg2
  have hsz1 : W.heap.size ≤ w1.heap.size := hg1.size
  obtain ⟨gt, hgt⟩ : ∃ g, g = w1.heap.size + 1 := ⟨_, rfl⟩
  obtain ⟨gm, hgm⟩ : ∃ g, g = w1.heap.size := ⟨_, rfl⟩
  rw [← hgt, ← hgm] at hT2
  rw [← hgm] at hM2
  have hWm : W.heap.size ≤ gm := by omega
  have hmt : gm < gt := by omega
  have hW2' : Hid ((w1.alloc (.map #[] 0)).alloc (.cells #[.map (some gm)] 103) = W2) := by rw [Hid, hW2, hgm]
  have b0' := hg12.k b0
  clear hM0 hW2
  replace hgm := hide hgm.symm
  replace hgt := hide hgt.symm
  go_upto_region 5 with fail
  rw [hgt.out, hgm.out, hW2'.out]
  clear hmk hsz1
  go_wp2_with fail
  go_loopw [24] (fun i wr => ∃ k : Nat, k ≤ vs.length ∧ i = .int .i64 k ∧ MapOf vecM wr gm k (firstK vs k) ∧ Box wr gt 103 [.map (some gm)] ∧ W.grownBy wr none) (fun i _ => vs.length - (intOf i).toNat)
  case atStart => exact ⟨0, by omega, rfl, by rw [← firstK_zero]; exact hM2, hT2, hg12⟩
  case round =>
    clear hM2 hT2 hg12 b0' hg2 hg1
    obtain ⟨k, hk, rfl, hM, hT, hg⟩ := hrel
    have hgw := gr_trans hgW hg
    obtain ⟨u0, v0⟩ := hT.c 0 rfl
    have hlt1 := hT.lt
    by_cases hlt : k < vs.length
    · obtain ⟨gv, ov, rfl, -, hbv, hcc⟩ := (hl.pure hgw).v3 (by omega)
      obtain ⟨x0, x1, x2⟩ := hcc k hlt
      clear hcc
      have hov := hokv.out _ (List.getElem_mem hlt)
      have hq := gr_alloc (World.grownBy.refl wr none) (.cells #[.int .i64 vs[k].x, .int .i64 vs[k].y, .int .i64 vs[k].z] 49)
      have hMq := hM.kept hq (by simp)
      have hold := firstK_old hlt
      have hnew := firstK_new hlt
      obtain ⟨ok, hok⟩ : ∃ ok, decide (vs[k] ∈ vs.take k) = ok := ⟨_, rfl⟩
      have hL := lookOk_vec hMq hov rfl ((firstK_some vs k vs[k]).trans hok)
      generalize (firstK vs k vs[k]).getD 0 = r at *
      generalize vs[k] = v at *
      replace hold := hide hold
      replace hnew := hide hnew
      replace hMq := hide hMq
      replace hov := hide hov
      have hTq := hT.pure hq
      clear hM hT
      cases ok
      · have hn := hide (hnew.out (by simpa using hok))
        have hki : okI (k : Int) := okI_of (by omega)
        replace hki := hide hki
        clear hold hnew hok
        go_wp2_with (at_mapUpdate; refine wpList_store_M _ vecM rfl (.tmp 37) (.tmp 38) (.tmp 39) _ rfl Try.underlying103 gm k _ rfl hMq.out (by simp [maxLen]; omega) v (k : Int) rfl rfl hov.out hki.out ?_; intro w2 hM3 hg3)
        have hT3 := hTq.gr hg3 (by intro e; injection e; omega)
        have hM4 : MapOf vecM w2 gm (k + 1) (firstK vs (k + 1)) := by rw [← hn.out]; exact hM3
        have hg4 : W.grownBy w2 none := gr_row (gr_trans hg hq) hg3 (fun g e => by injection e; omega)
        clear hM3 hn
        go_wp2
        (go_roundw; (case rel => exact ⟨k + 1, by omega, by go_num, hM4, hT3, hg4⟩); (case measure => simp [intOf]; omega))
      · have hn := hide (hold.out (by simpa using hok))
        clear hold hnew hok
        go_wp2_with fail
        (go_roundw; (case rel => exact ⟨k + 1, by omega, by go_num, by rw [hn.out]; exact hMq.out.mono (by omega), hTq, gr_trans hg hq⟩); (case measure => simp [intOf]; omega))
    · have hkn : k = vs.length := by omega
      subst hkn
      have b0r := hg.k b0
      have hlt0 : w.heap.size < wr.heap.size := cell_lt b0r
      obtain ⟨go, hgo⟩ : ∃ g, g = wr.heap.size := ⟨_, rfl⟩
      obtain ⟨W3, hW3⟩ : ∃ x, x = wr.alloc (.cells #[.slice A vs.length c, .slice none 0 0] 29) := ⟨_, rfl⟩
      have hq0 := gr_alloc (World.grownBy.refl wr none) (.cells [.slice A vs.length c, .slice none 0 0].toArray 29)
      have hO : Box W3 go 29 [.slice A vs.length c, .slice none 0 0] := by rw [hW3, hgo]; exact Box.new wr [.slice A vs.length c, .slice none 0 0] 29
      have hg3 : W.grownBy W3 none := by rw [hW3]; exact gr_trans hg hq0
      have hM3 : MapOf vecM W3 gm vs.length (firstK vs vs.length) := by rw [hW3]; exact hM.kept hq0 (by simp)
      have hT3 : Box W3 gt 103 [.map (some gm)] := by rw [hW3]; exact hT.pure hq0
      have htgo : gt < go := by omega
      replace hW3 := hide hW3.symm
      replace hgo := hide hgo.symm
      clear hq0 hM hT hlt1 hgw
      go_upto_region 14 with fail
      rw [hW3.out, hgo.out]
      have b1' := hg3.k b1
      clear hg b0r u0 v0 hlt0
      go_wp2_with fail
      go_loopw [48] (fun i wr => ∃ (k : Nat) (B' : Option Addr) (d' : Nat), k ≤ fs.length ∧ i = .int .i64 k ∧ MapOf vecM wr gm vs.length (firstK vs vs.length) ∧ Box wr gt 103 [.map (some gm)] ∧ Box wr go 29 [.slice A vs.length c, .slice B' (weldK vs fs k).length d'] ∧ Own wr (go + 1) 67 B' d' (weldK vs fs k) ∧ W.grownBy wr none) (fun i _ => fs.length - (intOf i).toNat)
      case atStart => exact ⟨0, none, 0, by omega, rfl, hM3, hT3, by rw [weldK_zero]; exact hO, by rw [weldK_zero]; exact Own.nil _ _ _, hg3⟩
      case round =>
        clear hM3 hT3 hO hg3 b1'
        obtain ⟨k, B', d', hk, rfl, hM0, hT0, hO0, hF0, hg0⟩ := hrel
        have hgw := gr_trans hgW hg0
        by_cases hlt : k < fs.length
        · obtain ⟨gf, of, rfl, -, hbf, hcc⟩ := (hfs.pure hgw).fc (by omega)
          obtain ⟨x0, x1, x2⟩ := hcc k hlt
          clear hcc
          have hmem := List.getElem_mem hlt
          have hfi := inF_bd (hin.out _ hmem)
          obtain ⟨ia, eia⟩ := Int.eq_ofNat_of_zero_le hfi.1.1
          obtain ⟨ib, eib⟩ := Int.eq_ofNat_of_zero_le hfi.2.1.1
          obtain ⟨ic, eic⟩ := Int.eq_ofNat_of_zero_le hfi.2.2.1
          have hia : ia < vs.length := by omega
          have hib : ib < vs.length := by omega
          have hic : ic < vs.length := by omega
          have hwf := weldF_of eia eib eic hia hib hic
          rw [eia] at x0
          rw [eib] at x1
          rw [eic] at x2
          have hyes := weldK_yes (vs := vs) hlt hwf
          have hno := weldK_no (vs := vs) hlt hwf
          have hkl := weldK_len vs fs k
          have hca := fun wx (hx : wr.grownBy wx none) => weldCl_any gt w.heap.size gm vs.length ia A c vs wx (hl.pure (gr_trans hgw hx)) (hx.k (hT0.c 0 rfl).1) ((gr_trans hg0 hx).k b0) (hM0.kept hx (by simp)) hia (hokv.out _ (List.getElem_mem hia))
          have hcb := fun wx (hx : wr.grownBy wx none) => weldCl_any gt w.heap.size gm vs.length ib A c vs wx (hl.pure (gr_trans hgw hx)) (hx.k (hT0.c 0 rfl).1) ((gr_trans hg0 hx).k b0) (hM0.kept hx (by simp)) hib (hokv.out _ (List.getElem_mem hib))
          have hcc := fun wx (hx : wr.grownBy wx none) => weldCl_any gt w.heap.size gm vs.length ic A c vs wx (hl.pure (gr_trans hgw hx)) (hx.k (hT0.c 0 rfl).1) ((gr_trans hg0 hx).k b0) (hM0.kept hx (by simp)) hic (hokv.out _ (List.getElem_mem hic))
          generalize ((fstV vs vs[ia] : Nat) : Int) = ra at *
          generalize ((fstV vs vs[ib] : Nat) : Int) = rb at *
          generalize ((fstV vs vs[ic] : Nat) : Int) = rc at *
          clear hwf eia eib eic hfi hmem hia hib hic
          obtain ⟨FL, hFL⟩ : ∃ FL, FL = weldK vs fs k := ⟨_, rfl⟩
          rw [← hFL] at hO0 hF0 hyes hno hkl
          replace hFL := hide hFL
          replace hyes := hide hyes
          replace hno := hide hno
          replace hca := hide hca
          replace hcb := hide hcb
          replace hcc := hide hcc
          replace hF0 := hide hF0
          replace hO0 := hide hO0
          replace hT0 := hide hT0
          replace hM0 := hide hM0
          go_upto_region 17 with fail
          obtain ⟨gx, hgx⟩ : ∃ g, g = wr.heap.size := ⟨_, rfl⟩
          obtain ⟨wn, hwn⟩ : ∃ x, x = wr.alloc (.cells #[.int .i64 ia, .int .i64 ib, .int .i64 ic] 67) := ⟨_, rfl⟩
          have hbn : Box wn gx 67 [.int .i64 ia, .int .i64 ib, .int .i64 ic] := by rw [hwn, hgx]; exact Box.new _ _ _
          have hgn : wr.grownBy wn none := by rw [hwn]; exact gr_alloc (World.grownBy.refl _ _) _
          rw [← hwn, ← hgx]
          have hgx2 : wr.heap.size ≤ gx := by omega
          clear hwn hgx
          have hB : ∀ wx, wn.grownBy wx none → wx.cell? ⟨gx, 0, none⟩ = some (.int .i64 ia) ∧ wx.cell? ⟨gx, 1, none⟩ = some (.int .i64 ib) ∧ wx.cell? ⟨gx, 2, none⟩ = some (.int .i64 ic) := fun wx hx => ⟨hx.k (hbn.c 0 rfl).1, hx.k (hbn.c 1 rfl).1, hx.k (hbn.c 2 rfl).1⟩
          replace hB := hide hB
          clear x0 x1 x2
          refine wp_region_tree (fun wx => wn.grownBy wx none) [2, 2, 1, 0, 2, 2, 1, 0, 2, 2, 1, 0, 2, 0] (.bl 0 (.bl 1 (.bl 2 (.bl 4 (.bl 5 (.bl 6 (.bl 8 (.bl 9 (.bl 10 (.ef 3 (.ef 7 (.ef 11 (.bl 12 (.ef 13 .done)))))))))))))) (by kernel_rfl) (by kernel_rfl) (gr_drew (World.grownBy.refl _ _)) ?_
          obtain ⟨w1, hw1⟩ : ∃ x, x = (wn).drew := ⟨_, rfl⟩
          rw [← hw1]
          have hgw1 : (wn).grownBy w1 none := by rw [hw1]; exact gr_drew (World.grownBy.refl _ _)
          clear hw1
          refine tree_p rfl rfl rfl rfl _ rfl (by simp) (fun K hK => ?_)
          apply Exists.intro
          refine ⟨fun wq K' hK' => ?_, ?_⟩
          · go_wp2_with fail
            exact hK'
          go_simp
          refine hK _ ?_
          clear hK K
          refine tree_p rfl rfl rfl rfl _ rfl (by simp) (fun K hK => ?_)
          apply Exists.intro
          refine ⟨fun wq K' hK' => ?_, ?_⟩
          · go_wp2_with fail
            exact hK'
          go_simp
          refine hK _ ?_
          clear hK K
          refine tree_b rfl rfl rfl rfl _ rfl (by simp) (fun K hK => ?_)
          apply Exists.intro
          refine ⟨fun wq hq K' hK' => ?_, ?_⟩
          · obtain ⟨c0, c1, c2⟩ := hB.out wq hq
            go_wp2_with fail
            exact hK'
          go_simp
          refine hK _ ?_
          clear hK K
          refine tree_p rfl rfl rfl rfl _ rfl (by simp) (fun K hK => ?_)
          apply Exists.intro
          refine ⟨fun wq K' hK' => ?_, ?_⟩
          · go_wp2_with fail
            exact hK'
          go_simp
          refine hK _ ?_
          clear hK K
          refine tree_p rfl rfl rfl rfl _ rfl (by simp) (fun K hK => ?_)
          apply Exists.intro
          refine ⟨fun wq K' hK' => ?_, ?_⟩
          · go_wp2_with fail
            exact hK'
          go_simp
          refine hK _ ?_
          clear hK K
          refine tree_b rfl rfl rfl rfl _ rfl (by simp) (fun K hK => ?_)
          apply Exists.intro
          refine ⟨fun wq hq K' hK' => ?_, ?_⟩
          · obtain ⟨c0, c1, c2⟩ := hB.out wq hq
            go_wp2_with fail
            exact hK'
          go_simp
          refine hK _ ?_
          clear hK K
          refine tree_p rfl rfl rfl rfl _ rfl (by simp) (fun K hK => ?_)
          apply Exists.intro
          refine ⟨fun wq K' hK' => ?_, ?_⟩
          · go_wp2_with fail
            exact hK'
          go_simp
          refine hK _ ?_
          clear hK K
          refine tree_p rfl rfl rfl rfl _ rfl (by simp) (fun K hK => ?_)
          apply Exists.intro
          refine ⟨fun wq K' hK' => ?_, ?_⟩
          · go_wp2_with fail
            exact hK'
          go_simp
          refine hK _ ?_
          clear hK K
          refine tree_b rfl rfl rfl rfl _ rfl (by simp) (fun K hK => ?_)
          apply Exists.intro
          refine ⟨fun wq hq K' hK' => ?_, ?_⟩
          · obtain ⟨c0, c1, c2⟩ := hB.out wq hq
            go_wp2_with fail
            exact hK'
          go_simp
          refine hK _ ?_
          clear hK K
          refine tree_e rfl rfl (fun K hK => ?_)
          go_wp2_with fail
          refine (hca.out w1 (gr_trans hgn (gr_trans hgw1 (World.grownBy.refl _ _)))).mono ?_
          rintro e w3 ⟨rfl, hg3⟩
          go_wp2_with fail
          try go_simp
          refine hK _ _ (gr_trans (gr_trans hgw1 (World.grownBy.refl _ _)) hg3) ?_
          clear hK K
          refine tree_e rfl rfl (fun K hK => ?_)
          go_wp2_with fail
          refine (hcb.out w3 (gr_trans hgn (gr_trans hgw1 hg3))).mono ?_
          rintro e w7 ⟨rfl, hg7⟩
          go_wp2_with fail
          try go_simp
          refine hK _ _ (gr_trans (gr_trans hgw1 hg3) hg7) ?_
          clear hK K
          refine tree_e0 (by kernel_rfl) rfl rfl (fun K hK => ?_)
          go_wp2_with fail
          refine (hcc.out w7 (gr_trans hgn (gr_trans hgw1 (gr_trans hg3 hg7)))).mono ?_
          rintro e w11 ⟨rfl, hg11⟩
          go_wp2_with fail
          try go_simp
          refine hK _ _ trivial ?_
          clear hK K
          refine tree_p rfl rfl rfl rfl _ rfl (by simp) (fun K hK => ?_)
          apply Exists.intro
          refine ⟨fun wq K' hK' => ?_, ?_⟩
          · go_wp2_with fail
            exact hK'
          go_simp
          refine hK _ ?_
          clear hK K
          refine tree_e0 (by kernel_rfl) rfl rfl (fun K hK => ?_)
          have hb14 := hbn.pure (w' := w11) (gr_trans hgw1 (gr_trans (gr_trans hg3 hg7) hg11))
          obtain ⟨m0, f0⟩ := hb14.c 0 rfl
          obtain ⟨m1, f1⟩ := hb14.c 1 rfl
          obtain ⟨m2, f2⟩ := hb14.c 2 rfl
          have hgg := gr_trans hgn (gr_trans hgw1 (gr_trans (gr_trans hg3 hg7) hg11))
          go_wp2_with fail
          try go_simp
          refine hK _ _ trivial ?_
          clear hK K
          refine tree_done ?_
          obtain ⟨wg, hwg⟩ : ∃ x, x = (((w11).setCell ⟨gx, 0, none⟩ (.int .i64 ra)).setCell ⟨gx, 1, none⟩ (.int .i64 rb)).setCell ⟨gx, 2, none⟩ (.int .i64 rc) := ⟨_, rfl⟩
          rw [← hwg]
          have hbg : Box wg gx 67 [.int .i64 ra, .int .i64 rb, .int .i64 rc] := by rw [hwg]; exact ((hb14.set_ 0 _ (by simp)).set_ 1 _ (by simp)).set_ 2 _ (by simp)
          replace hgg : wr.grownBy wg none := by rw [hwg]; exact gr_set (gr_set (gr_set hgg (.inr hgx2) _) (.inr hgx2) _) (.inr hgx2) _
          clear hwg hb14 m0 m1 m2 f0 f1 f2
          obtain ⟨y0, z0⟩ := hbg.c 0 rfl
          obtain ⟨y1, z1⟩ := hbg.c 1 rfl
          obtain ⟨y2, z2⟩ := hbg.c 2 rfl
          have hO := hO0.out.pure hgg
          have hF := hF0.out.pure hgg
          have hM := hM0.out.kept hgg (by simp)
          have hT := hT0.out.pure hgg
          have hg := gr_trans hg0 hgg
          have hltb := hbg.lt
          have hlto := hO.lt
          obtain ⟨o0, p0⟩ := hO.c 0 rfl
          obtain ⟨o1, p1⟩ := hO.c 1 rfl
          replace hM := hide hM
          by_cases hok : okFc ⟨ra, rb, rc⟩ = true
          · have hsn := hide (hyes.out hok)
            simp only [okFc, Bool.and_eq_true] at hok
            obtain ⟨k1, k2, k3⟩ := hok
            have hq := gr_alloc (World.grownBy.refl wg none) (.cells #[.int .i64 ra, .int .i64 rb, .int .i64 rc] 67)
            replace hF := hide hF
            replace hT := hide hT
            clear hyes hno
            go_wp2_with (at_builtin; obtain ⟨i0, hi, hz, h1, h2⟩ := info_parts info_face; refine wpList_pushAt (α := Fc) _ rfl (.tmp 85) (.tmp 87) _ rfl (go + 1) 67 i0 _ 24 Try.underlying27 hi hz h1 h2 rfl _ _ _ FL rfl ?c1 (by exact (hF.out.pure hq)) 0 ⟨_, 0, none⟩ 1 1 [⟨ra, rb, rc⟩] rfl rfl (by exact (sl_oneAt _ 0 _ _ _ _ (by first | rfl | simp) (Nat.zero_le _) rfl)) ?c2 ?c3 ?c4 ?_)
            case c1 => rfl
            case c2 => simp; omega
            case c3 => simp [maxLen]; omega
            case c4 => have := hg.size; have := hq.size; omega
            intro B5 d5 w5 hF5 hG5
            have hoq := hF.out.pure hq
            have hO5 := (hO.pure hq).gr hG5.1 ((hO.pure hq).ne_own hoq (by decide))
            have hT5 := (hT.out.pure hq).gr hG5.1 ((hT.out.pure hq).ne_own hoq (by decide))
            have hM5 := (hM.out.kept hq (by simp)).kept hG5.1 (fun e => by have := (hoq.blk_lt e).1; omega)
            have hg05 : W.grownBy w5 none := gr_row (gr_trans hg hq) hG5.1 (fun x e => by have := (hoq.blk_lt e).1; omega)
            rw [← hsn.out] at hF5
            obtain ⟨o0, p0⟩ := hO5.c 0 rfl
            obtain ⟨o1, p1⟩ := hO5.c 1 rfl
            have hgs5 := gr_set (World.grownBy.refl w5 (some go)) (p := ⟨go, 1, none⟩) (.inl rfl) (.slice B5 (FL.length + 1) d5)
            have hO6 := hide (hO5.set_ 1 (.slice B5 (FL.length + 1) d5) (by simp))
            have hF6 := hide (hF5.set_other (i := 1) (.slice B5 (FL.length + 1) d5) (hO5.ne_own hF5 (by decide)))
            have hT6 := hide (hT5.gr hgs5 (by intro e; injection e; omega))
            have hM6 := hide (hM5.kept hgs5 (by intro e; injection e; omega))
            have hg06 := hide (gr_set hg05 (p := ⟨go, 1, none⟩) (.inr (by simp only; omega)) (.slice B5 (FL.length + 1) d5))
            have hln : Hid ((weldK vs fs (k + 1)).length = FL.length + 1) := by rw [Hid, hsn.out, List.length_append]; rfl
            clear hO5 hF5 hg05 hoq hG5 hsn hT5 hM5 hgs5
            go_wp2_with fail
            (go_roundw; (case rel => exact ⟨k + 1, B5, d5, by omega, by go_num, hM6.out, hT6.out, by rw [hln.out]; exact hO6.out, hF6.out, hg06.out⟩); (case measure => simp [intOf]; omega))
          · have hno2 := hide (hno.out (by simpa using hok))
            rw [← hno2.out] at hO hF
            have hbb : (ra != rb) = false ∨ ((ra != rb) = true ∧ (rb != rc) = false) ∨ ((ra != rb) = true ∧ (rb != rc) = true ∧ (rc != ra) = false) := by
              simp only [okFc] at hok
              cases h1 : (ra != rb) <;> cases h2 : (rb != rc) <;> cases h3 : (rc != ra) <;> simp_all
            clear hok hyes hno hno2
            replace hO := hide hO
            replace hF := hide hF
            replace hT := hide hT
            rcases hbb with h1 | ⟨h1, h2⟩ | ⟨h1, h2, h3⟩
            all_goals
              go_wp2_with fail
              (go_roundw; (case rel => exact ⟨k + 1, B', d', by omega, by go_num, hM.out, hT.out, hO.out, hF.out, hg⟩); (case measure => simp [intOf]; omega))
        · have hkn : k = fs.length := by omega
          subst hkn
          obtain ⟨o0, p0⟩ := hO0.c 0 rfl
          obtain ⟨o1, p1⟩ := hO0.c 1 rfl
          have hg := hg0
          have hSV := hl.pure hgw
          have hSF := hF0.sl.mono (Nat.zero_le _)
          have hinp := weldK_in (vs := vs) hin.out fs.length
          have hffl : (weldK vs fs fs.length).length ≤ 2000 := by have := weldK_len vs fs fs.length; omega
          clear hO0 hF0 hM0 hT0 hk
          obtain ⟨PF, hPF⟩ : ∃ PF, PF = weldK vs fs fs.length := ⟨_, rfl⟩
          have hPM : Hid (weldM vs fs = trimM ⟨vs, PF⟩) := by rw [Hid, hPF]; rfl
          rw [← hPF] at hSF hinp hffl o1
          clear hPF
          have hU := trimmed_any A c vs B' d' PF wr hSV hSF hinp hvl hffl
          obtain ⟨TM, hTM⟩ : ∃ TM, TM = trimM ⟨vs, PF⟩ := ⟨_, rfl⟩
          rw [← hTM] at hU
          replace hU := hide hU
          obtain ⟨k0, kf0⟩ := q0.out.gr hg (by simp)
          obtain ⟨k1, kf1⟩ := q1.out.gr hg (by simp)
          have hwr := gr_trans hgW hg
          have hle : w.heap.size + 1 < W.heap.size := by have := hWs.out; omega
          have hlw := hg.size
          replace hTM : Hid (weldM vs fs = TM) := by rw [Hid, hTM]; exact hPM.out
          clear hPM hSV hSF hinp
          go_wp2_with fail
          refine hU.out.mono ?_
          rintro e wu ⟨Au, cu, Bu, du, rfl, huV, huF, hgu⟩
          have hR := checked_any Au cu TM.vs Bu du TM.fs wu W.heap.size (huV.lower hlw).sl (huF.lower hlw).sl
          replace hR := hide hR
          obtain ⟨k0, kf0⟩ := Cell.gr ⟨k0, kf0⟩ hgu (by simp)
          obtain ⟨k1, kf1⟩ := Cell.gr ⟨k1, kf1⟩ hgu (by simp)
          have hwu := gr_trans hwr hgu
          clear huV huF hU
          go_wp2_with fail
          refine hR.out.mono ?_
          rintro e w9 ⟨A9, c9, B9, d9, rfl, hs9, hf9, hg9⟩
          obtain ⟨k0, kf0⟩ := Cell.gr ⟨k0, kf0⟩ hg9 (by simp)
          obtain ⟨k1, kf1⟩ := Cell.gr ⟨k1, kf1⟩ hg9 (by simp)
          have hgs := fun (v1 v2 : Value) => gr_set (gr_set (World.grownBy.refl w9 (some (w.heap.size + 1))) (p := ⟨w.heap.size + 1, 0, none⟩) (.inl rfl) v1) (p := ⟨w.heap.size + 1, 1, none⟩) (.inl rfl) v2
          have hk := fun v1 v2 => gr_row (gr_trans hwu hg9) (hgs v1 v2) (fun g e => by injection e; omega)
          replace hgs := hide hgs
          replace hk := hide hk
          clear hR
          go_wp2_with fail
          refine bodyPost_ret (v := .tuple #[.agg #[.slice A9 (okM TM).vs.length c9, .slice B9 (okM TM).fs.length d9],   .int .i64 (meshF TM)]) (by simp [results, Try.results31, go_sem, k0, k1, kf0, kf1]) rfl ?_
          rw [hTM.out]
          exact ⟨A9, c9, B9, d9, rfl, (hs9.gr (hgs.out _ _) (fun g e => by injection e; omega)).mono (by omega), (hf9.gr (hgs.out _ _) (fun g e => by injection e; omega)).mono (by omega), hk.out _ _⟩

theorem welded_any (A : Option Addr) (c : Nat) (vs : List V3) (B : Option Addr) (d : Nat) (fs : List Fc) (w : World) (hl : Sl w 0 A vs) (hfs : Sl w 0 B fs) :
    Calls Try.prog 31 #[.agg #[.slice A vs.length c, .slice B fs.length d]] w (SMeshE w.heap.size (weldR vs fs) (weldE vs fs) w) := by
  unfold weldR weldE
  by_cases hM : meshF ⟨vs, fs⟩ = 0
  · rw [if_neg (by simp [hM]), if_neg (by simp [hM])]
    exact welded_ok A c vs B d fs w hl hfs hM
  · rw [if_pos hM, if_pos hM]
    exact welded_bad A c vs B d fs w hl hfs hM
end Go.Proofs.Ytjodjdjfagjiaaa

namespace Go.Proofs.Ytjodjdjfagjiaaa
open Go.RowKit Go.Bl

set_option maxHeartbeats 400000 in
theorem or_any (A : Option Addr) (n c : Nat) (l : List Int) (w : World) (hl : Sl w 0 A l) (hn : n = l.length) :
    Calls Try.prog 12 #[.slice A n c] w fun e w' => e = .returned (.int .i64 (orL l)) ∧ w = w' := by
  have hm := hl.1
  unfold maxLen at hm
  subst hn
  go_enter Try.func12, Try.ntmps12
  go_wp2
  go_loop [8] (fun i => ∃ k : Nat, k ≤ l.length ∧ i = .int .i64 k ∧ Hid (orL (l.drop k) = orL l)) (fun i => l.length - (intOf i).toNat)
  case atStart => exact ⟨0, Nat.zero_le _, rfl, rfl⟩
  case round =>
    obtain ⟨k, hk, rfl, hd⟩ := hrel
    by_cases hlt : k < l.length
    · obtain ⟨g, o, cx, rfl, hb0, hb1, rfl, hc⟩ := hl.at_ (by decide) hlt
      have c0 : w.cell? ⟨g, o + k, none⟩ = some (.int .i64 l[k]) := by have := hc 0 _ rfl; rwa [show Enc.sz Int = 1 from rfl, Nat.mul_one] at this
      clear hc
      by_cases hz : l[k] = 0
      · have HS : Hid (orL (l.drop (k + 1)) = orL l) := by have := hd.out; rw [orL_drop hlt, if_neg (by simp [hz])] at this; exact this
        have hb : (l[k] != 0) = false := by simp [hz]
        clear hz
        go_wp2
        go_round
        case rel => exact ⟨k + 1, by omega, by go_num, HS⟩
        case measure => simp [intOf]; omega
      · have HS : Hid (l[k] = orL l) := by have := hd.out; rw [orL_drop hlt, if_pos hz] at this; exact this
        have hb : (l[k] != 0) = true := by simp [hz]
        clear hz
        go_wp2
        go_ret
        exact ⟨ret_int HS.out, rfl⟩
    · have HS : Hid (0 = orL l) := by have := hd.out; rw [List.drop_of_length_le (by omega)] at this; exact this
      go_wp2
      go_ret
      exact ⟨ret_int HS.out, rfl⟩

set_option maxHeartbeats 400000 in
theorem equalInts_any (A B : Option Addr) (c d : Nat) (l m : List Int) (w : World) (hl : Sl w 0 A l) (hr : Sl w 0 B m) :
    Calls Try.prog 17 #[.slice A l.length c, .slice B m.length d] w fun e w' => e = .returned (.bool (eqB l m)) ∧ w.grownBy w' none := by
  have hm := hl.1
  unfold maxLen at hm
  have hm2 := hr.1
  unfold maxLen at hm2
  by_cases h : l.length = m.length
  · have hb : ((l.length : Int) != m.length) = false := by simp [h]
    have HL := hide h
    have hle : l.length ≤ m.length := by omega
    clear h
    go_enter Try.func17, Try.ntmps17
    go_wp2
    go_loopw [13] (fun i wr => ∃ k : Nat, k ≤ l.length ∧ i = .int .i64 k ∧ w.grownBy wr none ∧ Hid (l.take k = m.take k)) (fun i _ => l.length - (intOf i).toNat)
    case atStart => exact ⟨0, Nat.zero_le _, rfl, World.grownBy.refl _ _, rfl⟩
    case round =>
      obtain ⟨k, hk, rfl, hg, ht⟩ := hrel
      by_cases hlt : k < l.length
      · have hlt2 : k < m.length := by omega
        obtain ⟨g, o, cx, rfl, hb0, hb1, rfl, hc⟩ := (hl.pure hg).at_ (by decide) hlt
        have c0 : wr.cell? ⟨g, o + k, none⟩ = some (.int .i64 l[k]) := by have := hc 0 _ rfl; rwa [show Enc.sz Int = 1 from rfl, Nat.mul_one] at this
        obtain ⟨g2, o2, cx, rfl, hb2, hb3, rfl, hc2⟩ := (hr.pure hg).at_ (by decide) hlt2
        have c1 : wr.cell? ⟨g2, o2 + k, none⟩ = some (.int .i64 m[k]) := by have := hc2 0 _ rfl; rwa [show Enc.sz Int = 1 from rfl, Nat.mul_one] at this
        clear hc hc2
        have hi0 : (0 : Int) ≤ (k : Int) ∧ (k : Int) < l.length ∧ (k : Int) < m.length := by omega
        by_cases hz : l[k] = m[k]
        · have HS : Hid (l.take (k + 1) = m.take (k + 1)) := by simp only [Hid]; rw [take_snoc hlt, take_snoc hlt2, ht.out, hz]
          have hb : (l[k] != m[k]) = false := by simp [hz]
          clear hz
          go_wp2_with fail
          go_quiet (fail)
          go_wp2
          go_roundw
          case rel => exact ⟨k + 1, by omega, by go_num, gr_drewN hg _, HS⟩
          case measure => simp [intOf]; omega
        · have HS := hide (eqB_ne hlt hlt2 hz)
          have hb : (l[k] != m[k]) = true := by simp [hz]
          clear hz
          go_wp2_with fail
          go_quiet (fail)
          go_wp2
          go_ret
          exact ⟨ret_bool HS.out.symm, gr_drewN hg _⟩
      · have HS : Hid (eqB l m = true) := eqB_all HL.out (by have := ht.out; rwa [show k = l.length by omega] at this)
        go_wp2
        go_ret
        exact ⟨ret_bool HS.out.symm, hg⟩
  · have hb : ((l.length : Int) != m.length) = true := by simp; omega
    have HS := hide (eqB_len h)
    clear h
    go_enter Try.func17, Try.ntmps17
    go_wp2
    go_ret
    exact ⟨ret_bool HS.out.symm, World.grownBy.refl _ _⟩

end Go.Proofs.Ytjodjdjfagjiaaa

namespace Go.Proofs.Ytjodjdjfagjiaaa
open Go.RowKit Go.Bl

/-- a box that holds a mesh -/
def VMs (lo : Nat) (g : Nat) (m : MeshV) (w : World) : Prop := ∃ (A : Option Addr) (c : Nat) (B : Option Addr) (d : Nat), Cell w g 0 (.slice A m.vs.length c) ∧ Cell w g 1 (.slice B m.fs.length d) ∧ Sl w lo A m.vs ∧ Sl w lo B m.fs
theorem VMs.pure {lo g : Nat} {m : MeshV} {w w' : World} (h : VMs lo g m w) (hg : w.grownBy w' none) : VMs lo g m w' := let ⟨A, c, B, d, h1, h2, h3, h4⟩ := h; ⟨A, c, B, d, h1.gr hg (by simp), h2.gr hg (by simp), h3.pure hg, h4.pure hg⟩
theorem VMs.oth {lo g g' : Nat} {m : MeshV} {w w' : World} (h : VMs lo g m w) (hg : w.grownBy w' (some g')) (hne : g' ≠ g) (hlo : g' < lo) : VMs lo g m w' :=
  let ⟨A, c, B, d, h1, h2, h3, h4⟩ := h; ⟨A, c, B, d, h1.gr hg (fun e => by injection e; omega), h2.gr hg (fun e => by injection e; omega), h3.gr hg (fun x e => by injection e; omega), h4.gr hg (fun x e => by injection e; omega)⟩
theorem VMs.nil {lo g : Nat} {w : World} (h0 : Cell w g 0 (.slice none 0 0)) (h1 : Cell w g 1 (.slice none 0 0)) : VMs lo g ⟨[], []⟩ w := ⟨none, 0, none, 0, h0, h1, slNil _ _ _, slNil _ _ _⟩
theorem VMs.new {w : World} {m : MeshV} {A B : Option Addr} {c d lo : Nat} (hA : Sl w lo A m.vs) (hB : Sl w lo B m.fs) : VMs lo w.heap.size m (w.alloc (.cells #[.slice A m.vs.length c, .slice B m.fs.length d] 29)) :=
  ⟨A, c, B, d, Cell.new w [.slice A m.vs.length c, .slice B m.fs.length d] 29 0 _ rfl _ rfl, Cell.new w [.slice A m.vs.length c, .slice B m.fs.length d] 29 1 _ rfl _ rfl, hA.pure (gr_alloc (World.grownBy.refl _ _) _), hB.pure (gr_alloc (World.grownBy.refl _ _) _)⟩
theorem VMs.st {lo g b : Nat} {N : Int} {m : MeshV} {w w' : World} (h : VMs lo g m w) (hs : SOut b N w w') (hne : b < g) (hlo : b < lo) : VMs lo g m w' := h.oth hs.1 (by omega) hlo
theorem VMs.lt {lo g : Nat} {m : MeshV} {w : World} (h : VMs lo g m w) : g < w.heap.size := let ⟨_, _, _, _, h1, _⟩ := h; h1.lt

theorem join_ok {m n : MeshV} (h : orL [meshF m, meshF n] = 0) : meshF m = 0 ∧ meshF n = 0 ∧ joinR m n = okM (joinM m n) ∧ joinE m n = meshF (joinM m n) := by
  simp only [orL] at h
  by_cases h1 : meshF m = 0
  · have h2 : meshF n = 0 := by
      by_cases h2 : meshF n = 0
      · exact h2
      · simp [h1, h2] at h
    exact ⟨h1, h2, by unfold joinR; rw [if_neg (by simp [h1, h2])], by unfold joinE; rw [if_neg (by simp [h1]), if_neg (by simp [h2])]⟩
  · simp [h1] at h
theorem join_bad {m n : MeshV} (h : orL [meshF m, meshF n] ≠ 0) : joinR m n = ⟨[], []⟩ ∧ joinE m n = orL [meshF m, meshF n] := by
  simp only [orL] at *
  by_cases h1 : meshF m = 0
  · have h2 : meshF n ≠ 0 := fun h2 => by simp [h1, h2] at h
    exact ⟨by unfold joinR; rw [if_pos (.inr h2)], by unfold joinE; rw [if_neg (by simp [h1]), if_pos h2]; simp [h1]⟩
  · exact ⟨by unfold joinR; rw [if_pos (.inl h1)], by unfold joinE; rw [if_pos h1]; simp [h1]⟩
theorem part_ok {vs : List V3} {fs : List Fc} {L : List Int} (h : meshF ⟨vs, fs⟩ = 0) (h2 : facesErr fs.length L = 0) : (∀ i ∈ L, 0 ≤ i ∧ i < fs.length) ∧ partR vs fs L = okM (partM vs fs L) ∧ partE vs fs L = meshF (partM vs fs L) := by
  refine ⟨?_, by unfold partR; rw [if_neg (by simp [h]), if_neg (by simp [h2])], by unfold partE; rw [if_neg (by simp [h]), if_neg (by simp [h2])]⟩
  unfold facesErr at h2
  by_cases h0 : L = []
  · rw [if_pos h0] at h2; cases h2
  · rw [if_neg h0] at h2; exact ffF_in h2
theorem part_bad {vs : List V3} {fs : List Fc} {L : List Int} (h : meshF ⟨vs, fs⟩ = 0) (h2 : facesErr fs.length L ≠ 0) : partR vs fs L = ⟨[], []⟩ ∧ partE vs fs L = facesErr fs.length L :=
  ⟨by unfold partR; rw [if_neg (by simp [h]), if_pos h2], by unfold partE; rw [if_neg (by simp [h]), if_pos h2]⟩
theorem part_bad' {vs : List V3} {fs : List Fc} {L : List Int} (h : meshF ⟨vs, fs⟩ ≠ 0) : partR vs fs L = ⟨[], []⟩ ∧ partE vs fs L = meshF ⟨vs, fs⟩ :=
  ⟨by unfold partR; rw [if_pos h], by unfold partE; rw [if_pos h]⟩
theorem weld_ok {vs : List V3} {fs : List Fc} (h : meshF ⟨vs, fs⟩ = 0) : weldR vs fs = okM (weldM vs fs) ∧ weldE vs fs = meshF (weldM vs fs) :=
  ⟨by unfold weldR; rw [if_neg (by simp [h])], by unfold weldE; rw [if_neg (by simp [h])]⟩
theorem weld_bad {vs : List V3} {fs : List Fc} (h : meshF ⟨vs, fs⟩ ≠ 0) : weldR vs fs = ⟨[], []⟩ ∧ weldE vs fs = meshF ⟨vs, fs⟩ :=
  ⟨by unfold weldR; rw [if_pos h], by unfold weldE; rw [if_pos h]⟩

set_option maxHeartbeats 4000000 in
set_option maxRecDepth 100000 in
theorem joined_law (A : Option Addr) (n c : Nat) (L : List Int) (w : World) (hL : Sl w 0 A L) (hn : L.length = n) :
    Calls Try.prog 5 #[.slice A n c] w fun e w' => e = .returned (.bool true) ∧ w.grownBy w' none := by
  have hs0 := strm_new (c := c) 25 hL hn
  have hg0 := gr_alloc (World.grownBy.refl w none) (.cells #[.slice A n c, .int .i64 0] 25)
  go_enter Try.func5, Try.ntmps5
  go_wp2_with fail
  refine (aMesh_any _ 0 _ hs0 (by omega)).mono ?_
  rintro e w1 ⟨A1, c1, vs, B1, d1, fs, rfl, hv, hf, ho1, -, hfl⟩
  go_wp2_with fail
  refine (aMesh_any _ _ _ ho1.2 (by omega)).mono ?_
  rintro e w2 ⟨A2, c2, vs2, B2, d2, fs2, rfl, hv2, hf2, ho2, -, -⟩
  replace hv := hv.s ho2 (Nat.lt_succ_self _)
  replace hf := hf.s ho2 (Nat.lt_succ_self _)
  have hoB := ho1.trans ho2
  clear ho1 ho2
  go_upto_region 3 with fail
  obtain ⟨ga, hga⟩ : ∃ g, g = w2.heap.size := ⟨_, rfl⟩
  obtain ⟨W3, hW3⟩ : ∃ x, x = (w2.alloc (.cells #[.slice A1 vs.length c1, .slice B1 fs.length d1] 29)).alloc (.cells #[.slice A2 vs2.length c2, .slice B2 fs2.length d2] 29) := ⟨_, rfl⟩
  have hq3 : w2.grownBy W3 none := by rw [hW3]; exact (by repeat (first | exact World.grownBy.refl _ _ | assumption | refine gr_alloc ?_ _ | (apply gr_tail; assumption) | refine gr_drewN ?_ _ | refine gr_drew ?_))
  have VA : Box W3 ga 29 [.slice A1 vs.length c1, .slice B1 fs.length d1] := by rw [hW3, hga]; exact (Box.new w2 [.slice A1 vs.length c1, .slice B1 fs.length d1] 29).pure (gr_alloc (World.grownBy.refl _ _) _)
  have VB : Box W3 (ga + 1) 29 [.slice A2 vs2.length c2, .slice B2 fs2.length d2] := by
    have := Box.new (w2.alloc (.cells #[.slice A1 vs.length c1, .slice B1 fs.length d1] 29)) [.slice A2 vs2.length c2, .slice B2 fs2.length d2] 29
    rw [hW3, hga]
    simpa using this
  have hbg : w.heap.size < ga := by rw [hga]; exact hoB.2.lt
  have hoC := hoB.pure hq3
  have hga2 : w2.heap.size ≤ ga := by omega
  rw [← hga]
  rw [← hW3]
  clear hW3 hoB hga
  obtain ⟨w3, rfl⟩ : ∃ x, x = W3 := ⟨_, rfl⟩
  go_wp2_with fail
  refine (flip_any _ _ 3 _ hoC.2 (by omega) (by omega)).mono ?_
  rintro e w4 ⟨fl, rfl, ho4⟩
  replace VA := VA.gr ho4.1 (by intro e; injection e; omega)
  replace VB := VB.gr ho4.1 (by intro e; injection e; omega)
  have hoD := hoC.trans ho4
  have hw24 : w2.grownBy w4 (some w.heap.size) := gr_trans (gr_any hq3) ho4.1
  clear hoC hq3 ho4
  go_upto_if 33 with fail
  go_cut [] (fun wx => ∃ (A5 : Option Addr) (c5 : Nat) (B5 : Option Addr) (d5 : Nat) (nn : MeshV), Box wx (ga + 1) 29 [.slice A5 nn.vs.length c5, .slice B5 nn.fs.length d5] ∧ (Sl w2 (w.heap.size + 1) A5 nn.vs ∧ Sl w2 (w.heap.size + 1) B5 nn.fs) ∧ Box wx ga 29 [.slice A1 vs.length c1, .slice B1 fs.length d1] ∧ w2.grownBy wx (some w.heap.size) ∧ SOut w.heap.size (0 + 70 + 70 + 1) (w.alloc (.cells #[.slice A n c, .int .i64 0] 25)) wx)
  case first =>
    cases fl
    · go_wp2_with fail
      go_meet
      exact ⟨A2, c2, B2, d2, ⟨vs2, fs2⟩, VB, ⟨hv2, hf2⟩, VA, hw24, hoD⟩
    · obtain ⟨x0, x1⟩ := VA.c 0 rfl
      obtain ⟨x2, x3⟩ := VA.c 1 rfl
      obtain ⟨y0, y1⟩ := VB.c 0 rfl
      obtain ⟨y2, y3⟩ := VB.c 1 rfl
      have hlg := VB.lt
      have hVB := (VB.set_ 0 (.slice A1 vs.length c1) (by simp)).set_ 1 (.slice B1 fs.length d1) (by simp)
      have hVA := (VA.set_other (g' := ga + 1) (i := 0) (.slice A1 vs.length c1) (by omega)).set_other (g' := ga + 1) (i := 1) (.slice B1 fs.length d1) (by omega)
      have hw := gr_set (gr_set hw24 (p := ⟨ga + 1, 0, none⟩) (.inr (by simp only; omega)) (.slice A1 vs.length c1)) (p := ⟨ga + 1, 1, none⟩) (.inr (by simp only; omega)) (.slice B1 fs.length d1)
      have hS := (hoD.set (p := ⟨ga + 1, 0, none⟩) (by simp) (by simp; omega) (.slice A1 vs.length c1)).set (p := ⟨ga + 1, 1, none⟩) (by simp) (by simp; omega) (.slice B1 fs.length d1)
      replace hVB := hide hVB
      replace hVA := hide hVA
      replace hw := hide hw
      replace hS := hide hS
      go_wp2_with fail
      go_meet
      exact ⟨A1, c1, B1, d1, ⟨vs, fs⟩, hVB.out, ⟨hv, hf⟩, hVA.out, hw.out, hS.out⟩
  case rest =>
  clear VA VB hw24 hoD hv2 hf2
  obtain ⟨A2, c2, B2, d2, ⟨vs2, fs2⟩, VB, ⟨hv2, hf2⟩, VA, hw2, hoD⟩ := hcut
  simp only at VB hv2 hf2
  rename World => w4
  obtain ⟨x0, x1⟩ := VA.c 0 rfl
  obtain ⟨x2, x3⟩ := VA.c 1 rfl
  go_wp2_with fail
  refine (faceList_any _ _ A1 vs.length c1 B1 fs.length d1 _ hoD.2 (by omega) (by omega)).mono ?_
  rintro e w5 ⟨LF, F, e0, rfl, hLF, hLl, hLc, ho5⟩
  clear x0 x1 x2 x3
  replace VA := VA.gr ho5.1 (by intro e; injection e; omega)
  replace VB := VB.gr ho5.1 (by intro e; injection e; omega)
  have hw5 := gr_trans hw2 ho5.1
  have hoE := hoD.trans ho5
  have hgT : Hid (w.grownBy w5 none) := gr_new hg0 hoE.1 (Nat.le_refl _)
  have pA := (hv.gr hw5 (fun g e => by injection e; omega)).mono (Nat.zero_le _)
  have pB := (hf.gr hw5 (fun g e => by injection e; omega)).mono (Nat.zero_le _)
  have qA := (hv2.gr hw5 (fun g e => by injection e; omega)).mono (Nat.zero_le _)
  have qB := (hf2.gr hw5 (fun g e => by injection e; omega)).mono (Nat.zero_le _)
  have pL := hLF.mono (Nat.zero_le _)
  clear hw2 hoD ho5 hoE hw5 hv hf hv2 hf2 hLF hL hs0 hg0
  obtain ⟨W, hWW⟩ : ∃ x, x = w5 := ⟨_, rfl⟩
  rw [← hWW] at VA VB hgT pA pB qA qB pL ⊢
  clear hWW
  have hJo := fun wx (hx : W.grownBy wx none) => joined_any A1 c1 vs B1 d1 fs A2 c2 vs2 B2 d2 fs2 wx (pA.pure hx) (pB.pure hx) (qA.pure hx) (qB.pure hx)
  have hPt := fun wx (hx : W.grownBy wx none) => partGo_any A1 c1 vs B1 d1 fs F e0 LF wx (pA.pure hx) (pB.pure hx) (pL.pure hx) (by omega)
  have hWd := fun wx (hx : W.grownBy wx none) => welded_any A1 c1 vs B1 d1 fs wx (pA.pure hx) (pB.pure hx)
  have hRJ := fun wx (hx : W.grownBy wx none) => joinedRef_any A1 c1 vs B1 d1 fs A2 c2 vs2 B2 d2 fs2 wx (pA.pure hx) (pB.pure hx) (qA.pure hx) (qB.pure hx)
  have hFF := fun wx (hx : W.grownBy wx none) => facesFault_any A1 vs.length c1 B1 fs.length d1 F e0 LF wx (pL.pure hx) hLc (by omega) (by omega)
  have hRP := fun wx (hx : W.grownBy wx none) hM hi => partOf_any A1 c1 vs B1 d1 fs F e0 LF wx (pA.pure hx) (pB.pure hx) (pL.pure hx) hM hi (by omega)
  have hRW := fun wx (hx : W.grownBy wx none) hM => weldedRef_any A1 c1 vs B1 d1 fs wx (pA.pure hx) (pB.pure hx) hM
  have hF1 := fun wx (hx : W.grownBy wx none) => meshFault_any A1 c1 vs B1 d1 fs wx (pA.pure hx) (pB.pure hx)
  have hF2 := fun wx (hx : W.grownBy wx none) => meshFault_any A2 c2 vs2 B2 d2 fs2 wx (qA.pure hx) (qB.pure hx)
  have k1 := @join_ok ⟨vs, fs⟩ ⟨vs2, fs2⟩
  have k2 := @join_bad ⟨vs, fs⟩ ⟨vs2, fs2⟩
  have k3 := @part_ok vs fs LF
  have k4 := @part_bad vs fs LF
  have k4' := @part_bad' vs fs LF
  have k5 := @weld_ok vs fs
  have k6 := @weld_bad vs fs
  obtain ⟨J, hJ⟩ : ∃ x, x = joinR ⟨vs, fs⟩ ⟨vs2, fs2⟩ := ⟨_, rfl⟩
  obtain ⟨JE, hJE⟩ : ∃ x, x = joinE ⟨vs, fs⟩ ⟨vs2, fs2⟩ := ⟨_, rfl⟩
  obtain ⟨P, hP⟩ : ∃ x, x = partR vs fs LF := ⟨_, rfl⟩
  obtain ⟨PE, hPE⟩ : ∃ x, x = partE vs fs LF := ⟨_, rfl⟩
  obtain ⟨Wd, hWdd⟩ : ∃ x, x = weldR vs fs := ⟨_, rfl⟩
  obtain ⟨WE, hWE⟩ : ∃ x, x = weldE vs fs := ⟨_, rfl⟩
  obtain ⟨F1, hF1d⟩ : ∃ x, x = meshF ⟨vs, fs⟩ := ⟨_, rfl⟩
  obtain ⟨F2, hF2d⟩ : ∃ x, x = meshF ⟨vs2, fs2⟩ := ⟨_, rfl⟩
  simp only [← hJ, ← hJE] at hJo k1 k2
  simp only [← hP, ← hPE] at hPt k3 k4 k4'
  simp only [← hWdd, ← hWE] at hWd k5 k6
  simp only [← hF1d, ← hF2d] at hF1 hF2 k1 k2 k3 k4 k4' k5 k6 hRJ hRP hRW
  replace hJo := hide hJo
  replace hPt := hide hPt
  replace hWd := hide hWd
  replace hRJ := hide hRJ
  replace hFF := hide hFF
  replace hRP := hide hRP
  replace hRW := hide hRW
  replace hF1 := hide hF1
  replace hF2 := hide hF2
  replace k1 := hide k1
  replace k2 := hide k2
  replace k3 := hide k3
  replace k4 := hide k4
  replace k4' := hide k4'
  replace k5 := hide k5
  replace k6 := hide k6
  clear hJ hJE hP hPE hWdd hWE hF1d hF2d pA pB qA qB pL
  have hB : ∀ wx, W.grownBy wx none → wx.cell? ⟨ga, 0, none⟩ = some (.slice A1 vs.length c1) ∧ wx.cell? ⟨ga, 1, none⟩ = some (.slice B1 fs.length d1) ∧ wx.cell? ⟨ga + 1, 0, none⟩ = some (.slice A2 vs2.length c2) ∧ wx.cell? ⟨ga + 1, 1, none⟩ = some (.slice B2 fs2.length d2) := fun wx hx => ⟨hx.k (VA.c 0 rfl).1, hx.k (VA.c 1 rfl).1, hx.k (VB.c 0 rfl).1, hx.k (VB.c 1 rfl).1⟩
  have hgaW : ga + 1 < W.heap.size := VB.lt
  replace hB := hide hB
  clear VA VB
  go_upto_region 6 with fail
  refine wp_region_tree (fun wx => W.grownBy wx none) [1, 0, 1, 0, 2, 2] (.bl 0 (.bl 2 (.ef 1 (.ef 3 (.bl 4 (.bl 5 .done)))))) (by kernel_rfl) (by kernel_rfl) (gr_drew (World.grownBy.refl _ _)) ?_
  obtain ⟨wz, hwz⟩ : ∃ x, x = (W).drew := ⟨_, rfl⟩
  rw [← hwz]
  have hgwz : (W).grownBy wz none := by rw [hwz]; exact gr_drew (World.grownBy.refl _ _)
  clear hwz
  refine tree_b rfl rfl rfl rfl _ rfl (by simp) (fun K hK => ?_)
  apply Exists.intro
  refine ⟨fun wq hq K' hK' => ?_, ?_⟩
  · obtain ⟨d0, d1, d2, d3⟩ := hB.out wq hq
    go_wp2_with fail
    exact hK'
  go_simp
  refine hK _ ?_
  clear hK K
  refine tree_b rfl rfl rfl rfl _ rfl (by simp) (fun K hK => ?_)
  apply Exists.intro
  refine ⟨fun wq hq K' hK' => ?_, ?_⟩
  · obtain ⟨d0, d1, d2, d3⟩ := hB.out wq hq
    go_wp2_with fail
    exact hK'
  go_simp
  refine hK _ ?_
  clear hK K
  refine tree_e rfl rfl (fun K hK => ?_)
  go_wp2_with fail
  refine (hF1.out wz hgwz).mono ?_
  rintro e w1 ⟨rfl, hg1⟩
  go_wp2_with fail
  try go_simp
  refine hK _ _ (gr_trans hgwz hg1) ?_
  clear hK K
  refine tree_e0 (by kernel_rfl) rfl rfl (fun K hK => ?_)
  go_wp2_with fail
  refine (hF2.out w1 (gr_trans hgwz hg1)).mono ?_
  rintro e w6 ⟨rfl, hg6⟩
  go_wp2_with fail
  try go_simp
  refine hK _ _ trivial ?_
  clear hK K
  refine tree_p rfl rfl rfl rfl _ rfl (by simp) (fun K hK => ?_)
  apply Exists.intro
  refine ⟨fun wq K' hK' => ?_, ?_⟩
  · go_wp2_with fail
    exact hK'
  go_simp
  refine hK _ ?_
  clear hK K
  refine tree_p rfl rfl rfl rfl _ rfl (by simp) (fun K hK => ?_)
  apply Exists.intro
  refine ⟨fun wq K' hK' => ?_, ?_⟩
  · go_wp2_with fail
    exact hK'
  go_simp
  refine hK _ ?_
  clear hK K
  refine tree_done ?_
  go_upto_region 7 with fail
  have g6 := gr_trans hgwz (gr_trans hg1 hg6)
  clear hgwz hg1 hF1 hF2
  clear hg6
  obtain ⟨d0, d1', d2, d3⟩ := hB.out w6 g6
  have hga6 : ga + 1 < w6.heap.size := cell_lt d2
  have hgb6 : ga < w6.heap.size := cell_lt d0
  go_wp2_with fail
  refine (hJo.out _ g6).mono ?_
  rintro e w7 ⟨Ja, ja, Jb, jb, rfl, s1, s2, g7⟩
  replace g7 := gr_trans g6 g7
  have VJ := VMs.new (m := J) (c := ja) (d := jb) (lo := 0) (s1.mono (Nat.zero_le _)) (s2.mono (Nat.zero_le _))
  have g7' := gr_alloc g7 (.cells #[.slice Ja J.vs.length ja, .slice Jb J.fs.length jb] 29)
  clear s1 s2 g6 d0 d1' d2 d3 hga6 hgb6 hJo
  obtain ⟨d0, d1', d2, d3⟩ := hB.out w7 g7
  have hga7 : ga + 1 < w7.heap.size := cell_lt d2
  have hgb7 : ga < w7.heap.size := cell_lt d0
  go_wp2_with fail
  refine (hPt.out _ g7').mono ?_
  rintro e w8 ⟨Pa, pa, Pb, pb, rfl, s1, s2, g8⟩
  replace VJ := VJ.pure g8
  replace g8 := gr_trans g7' g8
  have VP := VMs.new (m := P) (c := pa) (d := pb) (lo := 0) (s1.mono (Nat.zero_le _)) (s2.mono (Nat.zero_le _))
  replace VJ := VJ.pure (gr_alloc (World.grownBy.refl _ none) (.cells #[.slice Pa P.vs.length pa, .slice Pb P.fs.length pb] 29))
  have g8' := gr_alloc g8 (.cells #[.slice Pa P.vs.length pa, .slice Pb P.fs.length pb] 29)
  clear s1 s2 d0 d1' d2 d3 hga7 hgb7 hPt
  obtain ⟨d0, d1', d2, d3⟩ := hB.out w8 g8
  have hga8 : ga + 1 < w8.heap.size := cell_lt d2
  have hgb8 : ga < w8.heap.size := cell_lt d0
  go_wp2_with fail
  refine (hWd.out _ g8').mono ?_
  rintro e w9 ⟨Wa, wa, Wb, wb, rfl, s1, s2, g9⟩
  replace VJ := VJ.pure g9
  replace VP := VP.pure g9
  replace g9 := gr_trans g8' g9
  have VW := VMs.new (m := Wd) (c := wa) (d := wb) (lo := 0) (s1.mono (Nat.zero_le _)) (s2.mono (Nat.zero_le _))
  replace VJ := VJ.pure (gr_alloc (World.grownBy.refl _ none) (.cells #[.slice Wa Wd.vs.length wa, .slice Wb Wd.fs.length wb] 29))
  replace VP := VP.pure (gr_alloc (World.grownBy.refl _ none) (.cells #[.slice Wa Wd.vs.length wa, .slice Wb Wd.fs.length wb] 29))
  have g9' := gr_alloc g9 (.cells #[.slice Wa Wd.vs.length wa, .slice Wb Wd.fs.length wb] 29)
  clear s1 s2 d0 d1' d2 d3 hga8 hgb8 hWd g7 g7' g8 g8'
  go_upto_region 10 with fail
  go_wp2_with fail
  refine (or_any _ _ _ [F1, F2] _ (sl_intsAt _ 0 _ [F1, F2] _ (by first | rfl | simp) (Nat.zero_le _) (by simp [maxLen])) rfl).mono ?_
  rintro e wx ⟨rfl, rfl⟩
  obtain ⟨O1, hO1⟩ : ∃ O1, O1 = orL [F1, F2] := ⟨_, rfl⟩
  rw [← hO1]
  simp only [Hid, ← hO1] at k1 k2
  clear hO1
  replace k1 := hide k1
  replace k2 := hide k2
  go_upto_region 12 with fail
  obtain ⟨B0, hB0⟩ : ∃ B0, B0 = (w9.alloc (.cells #[.slice Wa Wd.vs.length wa, .slice Wb Wd.fs.length wb] 29)).alloc (.cells #[.int .i64 F1, .int .i64 F2] 35) := ⟨_, rfl⟩
  have hBg := gr_alloc (World.grownBy.refl (w9.alloc (.cells #[.slice Wa Wd.vs.length wa, .slice Wb Wd.fs.length wb] 29)) none) (.cells #[.int .i64 F1, .int .i64 F2] 35)
  rw [← hB0] at hBg
  have hBs : B0.heap.size = w9.heap.size + 1 + 1 := by rw [hB0]; simp
  obtain ⟨X0, hX0⟩ : ∃ X0, X0 = ((B0.alloc (.cells #[.slice none 0 0, .slice none 0 0] 29)).alloc (.cells #[.slice none 0 0, .slice none 0 0] 29)).alloc (.cells #[.slice none 0 0, .slice none 0 0] 29) := ⟨_, rfl⟩
  have hXg : B0.grownBy X0 none := by rw [hX0]; exact (by repeat (first | exact World.grownBy.refl _ _ | assumption | refine gr_alloc ?_ _ | (apply gr_tail; assumption) | refine gr_drewN ?_ _ | refine gr_drew ?_))
  have hXs : X0.heap.size = w9.heap.size + 1 + 1 + 1 + 1 + 1 := by rw [hX0]; simp [hBs]
  have x0 : Cell X0 (w9.heap.size + 1 + 1) 0 (.slice none 0 0) := by rw [hX0, ← hBs]; exact ⟨by go_simp, by go_simp⟩
  have x1 : Cell X0 (w9.heap.size + 1 + 1) 1 (.slice none 0 0) := by rw [hX0, ← hBs]; exact ⟨by go_simp, by go_simp⟩
  have y0 : Cell X0 (w9.heap.size + 1 + 1 + 1) 0 (.slice none 0 0) := by rw [hX0, ← hBs]; exact ⟨by go_simp, by go_simp⟩
  have y1 : Cell X0 (w9.heap.size + 1 + 1 + 1) 1 (.slice none 0 0) := by rw [hX0, ← hBs]; exact ⟨by go_simp, by go_simp⟩
  have z0 : Cell X0 (w9.heap.size + 1 + 1 + 1 + 1) 0 (.slice none 0 0) := by rw [hX0, ← hBs]; exact ⟨by go_simp, by go_simp⟩
  have z1 : Cell X0 (w9.heap.size + 1 + 1 + 1 + 1) 1 (.slice none 0 0) := by rw [hX0, ← hBs]; exact ⟨by go_simp, by go_simp⟩
  rw [← hB0, ← hX0]
  clear hX0 hB0
  replace VJ := VJ.pure hBg
  replace VP := VP.pure hBg
  replace VW := VW.pure hBg
  have gB := gr_trans g9' hBg
  clear hBg g9 g9'
  obtain ⟨gx, hgx⟩ : ∃ gx, gx = w9.heap.size + 1 + 1 := ⟨_, rfl⟩
  rw [← hgx] at x0 x1 y0 y1 z0 z1 hXs hBs ⊢
  obtain ⟨gj, hgj⟩ : ∃ g, g = w7.heap.size := ⟨_, rfl⟩
  obtain ⟨gp, hgp⟩ : ∃ g, g = w8.heap.size := ⟨_, rfl⟩
  obtain ⟨gw, hgw⟩ : ∃ g, g = w9.heap.size := ⟨_, rfl⟩
  rw [← hgj] at VJ
  rw [← hgp] at VP
  rw [← hgw] at VW
  rw [← hgj, ← hgp, ← hgw]
  clear hgx
  replace hgj := hide hgj
  replace hgp := hide hgp
  replace hgw := hide hgw
  go_upto_if 66 with fail
  go_cut [15] (fun s15 wx => s15 = .int .i64 JE ∧ VMs X0.heap.size gx J wx ∧ (Cell wx (gx + 1) 0 (.slice none 0 0) ∧ Cell wx (gx + 1) 1 (.slice none 0 0)) ∧ (Cell wx (gx + 1 + 1) 0 (.slice none 0 0) ∧ Cell wx (gx + 1 + 1) 1 (.slice none 0 0)) ∧ B0.grownBy wx none ∧ X0.heap.size ≤ wx.heap.size)
  case first =>
    have gX := gr_trans gB hXg
    obtain ⟨d0, d1', d2, d3⟩ := hB.out X0 gX
    by_cases hz : O1 = 0
    · have hb : (O1 == 0) = true := by simp [hz]
      obtain ⟨hF0, hF20, hM, hE⟩ := k1.out hz
      have hR := hRJ.out X0 gX hF0 hF20
      rw [← hM, ← hE] at hR
      replace hR := hide hR
      clear k1 k2 k3 k4 k4' k5 k6 hRP hRW hRJ hFF hM hE hz hF0 hF20
      have X1 := hide x0
      have X2 := hide x1
      clear x0 x1
      go_wp2_with fail
      refine hR.out.mono ?_
      rintro e wy ⟨Xa, xa, Xb, xb, rfl, s1, s2, hgy⟩
      have x0 := hide (X1.out.gr hgy (by simp))
      have x1 := hide (X2.out.gr hgy (by simp))
      obtain ⟨u0, v0⟩ := x0.out
      obtain ⟨u1, v1⟩ := x1.out
      go_wp2_with fail
      go_meet
      have hgs := fun (a1 a2 : Value) => gr_set (gr_set (World.grownBy.refl wy (some gx)) (p := ⟨gx, 0, none⟩) (.inl rfl) a1) (p := ⟨gx, 1, none⟩) (.inl rfl) a2
      exact ⟨rfl, ⟨Xa, xa, Xb, xb, (x0.out.set_ _).set_ne _ (by decide), (x1.out.set_ne _ (by decide)).set_ _, s1.gr (hgs _ _) (fun g e => by injection e; omega), s2.gr (hgs _ _) (fun g e => by injection e; omega)⟩,
        ⟨(y0.gr hgy (by simp)).gr (hgs _ _) (by simp), (y1.gr hgy (by simp)).gr (hgs _ _) (by simp)⟩, ⟨(z0.gr hgy (by simp)).gr (hgs _ _) (by simp; omega), (z1.gr hgy (by simp)).gr (hgs _ _) (by simp; omega)⟩, gr_row (gr_trans hXg hgy) (hgs _ _) (fun g e => by injection e; omega), Nat.le_trans hgy.size (hgs _ _).size⟩
    · have hb : (O1 == 0) = false := by simp [hz]
      obtain ⟨hM, hE⟩ := k2.out hz
      clear k1 k2 k3 k4 k4' k5 k6 hRP hRW hRJ hFF hz
      subst hM
      subst hE
      go_wp2_with fail
      go_meet
      exact ⟨rfl, VMs.nil x0 x1, ⟨y0, y1⟩, ⟨z0, z1⟩, hXg, Nat.le_refl _⟩
  case rest =>
  obtain ⟨rfl, Vx, ⟨y0, y1⟩, ⟨z0, z1⟩, gc, hle⟩ := hcut
  rename World => wA
  clear hRJ x0 x1 hXg
  go_upto_if 74 with fail
  go_cut [16] (fun s16 wx => s16 = .int .i64 PE ∧ VMs X0.heap.size gx J wx ∧ VMs X0.heap.size (gx + 1) P wx ∧ (Cell wx (gx + 1 + 1) 0 (.slice none 0 0) ∧ Cell wx (gx + 1 + 1) 1 (.slice none 0 0)) ∧ B0.grownBy wx none ∧ X0.heap.size ≤ wx.heap.size)
  case first =>
    have gX := gr_trans gB gc
    obtain ⟨d0, d1', d2, d3⟩ := hB.out wA gX
    by_cases hz : F1 = 0
    · have hb : (F1 == 0) = true := by simp [hz]
      have hR := hide (hFF.out wA gX)
      by_cases hz2 : facesErr fs.length LF = 0
      · obtain ⟨hi, hM, hE⟩ := k3.out hz hz2
        have hR2 := fun wx (hx : wA.grownBy wx none) => hRP.out wx (gr_trans gX hx) hz hi
        rw [← hM, ← hE] at hR2
        replace hR2 := hide hR2
        rw [Hid, hz2] at hR
        replace hR := hide hR
        clear k1 k2 k3 k4 k4' k5 k6 hRP hRW hFF hM hE hz hz2 hi
        go_upto_region 15 with fail
        go_wp2_with fail
        refine hR.out.mono ?_
        rintro e wy0 ⟨rfl, hgy0⟩
        obtain ⟨d0, d1', d2, d3⟩ := hB.out wy0 (gr_trans gX hgy0)
        have X1 := hide (y0.gr hgy0 (by simp))
        have X2 := hide (y1.gr hgy0 (by simp))
        clear y0 y1
        go_wp2_with fail
        refine (hR2.out wy0 hgy0).mono ?_
        rintro e wy ⟨Xa, xa, Xb, xb, rfl, s1, s2, hgy⟩
        have y0 := hide (X1.out.gr hgy (by simp))
        have y1 := hide (X2.out.gr hgy (by simp))
        obtain ⟨u0, v0⟩ := y0.out
        obtain ⟨u1, v1⟩ := y1.out
        have hle0 := Nat.le_trans hle hgy0.size
        replace hgy0 := gr_trans hgy0 hgy
        go_wp2_with fail
        go_meet
        have hgs := fun (a1 a2 : Value) => gr_set (gr_set (World.grownBy.refl wy (some (gx + 1))) (p := ⟨gx + 1, 0, none⟩) (.inl rfl) a1) (p := ⟨gx + 1, 1, none⟩) (.inl rfl) a2
        exact ⟨rfl, (Vx.pure hgy0).oth (hgs _ _) (by omega) (by omega), ⟨Xa, xa, Xb, xb, (y0.out.set_ _).set_ne _ (by decide), (y1.out.set_ne _ (by decide)).set_ _, (s1.gr (hgs _ _) (fun g e => by injection e; omega)).mono hle0, (s2.gr (hgs _ _) (fun g e => by injection e; omega)).mono hle0⟩,
          ⟨(z0.gr hgy0 (by simp)).gr (hgs _ _) (by simp), (z1.gr hgy0 (by simp)).gr (hgs _ _) (by simp)⟩, gr_row (gr_trans gc hgy0) (hgs _ _) (fun g e => by injection e; omega), Nat.le_trans hle (Nat.le_trans hgy0.size (hgs _ _).size)⟩
      · obtain ⟨hM, hE⟩ := k4.out hz hz2
        rw [Hid, ← hE] at hR
        rw [← hE] at hz2
        have hb2 : (PE == 0) = false := by simp [hz2]
        replace hR := hide hR
        clear k1 k2 k3 k4 k4' k5 k6 hRP hRW hFF hE hz hz2
        subst hM
        go_upto_region 15 with fail
        go_wp2_with fail
        refine hR.out.mono ?_
        rintro e wy ⟨rfl, hgy⟩
        go_wp2_with fail
        go_meet
        exact ⟨rfl, Vx.pure hgy, VMs.nil (y0.gr hgy (by simp)) (y1.gr hgy (by simp)), ⟨z0.gr hgy (by simp), z1.gr hgy (by simp)⟩, gr_trans gc hgy, Nat.le_trans hle hgy.size⟩
    · have hb : (F1 == 0) = false := by simp [hz]
      obtain ⟨hM, hE⟩ := k4'.out hz
      clear k1 k2 k3 k4 k4' k5 k6 hRP hRW hFF hz
      subst hM
      replace hE := hide hE
      go_wp2_with fail
      go_meet
      exact ⟨by rw [hE.out], Vx, VMs.nil y0 y1, ⟨z0, z1⟩, gc, hle⟩
  case rest =>
  obtain ⟨rfl, Vx, Vy, ⟨z0, z1⟩, gc, hle⟩ := hcut
  rename World => wB
  clear k3 k4 k4' hRP hFF y0 y1
  go_upto_if 87 with fail
  go_cut [17] (fun s17 wx => s17 = .int .i64 WE ∧ VMs X0.heap.size gx J wx ∧ VMs X0.heap.size (gx + 1) P wx ∧ VMs X0.heap.size (gx + 1 + 1) Wd wx ∧ B0.grownBy wx none)
  case first =>
    have gX := gr_trans gB gc
    obtain ⟨d0, d1', d2, d3⟩ := hB.out wB gX
    by_cases hz : F1 = 0
    · have hb : (F1 == 0) = true := by simp [hz]
      obtain ⟨hM, hE⟩ := k5.out hz
      have hR := hRW.out wB gX hz
      rw [← hM, ← hE] at hR
      replace hR := hide hR
      clear k1 k2 k5 k6 hRW hM hE hz
      have X1 := hide z0
      have X2 := hide z1
      clear z0 z1
      go_wp2_with fail
      refine hR.out.mono ?_
      rintro e wy ⟨Xa, xa, Xb, xb, rfl, s1, s2, hgy⟩
      have z0 := hide (X1.out.gr hgy (by simp))
      have z1 := hide (X2.out.gr hgy (by simp))
      obtain ⟨u0, v0⟩ := z0.out
      obtain ⟨u1, v1⟩ := z1.out
      go_wp2_with fail
      go_meet
      have hgs := fun (a1 a2 : Value) => gr_set (gr_set (World.grownBy.refl wy (some (gx + 1 + 1))) (p := ⟨gx + 1 + 1, 0, none⟩) (.inl rfl) a1) (p := ⟨gx + 1 + 1, 1, none⟩) (.inl rfl) a2
      exact ⟨rfl, (Vx.pure hgy).oth (hgs _ _) (by omega) (by omega), (Vy.pure hgy).oth (hgs _ _) (by omega) (by omega), ⟨Xa, xa, Xb, xb, (z0.out.set_ _).set_ne _ (by decide), (z1.out.set_ne _ (by decide)).set_ _, (s1.gr (hgs _ _) (fun g e => by injection e; omega)).mono hle, (s2.gr (hgs _ _) (fun g e => by injection e; omega)).mono hle⟩,
        gr_row (gr_trans gc hgy) (hgs _ _) (fun g e => by injection e; omega)⟩
    · have hb : (F1 == 0) = false := by simp [hz]
      obtain ⟨hM, hE⟩ := k6.out hz
      clear k1 k2 k5 k6 hRW hz
      subst hM
      replace hE := hide hE
      go_wp2_with fail
      go_meet
      exact ⟨by rw [hE.out], Vx, Vy, VMs.nil z0 z1, gc⟩
  case rest =>
  obtain ⟨rfl, Vx, Vy, Vz, gc⟩ := hcut
  rename World => wC
  clear k5 k6 hRW z0 z1 hle
  replace VJ := VJ.pure gc
  replace VP := VP.pure gc
  replace VW := VW.pure gc
  have gX := hide (gr_trans gB gc)
  have kJ : JE = 0 → meshF J = 0 := fun h => by
    by_cases hz : O1 = 0
    · obtain ⟨-, -, hM, hE⟩ := k1.out hz
      rw [h] at hE
      rw [hM]
      unfold okM
      rw [if_pos hE.symm]
      exact hE.symm
    · obtain ⟨-, hE⟩ := k2.out hz
      exact absurd (hE.symm.trans h) hz
  replace kJ := hide kJ
  clear k1 k2
  have VJ0 := hide VJ
  have Vx0 := hide Vx
  obtain ⟨tA, tc, tB, td, ⟨cA, -⟩, ⟨cB, -⟩, pA, pB⟩ := VJ
  obtain ⟨xA, xc, xB, xd, ⟨cC, -⟩, ⟨cD, -⟩, pC', pD'⟩ := Vx
  have pC := pC'.mono (Nat.zero_le _)
  have pD := pD'.mono (Nat.zero_le _)
  clear pC' pD'
  go_wp2_with fail
  refine (sameMesh_any _ _ _ _ _ _ _ _ _ _ _ pA pB pC pD).mono ?_
  rintro e v1 ⟨rfl, h1⟩
  replace VP := VP.pure h1
  replace Vy := Vy.pure h1
  replace VW := VW.pure h1
  replace Vz := Vz.pure h1
  clear cA cB cC cD pA pB pC pD
  obtain ⟨tA, tc, tB, td, ⟨cA, -⟩, ⟨cB, -⟩, pA, pB⟩ := VP
  obtain ⟨xA, xc, xB, xd, ⟨cC, -⟩, ⟨cD, -⟩, pC', pD'⟩ := Vy
  have pC := pC'.mono (Nat.zero_le _)
  have pD := pD'.mono (Nat.zero_le _)
  clear pC' pD'
  go_wp2_with fail
  refine (sameMesh_any _ _ _ _ _ _ _ _ _ _ _ pA pB pC pD).mono ?_
  rintro e v2 ⟨rfl, h2⟩
  replace VW := VW.pure h2
  replace Vz := Vz.pure h2
  clear cA cB cC cD pA pB pC pD
  obtain ⟨tA, tc, tB, td, ⟨cA, -⟩, ⟨cB, -⟩, pA, pB⟩ := VW
  obtain ⟨xA, xc, xB, xd, ⟨cC, -⟩, ⟨cD, -⟩, pC', pD'⟩ := Vz
  have pC := pC'.mono (Nat.zero_le _)
  have pD := pD'.mono (Nat.zero_le _)
  clear pC' pD'
  go_wp2_with fail
  refine (sameMesh_any _ _ _ _ _ _ _ _ _ _ _ pA pB pC pD).mono ?_
  rintro e v3 ⟨rfl, h3⟩
  have g3 := gr_trans (gr_trans h1 h2) h3
  have hgF := hide (gr_trans hgT.out (gr_trans gX.out g3))
  clear cA cB cC cD pA pB pC pD
  by_cases hz : JE = 0
  · have hb : (JE != 0) = false := by simp [hz]
    have hJ0 := kJ.out hz
    replace VJ0 := VJ0.out.pure g3
    replace Vx0 := Vx0.out.pure g3
    clear kJ hz h1 h2 h3 g3 gX hgT
    obtain ⟨jv, jf⟩ := J
    obtain ⟨tA, tc, tB, td, ⟨cA, -⟩, ⟨cB, -⟩, pA, pB⟩ := VJ0
    obtain ⟨xA, xc, xB, xd, ⟨cC, -⟩, ⟨cD, -⟩, pC', pD'⟩ := Vx0
    have pC := pC'.mono (Nat.zero_le _)
    have pD := pD'.mono (Nat.zero_le _)
    clear pC' pD'
    simp only at cA cB cC cD pA pB pC pD
    obtain ⟨h5, h6⟩ := weld_ok hJ0
    have hW1 := hide (fun wx (hx : v3.grownBy wx none) => welded_any tA tc jv tB td jf wx (pA.pure hx) (pB.pure hx))
    have hW2 := fun wx (hx : v3.grownBy wx none) => weldedRef_any xA xc jv xB xd jf wx (pC.pure hx) (pD.pure hx) hJ0
    rw [← h5, ← h6] at hW2
    replace hW2 := hide hW2
    clear h5 h6 hJ0
    generalize weldR jv jf = R at *
    generalize weldE jv jf = RE at *
    go_wp2_with fail
    refine (hW1.out _ (World.grownBy.refl _ _)).mono ?_
    rintro e v4 ⟨Ra, ra, Rb, rb, rfl, r1, r2, q4⟩
    have VR := VMs.new (m := R) (c := ra) (d := rb) (lo := 0) (r1.mono (Nat.zero_le _)) (r2.mono (Nat.zero_le _))
    have q4' := gr_alloc q4 (.cells #[.slice Ra R.vs.length ra, .slice Rb R.fs.length rb] 29)
    have hl1 := cell_lt cC
    have hl2 := cell_lt (q4.k cC)
    simp only at hl1 hl2
    replace cC := q4.k cC
    replace cD := q4.k cD
    clear r1 r2 hW1 cA cB
    go_wp2_with fail
    refine (hW2.out _ q4').mono ?_
    rintro e v5 ⟨Sa, sa, Sb, sb, rfl, r1, r2, q5⟩
    have VS := VMs.new (m := R) (c := sa) (d := sb) (lo := 0) (r1.mono (Nat.zero_le _)) (r2.mono (Nat.zero_le _))
    have q5' := gr_trans q4' (gr_alloc q5 (.cells #[.slice Sa R.vs.length sa, .slice Sb R.fs.length sb] 29))
    replace VR := (VR.pure q5).pure (gr_alloc (World.grownBy.refl _ none) (.cells #[.slice Sa R.vs.length sa, .slice Sb R.fs.length sb] 29))
    clear r1 r2 hW2 cC cD pA pB pC pD q4 q4' q5 hl1 hl2
    have hgF2 := hide (gr_trans hgF.out q5')
    clear hgF q5'
    have hl4 := VR.lt
    replace VR := hide VR
    replace VS := hide VS
    have VR2 := VR.out
    have VS2 := VS.out
    obtain ⟨tA, tc, tB, td, ⟨cA, -⟩, ⟨cB, -⟩, pA, pB⟩ := VR2
    obtain ⟨xA, xc, xB, xd, ⟨cC, -⟩, ⟨cD, -⟩, pC', pD'⟩ := VS2
    have pC := pC'.mono (Nat.zero_le _)
    have pD := pD'.mono (Nat.zero_le _)
    clear pC' pD'
    go_wp2_with fail
    refine (sameMesh_any _ _ _ _ _ _ _ _ _ _ _ pA pB pC pD).mono ?_
    rintro e v6 ⟨rfl, h6⟩
    go_wp2_with fail
    refine (meshed_any _).mono ?_
    rintro e v7 ⟨rfl, h7⟩
    go_wp2_with fail
    go_ret
    exact ⟨rfl, gr_trans (gr_trans hgF2.out h6) h7⟩
  · have hb : (JE != 0) = true := by simp [hz]
    clear kJ hz
    go_wp2_with fail
    refine (meshed_any _).mono ?_
    rintro e v4 ⟨rfl, h4⟩
    go_wp2_with fail
    go_ret
    exact ⟨rfl, gr_trans hgF.out h4⟩

end Go.Proofs.Ytjodjdjfagjiaaa

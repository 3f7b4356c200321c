/- Contracts of functions that this seat's laws reach, each: what one call returns and what it leaves in memory; no condition beyond each theorem's own hypotheses. -/
import Derived.Test.YtjodjdjfagjiaaaMeshO
import Derived.Test.YtjodjdjfagjiaaaMeshP
set_option linter.unusedVariables false
set_option linter.unusedSimpArgs false
namespace Go.Proofs.Ytjodjdjfagjiaaa
open Go.RowKit Go.Bl

def crossB (z : Int) (a b c : Int) : Bool := decide (min (min a b) c < z) && decide (z ≤ max (max a b) c)
def crossP (z : Int) (vs : List V3) (f : Fc) : Bool := crossB z (atV vs f.a).z (atV vs f.b).z (atV vs f.c).z

theorem min3 (a b c : Int) : Lib.minOf (([a, b, c] : List Int).take 3) = min (min a b) c := by simp [Lib.minOf]
theorem max3 (a b c : Int) : Lib.maxOf (([a, b, c] : List Int).take 3) = max (max a b) c := by simp [Lib.maxOf]
theorem lit3_at (w : World) (a b c : Int) (t : TypeId) : ∀ j, j < [a, b, c].length → (w.alloc (.cells #[.int .i64 a, .int .i64 b, .int .i64 c] t)).cell? ⟨w.heap.size, 0 + j, none⟩ = some (.int .i64 ([a, b, c].getD j 0)) := fun j hj => by
  have : j = 0 ∨ j = 1 ∨ j = 2 := by simp at hj; omega
  rcases this with rfl | rfl | rfl <;> exact World.cell?_alloc_at _ _ _ _ rfl
theorem minOf3_any (w : World) (a b c : Int) (t : TypeId) : Calls Try.prog 97 #[.slice (some ⟨w.heap.size, 0, none⟩) 3 3] (w.alloc (.cells #[.int .i64 a, .int .i64 b, .int .i64 c] t)) fun e w' => e = .returned (.int .i64 (min (min a b) c)) ∧ (w.alloc (.cells #[.int .i64 a, .int .i64 b, .int .i64 c] t)) = w' :=
  (Try.slices_Min_int w.heap.size 0 3 3 [a, b, c] _ (by omega) (by simp) (by omega) (lit3_at w a b c t)).mono fun _ _ ⟨h1, h2⟩ => ⟨by rw [h1, min3], h2.symm⟩
theorem maxOf3_any (w : World) (a b c : Int) (t : TypeId) : Calls Try.prog 98 #[.slice (some ⟨w.heap.size, 0, none⟩) 3 3] (w.alloc (.cells #[.int .i64 a, .int .i64 b, .int .i64 c] t)) fun e w' => e = .returned (.int .i64 (max (max a b) c)) ∧ (w.alloc (.cells #[.int .i64 a, .int .i64 b, .int .i64 c] t)) = w' :=
  (Try.slices_Max_int w.heap.size 0 3 3 [a, b, c] _ (by omega) (by simp) (by omega) (lit3_at w a b c t)).mono fun _ _ ⟨h1, h2⟩ => ⟨by rw [h1, max3], h2.symm⟩

set_option maxHeartbeats 2000000 in
set_option maxRecDepth 100000 in
theorem crossingM_any (A : Option Addr) (c : Nat) (vs : List V3) (B : Option Addr) (d : Nat) (fs : List Fc) (z : Int) (w : World) (hl : Sl w 0 A vs) (hfs : Sl w 0 B fs) (hM : meshF ⟨vs, fs⟩ = 0) :
    Calls Try.prog 54 #[.agg #[.slice A vs.length c, .slice B fs.length d], .int .i64 z] w fun e w' =>
      ∃ A' c', e = .returned (.slice A' (thoseTo (crossP z vs) fs fs.length).length c') ∧ Sl w' 0 A' (thoseTo (crossP z vs) fs fs.length) ∧ w.grownBy w' none := by
  have hm := hl.1
  unfold maxLen at hm
  have hm2 := hfs.1
  unfold maxLen at hm2
  obtain ⟨hf, hin, _, _, hfl⟩ := meshF_zero hM
  replace hin := hide hin
  clear hM hf
  obtain ⟨P, hP⟩ : ∃ P : Fc → Bool, P = crossP z vs := ⟨_, rfl⟩
  rw [← hP]
  replace hP := hide hP
  have hg0 := gr_alloc (World.grownBy.refl w none) (.cells #[.slice A vs.length c, .slice B fs.length d] 29)
  have b0 := (Cell.new w [.slice A vs.length c, .slice B fs.length d] 29 0 _ rfl _ rfl).1
  have b1 := (Cell.new w [.slice A vs.length c, .slice B fs.length d] 29 1 _ rfl _ rfl).1
  obtain ⟨W, hW⟩ : ∃ W, W = w.alloc (.cells #[.slice A vs.length c, .slice B fs.length d] 29) := ⟨_, rfl⟩
  simp only [List.toArray] at b0 b1
  rw [← hW] at hg0 b0 b1
  replace hW := hide hW.symm
  go_enter Try.func54, Try.ntmps54
  go_wp2_with fail
  rw [hW.out]
  clear hW
  go_loopw [5, 12] (fun o i wr => ∃ (k : Nat) (out : List Int) (A' : Option Addr) (c' : Nat), k ≤ fs.length ∧ i = .int .i64 k ∧ o = .slice A' out.length c' ∧ Hid (out = thoseTo P fs k) ∧ Own wr W.heap.size 3 A' c' out ∧ W.grownBy wr none) (fun _ i _ => fs.length - (intOf i).toNat)
  case atStart => exact ⟨0, [], none, 0, Nat.zero_le _, rfl, rfl, rfl, Own.nil _ _ _, World.grownBy.refl _ _⟩
  case round =>
    obtain ⟨k, out, A', c', hk, rfl, rfl, hout, hown, hg⟩ := hrel
    have hol : out.length ≤ k := by rw [hout.out]; exact thoseTo_len _ _ _
    have hsz := hg.size
    have hsz0 := hg0.size
    by_cases hlt : k < fs.length
    · have hfk := hin.out _ (List.getElem_mem hlt)
      have hyes := thoseTo_yes (p := P) hlt
      have hno := thoseTo_no (p := P) hlt
      have d0 := hg.k b0
      have d1 := hg.k b1
      have hlb0 : w.heap.size < wr.heap.size := cell_lt d0
      obtain ⟨g, o, cx, rfl, hb0, hb1, rfl, hc⟩ := ((hfs.pure (gr_trans hg0 hg))).at_ (by decide) hlt
      have v0 : wr.cell? ⟨g, o + k * 3, none⟩ = some (.int .i64 fs[k].a) := hc 0 _ rfl
      have v1 : wr.cell? ⟨g, o + k * 3 + 1, none⟩ = some (.int .i64 fs[k].b) := hc 1 _ rfl
      have v2 : wr.cell? ⟨g, o + k * 3 + 2, none⟩ = some (.int .i64 fs[k].c) := hc 2 _ rfl
      clear hc
      have hPk : Hid (P fs[k] = crossP z vs fs[k]) := by rw [hP.out]; rfl
      replace hyes := hide hyes
      replace hno := hide hno
      generalize fs[k] = f at *
      have hN := heights_any A c vs (some ⟨g, o, none⟩) fs.length d f (wr.alloc (.cells #[.int .i64 f.a, .int .i64 f.b, .int .i64 f.c] 67)) (hl.pure (gr_alloc (gr_trans hg0 hg) _)) hfk
      unfold crossP at hPk
      generalize (atV vs f.a).z = za at *
      generalize (atV vs f.b).z = zb at *
      generalize (atV vs f.c).z = zc at *
      replace hN := hide hN
      replace hfk := hide hfk
      by_cases hq1 : min (min za zb) zc < z
      · by_cases hq2 : z ≤ max (max za zb) zc
        · have hb : Hid (P f = true) := by rw [Hid, hPk.out]; unfold crossB; rw [decide_eq_true hq1, decide_eq_true hq2]; rfl
          replace hyes := hide (hyes.out hb.out)
          clear hno hPk
          generalize hmn : min (min za zb) zc = mn at *
          generalize hmx : max (max za zb) zc = mx at *
          replace hmn := hide hmn
          replace hmx := hide hmx
          go_wp2_with fail
          refine hN.out.mono ?_
          rintro e w4 ⟨rfl, hg4⟩
          clear hN
          have hgr : wr.grownBy w4 none := gr_trans (gr_alloc (World.grownBy.refl _ _) _) hg4
          replace d0 := hgr.k d0
          replace d1 := hgr.k d1
          have hlb0 : w.heap.size < w4.heap.size := cell_lt d0
          have hsz4 := hgr.size
          clear v0 v1 v2 hg4
          go_wp2_with (first | (refine (minOf3_any _ _ _ _ _).mono ?_; rintro e w5 ⟨rfl, rfl⟩; rw [hmn.out]) | (refine (maxOf3_any _ _ _ _ _).mono ?_; rintro e w5 ⟨rfl, rfl⟩; rw [hmx.out]) | (at_builtin; obtain ⟨i0, hi, hz, h1, h2⟩ := info_parts info_int; refine wpList_push (α := Int) _ rfl (.tmp 30) (.tmp 32) _ rfl W.heap.size 3 i0 _ 8 Try.underlying22 hi hz h1 h2 rfl _ _ _ out rfl ?c1 (by exact (hown.pure (gr_alloc (gr_alloc hgr _) _))) 0 ⟨_, 0, none⟩ 1 1 [(k : Int)] rfl rfl (by exact sl_int1 _ _ _ _ (by first | rfl | simp)) ?c2 ?c3 ?c4 ?_))
          case c1 => rfl
          case c2 => first | omega | (simp; omega)
          case c3 => first | (simp [maxLen]; omega) | (unfold maxLen; omega)
          case c4 => first | omega | (simp; omega)
          intro A5 c5 w5 hown5 hup5
          have hgu := hup5.gr (Nat.le_refl _) (gr_trans hg (gr_alloc (gr_alloc hgr _) _))
          have HS : Hid (out ++ [(k : Int)] = thoseTo P fs (k + 1)) := by rw [Hid, hyes.out, hout.out]
          clear hup5 hown hgr d0 d1
          go_wp2
          (go_roundw; (case rel => exact ⟨k + 1, _, A5, c5, by omega, by go_num, by simp, HS, hown5, hgu⟩); (case measure => simp [intOf]; omega))
        · have hb : Hid (P f = false) := by rw [Hid, hPk.out]; unfold crossB; rw [decide_eq_true hq1, decide_eq_false hq2]; rfl
          replace hno := hide (hno.out hb.out)
          clear hyes hPk
          generalize hmn : min (min za zb) zc = mn at *
          generalize hmx : max (max za zb) zc = mx at *
          replace hmn := hide hmn
          replace hmx := hide hmx
          go_wp2_with fail
          refine hN.out.mono ?_
          rintro e w4 ⟨rfl, hg4⟩
          clear hN
          have hgr : wr.grownBy w4 none := gr_trans (gr_alloc (World.grownBy.refl _ _) _) hg4
          replace d0 := hgr.k d0
          replace d1 := hgr.k d1
          have hlb0 : w.heap.size < w4.heap.size := cell_lt d0
          have hsz4 := hgr.size
          clear v0 v1 v2 hg4
          go_wp2_with (first | (refine (minOf3_any _ _ _ _ _).mono ?_; rintro e w5 ⟨rfl, rfl⟩; rw [hmn.out]) | (refine (maxOf3_any _ _ _ _ _).mono ?_; rintro e w5 ⟨rfl, rfl⟩; rw [hmx.out]))
          (go_roundw; (case rel => exact ⟨k + 1, out, A', c', by omega, by go_num, rfl, by rw [hno.out]; exact hout, hown.pure (gr_alloc hgr _), gr_trans hg (gr_alloc hgr _)⟩); (case measure => simp [intOf]; omega))
      · have hb : Hid (P f = false) := by rw [Hid, hPk.out]; unfold crossB; rw [decide_eq_false hq1, Bool.false_and]
        replace hno := hide (hno.out hb.out)
        clear hyes hPk
        generalize hmn : min (min za zb) zc = mn at *
        replace hmn := hide hmn
        go_wp2_with fail
        refine hN.out.mono ?_
        rintro e w4 ⟨rfl, hg4⟩
        clear hN
        have hgr : wr.grownBy w4 none := gr_trans (gr_alloc (World.grownBy.refl _ _) _) hg4
        replace d0 := hgr.k d0
        replace d1 := hgr.k d1
        have hlb0 : w.heap.size < w4.heap.size := cell_lt d0
        have hsz4 := hgr.size
        clear v0 v1 v2 hg4
        go_wp2_with (first | (refine (minOf3_any _ _ _ _ _).mono ?_; rintro e w5 ⟨rfl, rfl⟩; rw [hmn.out]))
        (go_roundw; (case rel => exact ⟨k + 1, out, A', c', by omega, by go_num, rfl, by rw [hno.out]; exact hout, hown.pure (gr_alloc hgr _), gr_trans hg (gr_alloc hgr _)⟩); (case measure => simp [intOf]; omega))
    · have hk2 : k = fs.length := by omega
      subst hk2
      go_wp2
      go_ret
      refine ⟨A', c', by rw [hout.out]; first | rfl | simp, ?_, gr_trans hg0 hg⟩
      rw [← hout.out]
      exact hown.sl.mono (Nat.zero_le _)

def farF (m : MeshV) (z : Int) : Int := if meshF m = 0 then (if farZ z then 1 else 0) else meshF m
def crossL (m : MeshV) (z : Int) : List Int := if farF m z = 0 then thoseTo (crossP z m.vs) m.fs m.fs.length else []

theorem crossing_any (A : Option Addr) (c : Nat) (vs : List V3) (B : Option Addr) (d : Nat) (fs : List Fc) (z : Int) (w : World) (hl : Sl w 0 A vs) (hfs : Sl w 0 B fs) :
    Calls Try.prog 11 #[.agg #[.slice A vs.length c, .slice B fs.length d], .int .i64 z] w fun e w' =>
      ∃ A' c', e = .returned (.tuple #[.slice A' (crossL ⟨vs, fs⟩ z).length c', .int .i64 (farF ⟨vs, fs⟩ z)]) ∧ Sl w' 0 A' (crossL ⟨vs, fs⟩ z) ∧ w.grownBy w' none := by
  have hg0 := gr_alloc (World.grownBy.refl w none) (.cells #[.slice A vs.length c, .slice B fs.length d] 29)
  have b0 := Cell.new w [.slice A vs.length c, .slice B fs.length d] 29 0 _ rfl _ rfl
  have b1 := Cell.new w [.slice A vs.length c, .slice B fs.length d] 29 1 _ rfl _ rfl
  have hCR := fun wx hx hM => crossingM_any A c vs B d fs z wx (hl.pure (gr_trans hg0 hx)) (hfs.pure (gr_trans hg0 hx)) hM
  replace hCR := hide hCR
  cases hM : decide (meshF ⟨vs, fs⟩ = 0) with
  | false =>
    have hM := of_decide_eq_false hM
    rw [show farF ⟨vs, fs⟩ z = meshF ⟨vs, fs⟩ by unfold farF; rw [if_neg hM], show crossL ⟨vs, fs⟩ z = [] by unfold crossL farF; rw [if_neg (by rw [if_neg hM]; exact hM)]]
    clear hCR
    have hCM := checkMesh_any A c vs B d fs _ (hl.pure hg0) (hfs.pure hg0)
    generalize meshF ⟨vs, fs⟩ = F at *
    replace hCM := hide hCM
    go_enter Try.func11, Try.ntmps11
    go_wp2_with fail
    refine hCM.out.mono ?_
    rintro e w1 ⟨rfl, hg1⟩
    go_wp2_with fail
    exact bodyPost_ret (v := .tuple #[.slice none 0 0, .int .i64 F]) (by simp [results, Try.results11, go_sem]) rfl ⟨none, 0, rfl, sl_nil _ _ _, gr_trans hg0 hg1⟩
  | true =>
    have hM := of_decide_eq_true hM
    cases hz : farZ z with
    | true =>
      rw [show farF ⟨vs, fs⟩ z = 1 by unfold farF; rw [if_pos hM, hz]; rfl, show crossL ⟨vs, fs⟩ z = [] by unfold crossL farF; rw [if_neg (by rw [if_pos hM, hz]; decide)]]
      clear hCR
      replace hz := hide hz
      go_enter Try.func11, Try.ntmps11
      go_wp2_with fail
      refine (checkMesh_any A c vs B d fs _ (hl.pure hg0) (hfs.pure hg0)).mono ?_
      rintro e w1 ⟨rfl, hg1⟩
      rw [hM]
      go_wp2_with (refine (isFarM_any _ _).mono ?_; rintro e w1 ⟨rfl, rfl⟩; rw [hz.out])
      exact bodyPost_ret (v := .tuple #[.slice none 0 0, .int .i64 1]) (by simp [results, Try.results11, go_sem]) rfl ⟨none, 0, rfl, sl_nil _ _ _, gr_trans hg0 hg1⟩
    | false =>
      rw [show farF ⟨vs, fs⟩ z = 0 by unfold farF; rw [if_pos hM, hz]; rfl, show crossL ⟨vs, fs⟩ z = thoseTo (crossP z vs) fs fs.length by unfold crossL farF; rw [if_pos (by rw [if_pos hM, hz]; rfl)]]
      replace hz := hide hz
      generalize thoseTo (crossP z vs) fs fs.length = T at *
      go_enter Try.func11, Try.ntmps11
      go_wp2_with fail
      refine (checkMesh_any A c vs B d fs _ (hl.pure hg0) (hfs.pure hg0)).mono ?_
      rintro e w1 ⟨rfl, hg1⟩
      rw [hM]
      replace b0 := (b0.gr hg1 (by simp)).1
      replace b1 := (b1.gr hg1 (by simp)).1
      go_wp2_with (refine (isFarM_any _ _).mono ?_; rintro e w1 ⟨rfl, rfl⟩; rw [hz.out])
      refine (hCR.out _ hg1 hM).mono ?_
      rintro e w2 ⟨A2, c2, rfl, hs2, hg2⟩
      go_wp2_with fail
      exact bodyPost_ret (v := .tuple #[.slice A2 T.length c2, .int .i64 0]) (by simp [results, Try.results11, go_sem]) rfl ⟨A2, c2, rfl, hs2, gr_trans hg0 (gr_trans hg1 hg2)⟩

end Go.Proofs.Ytjodjdjfagjiaaa

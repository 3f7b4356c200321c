/- Contracts of functions that this seat's laws reach, each: what one call returns and what it leaves in memory; no condition beyond each theorem's own hypotheses. -/
import Derived.Test.YtjodjdjfagjiaaaMeshN
set_option linter.unusedVariables false
set_option linter.unusedSimpArgs false
namespace Go.Proofs.Ytjodjdjfagjiaaa
open Go.RowKit Go.Bl

/-- the numbers of the faces for which something is so, out of the first k -/
def thoseTo (p : Fc → Bool) (fs : List Fc) : Nat → List Int
  | 0 => []
  | k + 1 => thoseTo p fs k ++ (if p (fs.getD k default) then [(k : Int)] else [])
theorem thoseTo_len (p : Fc → Bool) (fs : List Fc) (k : Nat) : (thoseTo p fs k).length ≤ k := by
  induction k with
  | zero => simp [thoseTo]
  | succ k ih => unfold thoseTo; rw [List.length_append]; split <;> simp <;> omega
theorem thoseTo_yes {p : Fc → Bool} {fs : List Fc} {k : Nat} (hk : k < fs.length) (h : p fs[k] = true) : thoseTo p fs (k + 1) = thoseTo p fs k ++ [(k : Int)] := by
  conv => lhs; unfold thoseTo
  rw [List.getD_eq_getElem?_getD, List.getElem?_eq_getElem hk, Option.getD_some, if_pos h]
theorem thoseTo_no {p : Fc → Bool} {fs : List Fc} {k : Nat} (hk : k < fs.length) (h : p fs[k] = false) : thoseTo p fs (k + 1) = thoseTo p fs k := by
  conv => lhs; unfold thoseTo
  rw [List.getD_eq_getElem?_getD, List.getElem?_eq_getElem hk, Option.getD_some, if_neg (by rw [h]; simp), List.append_nil]
def overB (num den : Int) (n : V3) : Bool := decide (n.z < 0) && decide (max (absI n.x) (absI n.y) * num < -n.z * den)
def overF (m : MeshV) (num den : Int) : Int := if meshF m = 0 then slopeF num den 1000 1000 else meshF m
def overL (m : MeshV) (num den : Int) : List Int := if overF m num den = 0 then thoseTo (fun f => overB num den (normV m.vs f)) m.fs m.fs.length else []
theorem sl_nil {α : Type} [Enc α] (w : World) (lo : Nat) (A : Option Addr) : Sl w lo A ([] : List α) := ⟨by simp [maxLen], [], rfl, fun h => absurd rfl h⟩
theorem slopeF_zero {num den : Int} (h : slopeF num den 1000 1000 = 0) : 1 ≤ den ∧ lowB num den = true ∧ (0 ≤ num ∧ num ≤ 1000) ∧ den ≤ 1000 := by
  unfold slopeF at h
  split at h
  · cases h
  · rename_i h1
    split at h
    · rename_i h2
      rw [not_or] at h1
      simp only [inB, Bool.and_eq_true, decide_eq_true_eq] at h2
      exact ⟨by omega, by simpa using h1.2, h2.1, h2.2⟩
    · cases h

theorem meshF_zero {vs : List V3} {fs : List Fc} (h : meshF ⟨vs, fs⟩ = 0) : vs.any farV = false ∧ (∀ f ∈ fs, inF vs.length f = true) ∧ fs ≠ [] ∧ vs.length ≤ 1000 ∧ fs.length ≤ 1000 := by
  by_cases h1 : fs = []
  · rw [meshF_none h1] at h; cases h
  by_cases h2 : 1000 < vs.length ∨ 1000 < fs.length
  · rw [meshF_large h1 h2] at h; cases h
  cases h3 : vs.any farV with
  | true => rw [meshF_far h1 h2 h3] at h; cases h
  | false =>
    by_cases h4 : facesF vs fs = 0
    · exact ⟨rfl, fun f hf => faceF_in (facesF_mem h4 f hf), h1, by omega, by omega⟩
    · rw [meshF_face h1 h2 h3 h4] at h; exact absurd h h4

set_option maxHeartbeats 2000000 in
set_option maxRecDepth 100000 in
theorem overhangs_any (A : Option Addr) (c : Nat) (vs : List V3) (B : Option Addr) (d : Nat) (fs : List Fc) (num den : Int) (w : World) (hl : Sl w 0 A vs) (hfs : Sl w 0 B fs)
    (p1 : -9223372036854775808 ≤ num ∧ num ≤ 9223372036854775807) (p2 : -9223372036854775808 ≤ den ∧ den ≤ 9223372036854775807) :
    Calls Try.prog 10 #[.agg #[.slice A vs.length c, .slice B fs.length d], .agg #[.int .i64 num, .int .i64 den]] w fun e w' =>
      ∃ A' c', e = .returned (.tuple #[.slice A' (overL ⟨vs, fs⟩ num den).length c', .int .i64 (overF ⟨vs, fs⟩ num den)]) ∧ Sl w' 0 A' (overL ⟨vs, fs⟩ num den) ∧ w.grownBy w' none := by
  have hm := hl.1
  unfold maxLen at hm
  have hm2 := hfs.1
  unfold maxLen at hm2
  have hlt0 : w.heap.size < w.heap.size + 1 := Nat.lt_succ_self _
  have hg0 := gr_alloc (gr_alloc (World.grownBy.refl w none) (.cells #[.slice A vs.length c, .slice B fs.length d] 29)) (.cells #[.int .i64 num, .int .i64 den] 32)
  have hCM := fun wx hx => checkMesh_any A c vs B d fs wx (hl.pure (gr_trans hg0 hx)) (hfs.pure (gr_trans hg0 hx))
  obtain ⟨W, hW⟩ : ∃ W, W = (w.alloc (.cells #[.slice A vs.length c, .slice B fs.length d] 29)).alloc (.cells #[.int .i64 num, .int .i64 den] 32) := ⟨_, rfl⟩
  have b0 : W.cell? ⟨w.heap.size, 0, none⟩ = some (.slice A vs.length c) := by rw [hW]; go_simp
  have b1 : W.cell? ⟨w.heap.size, 1, none⟩ = some (.slice B fs.length d) := by rw [hW]; go_simp
  have b2 : W.cell? ⟨w.heap.size + 1, 0, none⟩ = some (.int .i64 num) := by rw [hW]; go_simp
  have b3 : W.cell? ⟨w.heap.size + 1, 1, none⟩ = some (.int .i64 den) := by rw [hW]; go_simp
  rw [← hW] at hg0 hCM
  replace hCM := hide hCM
  replace hW := hide hW.symm
  by_cases hM : meshF ⟨vs, fs⟩ = 0
  · obtain ⟨hf, hin, _, _, hfl⟩ := meshF_zero hM
    have hO : overF ⟨vs, fs⟩ num den = slopeF num den 1000 1000 := by unfold overF; rw [if_pos hM]
    rw [hM] at hCM
    replace hin := hide hin
    have hLB := fun wx hb => isLowest_any num den wx p1 hb
    replace hLB := hide hLB
    by_cases hS : slopeF num den 1000 1000 = 0
    · obtain ⟨P, hP⟩ : ∃ P : Fc → Bool, P = fun f => overB num den (normV vs f) := ⟨_, rfl⟩
      have hL : overL ⟨vs, fs⟩ num den = thoseTo P fs fs.length := by unfold overL; rw [if_pos (by rw [hO]; exact hS), hP]
      replace hP := hide hP
      rw [hO, hL, hS]
      clear hO hL
      obtain ⟨e1, e2, ⟨e3, e4⟩, e5⟩ := slopeF_zero hS
      clear hS hM
      replace e2 := hide e2
      have e6 : Hid (outB num 0 1000 = false) := by simp [Hid, outB]; omega
      go_enter Try.func10, Try.ntmps10
      go_wp2_with fail
      rw [hW.out]
      refine (hCM.out _ (World.grownBy.refl _ _)).mono ?_
      rintro e w1 ⟨rfl, hg1⟩
      replace b0 := hg1.k b0
      replace b1 := hg1.k b1
      replace b2 := hg1.k b2
      replace b3 := hg1.k b3
      replace hg0 := gr_trans hg0 hg1
      clear hg1 hW hCM
      go_wp2_with fail
      refine (hLB.out _ (by omega)).mono ?_
      rintro e w2 ⟨rfl, hg1⟩
      rw [e2.out]
      replace b0 := hg1.k b0
      replace b1 := hg1.k b1
      replace b2 := hg1.k b2
      replace b3 := hg1.k b3
      replace hg0 := gr_trans hg0 hg1
      clear hg1 hLB
      go_wp2_with fail
      refine (outside_any _ _ _ _).mono ?_
      rintro e w3 ⟨rfl, rfl⟩
      rw [e6.out]
      go_wp2_with fail
      clear e6 e2
      obtain ⟨i0, hi, hzn', q1, q2⟩ := info_parts info_int
      go_loopw [7, 35] (fun o i wr => ∃ (k : Nat) (out : List Int) (A' : Option Addr) (c' : Nat), k ≤ fs.length ∧ i = .int .i64 k ∧ o = .slice A' out.length c' ∧ Hid (out = thoseTo P fs k) ∧ Own wr w2.heap.size 3 A' c' out ∧ w2.grownBy wr none) (fun _ i _ => fs.length - (intOf i).toNat)
      case atStart => exact ⟨0, [], none, 0, Nat.zero_le _, rfl, rfl, rfl, Own.nil _ _ _, World.grownBy.refl _ _⟩
      case round =>
        obtain ⟨k, out, A', c', hk, rfl, rfl, hout, hown, hg⟩ := hrel
        have hol : out.length ≤ k := by rw [hout.out]; exact thoseTo_len _ _ _
        have hsz := hg.size
        have hsz0 := hg0.size
        by_cases hlt : k < fs.length
        · have hfk := hin.out _ (List.getElem_mem hlt)
          have hyes := thoseTo_yes (p := P) hlt
          have hno := thoseTo_no (p := P) hlt
          have d0 := hg.k b0
          have d1 := hg.k b1
          have d2 := hg.k b2
          have d3 := hg.k b3
          have hlb0 : w.heap.size < wr.heap.size := cell_lt d0
          have hlb1 : w.heap.size + 1 < wr.heap.size := cell_lt d2
          obtain ⟨g, o, cx, rfl, hb0, hb1, rfl, hc⟩ := ((hfs.pure (gr_trans hg0 hg))).at_ (by decide) hlt
          have v0 : wr.cell? ⟨g, o + k * 3, none⟩ = some (.int .i64 fs[k].a) := hc 0 _ rfl
          have v1 : wr.cell? ⟨g, o + k * 3 + 1, none⟩ = some (.int .i64 fs[k].b) := hc 1 _ rfl
          have v2 : wr.cell? ⟨g, o + k * 3 + 2, none⟩ = some (.int .i64 fs[k].c) := hc 2 _ rfl
          clear hc
          have hnb := norm_bd hf fs[k]
          have hPk : Hid (P fs[k] = overB num den (normV vs fs[k])) := by rw [hP.out]; rfl
          replace hyes := hide hyes
          replace hno := hide hno
          generalize fs[k] = f at *
          have hN := normalOf_any A c vs (some ⟨g, o, none⟩) fs.length d f (wr.alloc (.cells #[.int .i64 f.a, .int .i64 f.b, .int .i64 f.c] 67)) (hl.pure (gr_alloc (gr_trans hg0 hg) _)) hf hfk
          generalize normV vs f = n at *
          replace hN := hide hN
          replace hfk := hide hfk
          obtain ⟨⟨n1, n2⟩, ⟨n3, n4⟩, n5, n6⟩ := hnb
          by_cases hzn : n.z < 0
          · have t1 : 0 ≤ max (absI n.x) (absI n.y) ∧ max (absI n.x) (absI n.y) ≤ 80000000000 := by unfold absI; omega
            have t2 := mul_bd4 (K := 80000000000) (L := 1000) (a := -n.z) (b := den) (by omega) (by omega)
            have t3 := mul_bd4 (K := 80000000000) (L := 1000) (b := num) (a := max (absI n.x) (absI n.y)) (by omega) (by omega)
            by_cases hq : max (absI n.x) (absI n.y) * num < -n.z * den
            · have hb : Hid (P f = true) := by rw [Hid, hPk.out]; unfold overB; rw [decide_eq_true hzn, decide_eq_true hq]; rfl
              replace hyes := hide (hyes.out hb.out)
              clear hno hPk
              go_wp2_with fail
              refine hN.out.mono ?_
              rintro e w4 ⟨rfl, hg4⟩
              clear hN
              have hgr : wr.grownBy w4 none := gr_trans (gr_alloc (World.grownBy.refl _ _) _) hg4
              replace d0 := hgr.k d0
              replace d1 := hgr.k d1
              replace d2 := hgr.k d2
              replace d3 := hgr.k d3
              have hlb0 : w.heap.size < w4.heap.size := cell_lt d0
              have hlb1 : w.heap.size + 1 < w4.heap.size := cell_lt d2
              clear v0 v1 v2 hg4
              go_wp2_with fail
              go_quiet ((go_at_call 52; exact Calls.quiet_of_same (((abs_any _ _ (by omega)).mono fun e w' h => ⟨h.1, h.2.symm⟩))))
              have hsz4 := hgr.size
              go_wp2_with (at_builtin; obtain ⟨i0, hi, hz, h1, h2⟩ := info_parts info_int; refine wpList_push (α := Int) _ rfl (.tmp 65) (.tmp 67) _ rfl w2.heap.size 3 i0 _ 8 Try.underlying22 hi hz h1 h2 rfl _ _ _ out rfl ?c1 (by exact (hown.pure (gr_alloc (gr_drewN (gr_alloc hgr _) _) _))) 0 ⟨_, 0, none⟩ 1 1 [(k : Int)] rfl rfl (by exact sl_int1 _ _ _ _ (by first | rfl | simp)) ?c2 ?c3 ?c4 ?_)
              case c1 => rfl
              case c2 => first | omega | (simp; omega)
              case c3 => first | (simp [maxLen]; omega) | (unfold maxLen; omega)
              case c4 => first | omega | (simp; omega)
              intro A5 c5 w5 hown5 hup5
              have hgu := hup5.gr (Nat.le_refl _) (gr_trans hg (gr_alloc (gr_drewN (gr_alloc hgr _) _) _))
              have HS : Hid (out ++ [(k : Int)] = thoseTo P fs (k + 1)) := by rw [Hid, hyes.out, hout.out]
              clear hup5 hown hgr d0 d1 d2 d3
              go_wp2
              (go_roundw; (case rel => exact ⟨k + 1, _, A5, c5, by omega, by go_num, by simp, HS, hown5, hgu⟩); (case measure => simp [intOf]; omega))
            · have hb : Hid (P f = false) := by rw [Hid, hPk.out]; unfold overB; rw [decide_eq_true hzn, decide_eq_false hq]; rfl
              replace hno := hide (hno.out hb.out)
              clear hyes hPk
              go_wp2_with fail
              refine hN.out.mono ?_
              rintro e w4 ⟨rfl, hg4⟩
              clear hN
              have hgr : wr.grownBy w4 none := gr_trans (gr_alloc (World.grownBy.refl _ _) _) hg4
              replace d0 := hgr.k d0
              replace d1 := hgr.k d1
              replace d2 := hgr.k d2
              replace d3 := hgr.k d3
              have hlb0 : w.heap.size < w4.heap.size := cell_lt d0
              have hlb1 : w.heap.size + 1 < w4.heap.size := cell_lt d2
              clear v0 v1 v2 hg4
              go_wp2_with fail
              go_quiet ((go_at_call 52; exact Calls.quiet_of_same (((abs_any _ _ (by omega)).mono fun e w' h => ⟨h.1, h.2.symm⟩))))
              go_wp2_with fail
              (go_roundw; (case rel => exact ⟨k + 1, out, A', c', by omega, by go_num, rfl, by rw [hno.out]; exact hout, hown.pure (gr_drewN (gr_alloc hgr _) _), gr_trans hg (gr_drewN (gr_alloc hgr _) _)⟩); (case measure => simp [intOf]; omega))
          · have hb : Hid (P f = false) := by rw [Hid, hPk.out]; unfold overB; rw [decide_eq_false hzn, Bool.false_and]
            replace hno := hide (hno.out hb.out)
            clear hyes hPk
            go_wp2_with fail
            refine hN.out.mono ?_
            rintro e w4 ⟨rfl, hg4⟩
            clear hN
            have hgr : wr.grownBy w4 none := gr_trans (gr_alloc (World.grownBy.refl _ _) _) hg4
            replace d0 := hgr.k d0
            replace d1 := hgr.k d1
            replace d2 := hgr.k d2
            replace d3 := hgr.k d3
            have hlb0 : w.heap.size < w4.heap.size := cell_lt d0
            have hlb1 : w.heap.size + 1 < w4.heap.size := cell_lt d2
            clear v0 v1 v2 hg4
            go_wp2_with fail
            have hz2 : ¬ n.z < 0 := by omega
            have hz3 : decide (n.z < 0) = false := decide_eq_false hz2
            go_quiet (fail)
            go_wp2_with fail
            (go_roundw; (case rel => exact ⟨k + 1, out, A', c', by omega, by go_num, rfl, by rw [hno.out]; exact hout, hown.pure (gr_drewN (gr_alloc hgr _) _), gr_trans hg (gr_drewN (gr_alloc hgr _) _)⟩); (case measure => simp [intOf]; omega))
        · have hk2 : k = fs.length := by omega
          subst hk2
          go_wp2
          refine bodyPost_ret (v := .tuple #[.slice A' out.length c', .int .i64 0]) (by simp [results, Try.results10, go_sem]) rfl ⟨A', c', by rw [hout.out], ?_, gr_trans hg0 hg⟩
          rw [← hout.out]
          exact hown.sl.mono (Nat.zero_le _)
    · have hL : overL ⟨vs, fs⟩ num den = [] := by unfold overL; rw [if_neg (by rw [hO]; exact hS)]
      rw [hO, hL]
      clear hO hL
      have HF : Hid (slopeF num den 1000 1000 = if den < 1 ∨ lowB num den = false then 3 else if inB num 0 1000 = true ∧ den ≤ 1000 then 0 else 1) := rfl
      have hIO : inB num 0 1000 = !outB num 0 1000 := by unfold inB outB; by_cases q1 : num < 0 <;> by_cases q2 : 1000 < num <;> simp [q1, q2] <;> omega
      rw [hIO] at HF
      clear hIO
      generalize slopeF num den 1000 1000 = F at *
      generalize lowB num den = lw at *
      generalize hou : outB num 0 1000 = ou at *
      replace hou := hide hou
      clear hin hf hM hm hm2
      by_cases hd : den < 1
      · obtain rfl : F = 3 := by rw [HF.out, if_pos (.inl hd)]
        clear HF
        go_enter Try.func10, Try.ntmps10
        go_wp2_with fail
        rw [hW.out]
        refine (hCM.out _ (World.grownBy.refl _ _)).mono ?_
        rintro e w1 ⟨rfl, hg1⟩
        replace b0 := hg1.k b0
        replace b1 := hg1.k b1
        replace b2 := hg1.k b2
        replace b3 := hg1.k b3
        replace hg0 := gr_trans hg0 hg1
        clear hg1 hW hCM
        go_wp2_with ((first | (refine (hLB.out _ (by omega)).mono ?_; rintro e w2 ⟨rfl, hg1⟩; have b0 := hg1.k b0; have b1 := hg1.k b1; have b2 := hg1.k b2; have b3 := hg1.k b3; have hg0 := gr_trans hg0 hg1) | (refine (outside_any _ _ _ _).mono ?_; rintro e w3 ⟨rfl, rfl⟩; rw [hou.out])))
        exact bodyPost_ret (v := .tuple #[.slice none 0 0, .int .i64 3]) (by simp [results, Try.results10, go_sem]) rfl ⟨none, 0, rfl, sl_nil _ _ _, hg0⟩
      · cases lw with
        | false =>
          obtain rfl : F = 3 := by rw [HF.out, if_pos (.inr rfl)]
          clear HF
          go_enter Try.func10, Try.ntmps10
          go_wp2_with fail
          rw [hW.out]
          refine (hCM.out _ (World.grownBy.refl _ _)).mono ?_
          rintro e w1 ⟨rfl, hg1⟩
          replace b0 := hg1.k b0
          replace b1 := hg1.k b1
          replace b2 := hg1.k b2
          replace b3 := hg1.k b3
          replace hg0 := gr_trans hg0 hg1
          clear hg1 hW hCM
          go_wp2_with ((first | (refine (hLB.out _ (by omega)).mono ?_; rintro e w2 ⟨rfl, hg1⟩; have b0 := hg1.k b0; have b1 := hg1.k b1; have b2 := hg1.k b2; have b3 := hg1.k b3; have hg0 := gr_trans hg0 hg1) | (refine (outside_any _ _ _ _).mono ?_; rintro e w3 ⟨rfl, rfl⟩; rw [hou.out])))
          exact bodyPost_ret (v := .tuple #[.slice none 0 0, .int .i64 3]) (by simp [results, Try.results10, go_sem]) rfl ⟨none, 0, rfl, sl_nil _ _ _, hg0⟩
        | true =>
          cases ou with
          | true =>
            obtain rfl : F = 1 := by rw [HF.out, if_neg (by simp; omega), if_neg (by simp)]
            clear HF
            go_enter Try.func10, Try.ntmps10
            go_wp2_with fail
            rw [hW.out]
            refine (hCM.out _ (World.grownBy.refl _ _)).mono ?_
            rintro e w1 ⟨rfl, hg1⟩
            replace b0 := hg1.k b0
            replace b1 := hg1.k b1
            replace b2 := hg1.k b2
            replace b3 := hg1.k b3
            replace hg0 := gr_trans hg0 hg1
            clear hg1 hW hCM
            go_wp2_with ((first | (refine (hLB.out _ (by omega)).mono ?_; rintro e w2 ⟨rfl, hg1⟩; have b0 := hg1.k b0; have b1 := hg1.k b1; have b2 := hg1.k b2; have b3 := hg1.k b3; have hg0 := gr_trans hg0 hg1) | (refine (outside_any _ _ _ _).mono ?_; rintro e w3 ⟨rfl, rfl⟩; rw [hou.out])))
            exact bodyPost_ret (v := .tuple #[.slice none 0 0, .int .i64 1]) (by simp [results, Try.results10, go_sem]) rfl ⟨none, 0, rfl, sl_nil _ _ _, hg0⟩
          | false =>
            by_cases hd2 : den ≤ 1000
            · exact absurd (by rw [HF.out, if_neg (by simp; omega), if_pos (by simp; omega)]) hS
            · obtain rfl : F = 1 := by rw [HF.out, if_neg (by simp; omega), if_neg (by simp; omega)]
              clear HF
              go_enter Try.func10, Try.ntmps10
              go_wp2_with fail
              rw [hW.out]
              refine (hCM.out _ (World.grownBy.refl _ _)).mono ?_
              rintro e w1 ⟨rfl, hg1⟩
              replace b0 := hg1.k b0
              replace b1 := hg1.k b1
              replace b2 := hg1.k b2
              replace b3 := hg1.k b3
              replace hg0 := gr_trans hg0 hg1
              clear hg1 hW hCM
              go_wp2_with ((first | (refine (hLB.out _ (by omega)).mono ?_; rintro e w2 ⟨rfl, hg1⟩; have b0 := hg1.k b0; have b1 := hg1.k b1; have b2 := hg1.k b2; have b3 := hg1.k b3; have hg0 := gr_trans hg0 hg1) | (refine (outside_any _ _ _ _).mono ?_; rintro e w3 ⟨rfl, rfl⟩; rw [hou.out])))
              exact bodyPost_ret (v := .tuple #[.slice none 0 0, .int .i64 1]) (by simp [results, Try.results10, go_sem]) rfl ⟨none, 0, rfl, sl_nil _ _ _, hg0⟩
  · have hO : overF ⟨vs, fs⟩ num den = meshF ⟨vs, fs⟩ := by unfold overF; rw [if_neg hM]
    have hL : overL ⟨vs, fs⟩ num den = [] := by unfold overL; rw [if_neg (by rw [hO]; exact hM)]
    rw [hO, hL]
    clear hO hL
    generalize meshF ⟨vs, fs⟩ = F at *
    go_enter Try.func10, Try.ntmps10
    go_wp2_with fail
    rw [hW.out]
    refine (hCM.out _ (World.grownBy.refl _ _)).mono ?_
    rintro e w1 ⟨rfl, hg1⟩
    replace hg0 := gr_trans hg0 hg1
    go_wp2_with fail
    exact bodyPost_ret (v := .tuple #[.slice none 0 0, .int .i64 F]) (by simp [results, Try.results10, go_sem]) rfl ⟨none, 0, rfl, sl_nil _ _ _, hg0⟩

end Go.Proofs.Ytjodjdjfagjiaaa

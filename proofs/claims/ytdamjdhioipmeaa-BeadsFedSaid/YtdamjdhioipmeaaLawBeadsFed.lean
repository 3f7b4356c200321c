/- Contracts of functions that this seat's laws reach, each: what one call returns and what it leaves in memory; no condition beyond each theorem's own hypotheses. -/
import Derived.Test.YtdamjdhioipmeaaFlowG
set_option linter.unusedVariables false
set_option linter.unusedSimpArgs false
namespace Go.Proofs.Ytdamjdhioipmeaa
open Go.RowKit Go.Bl

set_option maxHeartbeats 4000000 in
set_option maxRecDepth 100000 in
theorem beadsFed_law (A : Option Addr) (n c : Nat) (L : List Int) (w : World) (hL : Sl w 0 A L) (hn : L.length = n) :
    Calls Try.prog 3 #[.slice A n c] w fun e w' => e = .returned (.bool true) ∧ w.grownBy w' none := by
  have hs0 := strm_new (c := c) 25 hL hn
  have hg0 := gr_alloc (World.grownBy.refl w none) (.cells #[.slice A n c, .int .i64 0] 25)
  go_enter Try.func3, Try.ntmps3
  go_wp2_with fail
  refine (beadList_any _ 0 _ hs0 (by omega)).mono ?_
  rintro e w1 ⟨l, A1, c1, rfl, hown1, hl6, ho1⟩
  go_wp2_with fail
  refine (anArea_any _ _ _ ho1.2 (by omega)).mono ?_
  rintro e w2 ⟨area, rfl, _, ho2⟩
  have hown2 := hown1.s ho2 (by simp)
  have hoA := ho1.trans ho2
  go_wp2_with fail
  refine (flip_any _ _ _ _ hoA.2 (by omega) (by omega)).mono ?_
  rintro e w3 ⟨f, rfl, ho3⟩
  have hown3 := hown2.s ho3 (by simp)
  have hoB := hoA.trans ho3
  clear hown1 hown2 hs0 ho1 ho2 ho3 hoA
  have hcap := hown3.cap
  cases f
  · have hsl3 := hown3.sl.mono (Nat.zero_le _)
    have ho3 := hoB
    have hl6' : (l.length : Int) ≤ 6 := by omega
    clear hown3 hoB
    by_cases hF : fedFault l = 0
    · have hv := volumeOf_ok hF
      have hF1 : (fedFault l == 0) = true := by simp [hF]
      have hF2 : (fedFault l != 0) = false := by simp [hF]
      clear hF
      go_wp2_with fail
      refine (checkBeads_any _ _ l _ hsl3).mono ?_
      rintro e w4 ⟨rfl, hg4⟩
      have hsl4 := hsl3.pure hg4
      have ho4 := ho3.pure hg4
      go_wp2_with fail
      refine (beadsFault_any _ _ l _ hsl4).mono ?_
      rintro e w5 ⟨rfl, hg5⟩
      have hsl5 := hsl4.pure hg5
      have ho5 := ho4.pure hg5
      go_wp2_with fail
      refine (volumeGo_any _ _ l _ hsl5).mono ?_
      rintro e w6 ⟨rfl, hg6⟩
      have hsl6 := hsl5.pure hg6
      have ho6 := ho5.pure hg6
      go_wp2_with fail
      refine (fedFault_any _ _ l _ hsl6).mono ?_
      rintro e w7 ⟨rfl, hg7⟩
      have hsl7 := hsl6.pure hg7
      have ho7 := ho6.pure hg7
      go_wp2_with fail
      refine (volumeFed_any _ _ l _ hsl7).mono ?_
      rintro e w8 ⟨rfl, hg8⟩
      have hsl8 := hsl7.pure hg8
      have ho8 := ho7.pure hg8
      clear hv
      go_wp2_with fail
      refine (need_any _ _ l _ _ hsl8).mono ?_
      rintro e w9 ⟨rfl, hg9⟩
      have hsl9 := hsl8.pure hg9
      have ho9 := ho8.pure hg9
      have hgN := gnew w9 (.cells #[.int .i64 (needOf l area).num, .int .i64 (needOf l area).den] 36)
      have kn0 : (w9.alloc (.cells #[.int .i64 (needOf l area).num, .int .i64 (needOf l area).den] 36)).cell? ⟨w9.heap.size, 0, none⟩ = some (.int .i64 (needOf l area).num) := by go_simp
      have kn1 : (w9.alloc (.cells #[.int .i64 (needOf l area).num, .int .i64 (needOf l area).den] 36)).cell? ⟨w9.heap.size, 1, none⟩ = some (.int .i64 (needOf l area).den) := by go_simp
      have hsl9 := hsl9.pure hgN
      have ho9 := ho9.pure hgN
      go_wp2_with fail
      refine (positions_any _ _ l area _ hsl9).mono ?_
      rintro e w10 ⟨A10, c10, rfl, hP, hg10⟩
      have hsl10 := hsl9.pure hg10
      have ho10 := ho9.pure hg10
      go_wp2_with fail
      refine (amounts_any _ _ l area _ hsl10).mono ?_
      rintro e w11 ⟨A11, c11, rfl, hM, hg11⟩
      have hsl11 := hsl10.pure hg11
      have ho11 := ho10.pure hg11
      go_wp2_with fail
      refine (areaFaultRef_any _ _ l area _ hsl11).mono ?_
      rintro e w12 ⟨rfl, hg12⟩
      have hsl12 := hsl11.pure hg12
      have ho12 := ho11.pure hg12
      have hsz12 : w.heap.size ≤ w12.heap.size := by have := ho12.1.size; simp at this; omega
      have hgB := gnew w12 (.cells #[.int .i64 0, .int .i64 0] 36)
      have hgc := hg10.t (hg11.t (hg12.t hgB))
      have kn0 := hgc.k kn0
      have kn1 := hgc.k kn1
      have hPs := (hP.sl.mono (Nat.zero_le _)).pure (hg11.t hg12)
      have hMs := (hM.sl.mono (Nat.zero_le _)).pure hg12
      have hsl12 := hsl12.pure hgB
      have ho12 := ho12.pure hgB
      have hszn : w9.heap.size < w12.heap.size := by have := (hg10.t (hg11.t hg12)).size; simp at this; omega
      clear hgc hP hM hg4 hg5 hg6 hg7 hg8 hg9 hg10 hg11 hg12 hgN hsl3 hsl4 hsl5 hsl6 hsl7 hsl8 hsl9 hsl10 hsl11 ho3 ho4 ho5 ho6 ho7 ho8 ho9 ho10 ho11
      by_cases hA : areaFault l area = 0
      · have hA1 : (areaFault l area == 0) = true := by simp [hA]
        have HA := hide hA
        clear hA
        go_wp2_with fail
        refine (needOf_any _ _ l area _ hsl12 HA.out).mono ?_
        rintro e w13 ⟨rfl, hg13⟩
        go_wp2_with fail
        refine (positionsOf_any _ _ l area _ (hsl12.pure hg13) hcap HA.out).mono ?_
        rintro e w14 ⟨A14, c14, rfl, hP2, hg14⟩
        go_wp2_with fail
        refine (amountsOf_any _ _ l area _ (hsl12.pure (hg13.t hg14)) hcap HA.out).mono ?_
        rintro e w15 ⟨A15, c15, rfl, hM2, hg15⟩
        have hg := hg13.t (hg14.t hg15)
        have kn0 := hg.k kn0
        have kn1 := hg.k kn1
        have kb0 : w15.cell? ⟨w12.heap.size, 0, none⟩ = some (.int .i64 0) := hg.k (by go_simp)
        have kb1 : w15.cell? ⟨w12.heap.size, 1, none⟩ = some (.int .i64 0) := hg.k (by go_simp)
        have fb0 : w15.frozen? ⟨w12.heap.size, 0, none⟩ = false := hg.f (p := ⟨w12.heap.size, 0, none⟩) (u := .int .i64 0) (by go_simp) (by go_simp)
        have fb1 : w15.frozen? ⟨w12.heap.size, 1, none⟩ = false := hg.f (p := ⟨w12.heap.size, 1, none⟩) (u := .int .i64 0) (by go_simp) (by go_simp)
        have hszb : w12.heap.size < w15.heap.size := by have := hg.size; simp at this; omega
        have hne : w12.heap.size ≠ w9.heap.size := by omega
        have hgF := gr_set (p := ⟨w12.heap.size, 1, none⟩) (gr_set (p := ⟨w12.heap.size, 0, none⟩) (hgB.t hg) (.inr (Nat.le_refl _)) (.int .i64 (needOf l area).num)) (.inr (Nat.le_refl _)) (.int .i64 (needOf l area).den)
        have hgS := gr_set (p := ⟨w12.heap.size, 1, none⟩) (gr_set (p := ⟨w12.heap.size, 0, none⟩) (World.grownBy.refl w15 (some w12.heap.size)) (.inl rfl) (.int .i64 (needOf l area).num)) (.inl rfl) (.int .i64 (needOf l area).den)
        have hsz13 : w12.heap.size < w13.heap.size := by have := hg13.size; simp at this; omega
        have hsz14 : w13.heap.size ≤ w14.heap.size := hg14.size
        have hPs := hPs.pure hgF
        have hMs := hMs.pure hgF
        have hP2s := ((hP2.sl.pure hg15).gr hgS (fun g e => by cases e; omega)).mono (Nat.zero_le _)
        have hM2s := (hM2.sl.gr hgS (fun g e => by cases e; omega)).mono (Nat.zero_le _)
        have hoF := gr_set (p := ⟨w12.heap.size, 1, none⟩) (gr_set (p := ⟨w12.heap.size, 0, none⟩) ((gr_new hg0 ho12.1 (Nat.le_refl _)).t hg) (.inr hsz12) (.int .i64 (needOf l area).num)) (.inr hsz12) (.int .i64 (needOf l area).den)
        have hoF := hide hoF
        clear hgF hgS hP2 hM2
        go_wp2_with fail
        refine (equalInts_any _ _ _ _ (positions l area) (positions l area) _ hPs hP2s).mono ?_
        rintro e w16 ⟨rfl, hg16⟩
        rw [eqB_refl]
        go_wp2_with fail
        refine (equalInts_any _ _ _ _ (amounts l area) (amounts l area) _ (hMs.pure hg16) (hM2s.pure hg16)).mono ?_
        rintro e w17 ⟨rfl, hg17⟩
        rw [eqB_refl]
        go_wp2_with fail
        refine (flowed_any _).mono ?_
        rintro e w18 ⟨rfl, hg18⟩
        go_wp2
        go_ret
        exact ⟨rfl, hoF.out.t (hg16.t (hg17.t hg18))⟩
      · have hA1 : (areaFault l area == 0) = false := by simp [hA]
        have hN : needOf l area = ⟨0, 0⟩ := needOf_bad hA
        have hPb := hide (positions_bad hA)
        have hMb := hide (amounts_bad hA)
        have hoF := (gr_new hg0 ho12.1 (Nat.le_refl _))
        have hPs := hPs.pure hgB
        have hMs := hMs.pure hgB
        have hoF := hide hoF
        clear hA
        rw [hN] at kn0 kn1
        clear hN
        go_wp2_with fail
        refine (equalInts_any _ none _ 0 (positions l area) [] _ hPs Sl.nil).mono ?_
        rintro e w16 ⟨rfl, hg16⟩
        rw [hPb.out, eqB_refl]
        go_wp2_with fail
        refine (equalInts_any _ none _ 0 (amounts l area) [] _ (hMs.pure hg16) Sl.nil).mono ?_
        rintro e w17 ⟨rfl, hg17⟩
        rw [hMb.out, eqB_refl]
        go_wp2_with fail
        refine (flowed_any _).mono ?_
        rintro e w18 ⟨rfl, hg18⟩
        go_wp2
        go_ret
        exact ⟨rfl, hoF.out.t (hg16.t (hg17.t hg18))⟩
    · have hv := volumeOf_bad hF
      have hF1 : (fedFault l == 0) = false := by simp [hF]
      have hF2 : (fedFault l != 0) = true := by simp [hF]
      have hA : areaFault l area ≠ 0 := fun h => hF (fed_of_area h)
      clear hF
      go_wp2_with fail
      refine (checkBeads_any _ _ l _ hsl3).mono ?_
      rintro e w4 ⟨rfl, hg4⟩
      have hsl4 := hsl3.pure hg4
      have ho4 := ho3.pure hg4
      go_wp2_with fail
      refine (beadsFault_any _ _ l _ hsl4).mono ?_
      rintro e w5 ⟨rfl, hg5⟩
      have hsl5 := hsl4.pure hg5
      have ho5 := ho4.pure hg5
      go_wp2_with fail
      refine (volumeGo_any _ _ l _ hsl5).mono ?_
      rintro e w6 ⟨rfl, hg6⟩
      have hsl6 := hsl5.pure hg6
      have ho6 := ho5.pure hg6
      go_wp2_with fail
      refine (fedFault_any _ _ l _ hsl6).mono ?_
      rintro e w7 ⟨rfl, hg7⟩
      have hsl7 := hsl6.pure hg7
      have ho7 := ho6.pure hg7
      have hsl8 := hsl7
      have ho8 := ho7
      have hg8 := hg7
      clear hv
      go_wp2_with fail
      refine (need_any _ _ l _ _ hsl8).mono ?_
      rintro e w9 ⟨rfl, hg9⟩
      have hsl9 := hsl8.pure hg9
      have ho9 := ho8.pure hg9
      have hgN := gnew w9 (.cells #[.int .i64 (needOf l area).num, .int .i64 (needOf l area).den] 36)
      have kn0 : (w9.alloc (.cells #[.int .i64 (needOf l area).num, .int .i64 (needOf l area).den] 36)).cell? ⟨w9.heap.size, 0, none⟩ = some (.int .i64 (needOf l area).num) := by go_simp
      have kn1 : (w9.alloc (.cells #[.int .i64 (needOf l area).num, .int .i64 (needOf l area).den] 36)).cell? ⟨w9.heap.size, 1, none⟩ = some (.int .i64 (needOf l area).den) := by go_simp
      have hsl9 := hsl9.pure hgN
      have ho9 := ho9.pure hgN
      go_wp2_with fail
      refine (positions_any _ _ l area _ hsl9).mono ?_
      rintro e w10 ⟨A10, c10, rfl, hP, hg10⟩
      have hsl10 := hsl9.pure hg10
      have ho10 := ho9.pure hg10
      go_wp2_with fail
      refine (amounts_any _ _ l area _ hsl10).mono ?_
      rintro e w11 ⟨A11, c11, rfl, hM, hg11⟩
      have hsl11 := hsl10.pure hg11
      have ho11 := ho10.pure hg11
      go_wp2_with fail
      refine (areaFaultRef_any _ _ l area _ hsl11).mono ?_
      rintro e w12 ⟨rfl, hg12⟩
      have hsl12 := hsl11.pure hg12
      have ho12 := ho11.pure hg12
      have hsz12 : w.heap.size ≤ w12.heap.size := by have := ho12.1.size; simp at this; omega
      have hgB := gnew w12 (.cells #[.int .i64 0, .int .i64 0] 36)
      have hgc := hg10.t (hg11.t (hg12.t hgB))
      have kn0 := hgc.k kn0
      have kn1 := hgc.k kn1
      have hPs := (hP.sl.mono (Nat.zero_le _)).pure (hg11.t hg12)
      have hMs := (hM.sl.mono (Nat.zero_le _)).pure hg12
      have hsl12 := hsl12.pure hgB
      have ho12 := ho12.pure hgB
      have hszn : w9.heap.size < w12.heap.size := by have := (hg10.t (hg11.t hg12)).size; simp at this; omega
      clear hgc hP hM hg4 hg5 hg6 hg7 hg8 hg9 hg10 hg11 hg12 hgN hsl3 hsl4 hsl5 hsl6 hsl7 hsl8 hsl9 hsl10 hsl11 ho3 ho4 ho5 ho6 ho7 ho8 ho9 ho10 ho11
      have hA1 : (areaFault l area == 0) = false := by simp [hA]
      have hN : needOf l area = ⟨0, 0⟩ := needOf_bad hA
      have hPb := hide (positions_bad hA)
      have hMb := hide (amounts_bad hA)
      have hoF := (gr_new hg0 ho12.1 (Nat.le_refl _))
      have hPs := hPs.pure hgB
      have hMs := hMs.pure hgB
      have hoF := hide hoF
      clear hA
      rw [hN] at kn0 kn1
      clear hN
      go_wp2_with fail
      refine (equalInts_any _ none _ 0 (positions l area) [] _ hPs Sl.nil).mono ?_
      rintro e w16 ⟨rfl, hg16⟩
      rw [hPb.out, eqB_refl]
      go_wp2_with fail
      refine (equalInts_any _ none _ 0 (amounts l area) [] _ (hMs.pure hg16) Sl.nil).mono ?_
      rintro e w17 ⟨rfl, hg17⟩
      rw [hMb.out, eqB_refl]
      go_wp2_with fail
      refine (flowed_any _).mono ?_
      rintro e w18 ⟨rfl, hg18⟩
      go_wp2
      go_ret
      exact ⟨rfl, hoF.out.t (hg16.t (hg17.t hg18))⟩
  · go_wp2_with fail
    refine (manyBeads_any _ _ _ hoB.2 (by omega)).mono ?_
    rintro e wm ⟨n4, Am, cm, rfl, hn4, hownm, hom⟩
    obtain ⟨l, hl⟩ : ∃ l : List Bead, l = List.replicate n4 bigBead := ⟨_, rfl⟩
    have hll : l.length = n4 := by rw [hl, List.length_replicate]
    rw [← hl] at hownm
    clear hl hown3
    subst hll
    have hlen : (100 : Int) < l.length := by omega
    have hn4 := hide hn4
    have hsl3 := hownm.sl.mono (Nat.zero_le _)
    have ho3 := hoB.trans hom
    clear hownm hoB hom
    by_cases hF : fedFault l = 0
    · have hv := volumeOf_ok hF
      have hF1 : (fedFault l == 0) = true := by simp [hF]
      have hF2 : (fedFault l != 0) = false := by simp [hF]
      clear hF
      go_wp2_with fail
      refine (checkBeads_any _ _ l _ hsl3).mono ?_
      rintro e w4 ⟨rfl, hg4⟩
      have hsl4 := hsl3.pure hg4
      have ho4 := ho3.pure hg4
      go_wp2_with fail
      refine (beadsFault_any _ _ l _ hsl4).mono ?_
      rintro e w5 ⟨rfl, hg5⟩
      have hsl5 := hsl4.pure hg5
      have ho5 := ho4.pure hg5
      go_wp2_with fail
      refine (volumeGo_any _ _ l _ hsl5).mono ?_
      rintro e w6 ⟨rfl, hg6⟩
      have hsl6 := hsl5.pure hg6
      have ho6 := ho5.pure hg6
      go_wp2_with fail
      refine (fedFault_any _ _ l _ hsl6).mono ?_
      rintro e w7 ⟨rfl, hg7⟩
      have hsl7 := hsl6.pure hg7
      have ho7 := ho6.pure hg7
      go_wp2_with fail
      refine (volumeFed_any _ _ l _ hsl7).mono ?_
      rintro e w8 ⟨rfl, hg8⟩
      have hsl8 := hsl7.pure hg8
      have ho8 := ho7.pure hg8
      clear hv
      go_wp2_with fail
      refine (need_any _ _ l _ _ hsl8).mono ?_
      rintro e w9 ⟨rfl, hg9⟩
      have hsl9 := hsl8.pure hg9
      have ho9 := ho8.pure hg9
      have hgN := gnew w9 (.cells #[.int .i64 (needOf l area).num, .int .i64 (needOf l area).den] 36)
      have hsl9 := hsl9.pure hgN
      have ho9 := ho9.pure hgN
      go_wp2_with fail
      refine (areaFaultRef_any _ _ l area _ hsl9).mono ?_
      rintro e w10 ⟨rfl, hg10⟩
      have hsl10 := hsl9.pure hg10
      have ho10 := ho9.pure hg10
      go_wp2_with fail
      refine (flowed_any _).mono ?_
      rintro e w18 ⟨rfl, hg18⟩
      go_wp2
      go_ret
      exact ⟨rfl, (gr_new hg0 ho10.1 (Nat.le_refl _)).t hg18⟩
    · have hv := volumeOf_bad hF
      have hF1 : (fedFault l == 0) = false := by simp [hF]
      have hF2 : (fedFault l != 0) = true := by simp [hF]
      clear hF
      go_wp2_with fail
      refine (checkBeads_any _ _ l _ hsl3).mono ?_
      rintro e w4 ⟨rfl, hg4⟩
      have hsl4 := hsl3.pure hg4
      have ho4 := ho3.pure hg4
      go_wp2_with fail
      refine (beadsFault_any _ _ l _ hsl4).mono ?_
      rintro e w5 ⟨rfl, hg5⟩
      have hsl5 := hsl4.pure hg5
      have ho5 := ho4.pure hg5
      go_wp2_with fail
      refine (volumeGo_any _ _ l _ hsl5).mono ?_
      rintro e w6 ⟨rfl, hg6⟩
      have hsl6 := hsl5.pure hg6
      have ho6 := ho5.pure hg6
      go_wp2_with fail
      refine (fedFault_any _ _ l _ hsl6).mono ?_
      rintro e w7 ⟨rfl, hg7⟩
      have hsl7 := hsl6.pure hg7
      have ho7 := ho6.pure hg7
      have hsl8 := hsl7
      have ho8 := ho7
      have hg8 := hg7
      clear hv
      go_wp2_with fail
      refine (need_any _ _ l _ _ hsl8).mono ?_
      rintro e w9 ⟨rfl, hg9⟩
      have hsl9 := hsl8.pure hg9
      have ho9 := ho8.pure hg9
      have hgN := gnew w9 (.cells #[.int .i64 (needOf l area).num, .int .i64 (needOf l area).den] 36)
      have hsl9 := hsl9.pure hgN
      have ho9 := ho9.pure hgN
      go_wp2_with fail
      refine (areaFaultRef_any _ _ l area _ hsl9).mono ?_
      rintro e w10 ⟨rfl, hg10⟩
      have hsl10 := hsl9.pure hg10
      have ho10 := ho9.pure hg10
      go_wp2_with fail
      refine (flowed_any _).mono ?_
      rintro e w18 ⟨rfl, hg18⟩
      go_wp2
      go_ret
      exact ⟨rfl, (gr_new hg0 ho10.1 (Nat.le_refl _)).t hg18⟩

end Go.Proofs.Ytdamjdhioipmeaa

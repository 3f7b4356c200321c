/- Contracts of functions that this seat's laws reach, each: what one call returns and what it leaves in memory; no condition beyond each theorem's own hypotheses. -/
import Derived.Test.YtjodjdjfagjiaaaMeshAB
import Derived.Test.YtjodjdjfagjiaaaFlowB
set_option linter.unusedVariables false
set_option linter.unusedSimpArgs false
namespace Go.Proofs.Ytjodjdjfagjiaaa
open Go.RowKit Go.Bl

theorem overF_or (m : MeshV) (num den : Int) : orL [meshF m, slopeF num den 1000 1000] = overF m num den := by
  unfold orL overF
  by_cases h : meshF m = 0
  · rw [if_neg (by simp [h]), if_pos h]
    unfold orL
    by_cases h2 : slopeF num den 1000 1000 = 0
    · rw [if_neg (by simp [h2]), h2]; rfl
    · rw [if_pos h2]
  · rw [if_pos h, if_neg h]
theorem span_far (z : Int) : spanF z (-100000) 100000 = if farZ z then 1 else 0 := by
  unfold spanF farZ outB
  rfl
theorem farF_or (m : MeshV) (z : Int) : orL [meshF m, spanF z (-100000) 100000] = farF m z := by
  rw [span_far]
  unfold orL farF
  by_cases h : meshF m = 0
  · rw [if_neg (by simp [h]), if_pos h]
    unfold orL
    cases farZ z <;> simp [orL]
  · rw [if_pos h, if_neg h]
theorem over_ok {m : MeshV} {num den : Int} (h : overF m num den = 0) : meshF m = 0 ∧ slopeF num den 1000 1000 = 0 ∧ overL m num den = thoseTo (fun f => overB num den (normV m.vs f)) m.fs m.fs.length := by
  have hL : overL m num den = thoseTo (fun f => overB num den (normV m.vs f)) m.fs m.fs.length := by unfold overL; rw [if_pos h]
  unfold overF at h
  by_cases h2 : meshF m = 0
  · rw [if_pos h2] at h; exact ⟨h2, h, hL⟩
  · rw [if_neg h2] at h; exact absurd h h2
theorem over_bad {m : MeshV} {num den : Int} (h : overF m num den ≠ 0) : overL m num den = [] := by unfold overL; rw [if_neg h]
theorem cross_ok {m : MeshV} {z : Int} (h : farF m z = 0) : meshF m = 0 ∧ crossL m z = thoseTo (crossP z m.vs) m.fs m.fs.length := by
  have hL : crossL m z = thoseTo (crossP z m.vs) m.fs m.fs.length := by unfold crossL; rw [if_pos h]
  unfold farF at h
  by_cases h2 : meshF m = 0
  · exact ⟨h2, hL⟩
  · rw [if_neg h2] at h; exact absurd h h2
theorem cross_bad {m : MeshV} {z : Int} (h : farF m z ≠ 0) : crossL m z = [] := by unfold crossL; rw [if_neg h]

set_option maxHeartbeats 4000000 in
set_option maxRecDepth 100000 in
theorem faces_law (A : Option Addr) (n c : Nat) (L : List Int) (w : World) (hL : Sl w 0 A L) (hn : L.length = n) :
    Calls Try.prog 3 #[.slice A n c] w fun e w' => e = .returned (.bool true) ∧ w.grownBy w' none := by
  have hs0 := strm_new (c := c) 25 hL hn
  have hg0 := gr_alloc (World.grownBy.refl w none) (.cells #[.slice A n c, .int .i64 0] 25)
  have hS0 := SOut.refl hs0
  go_enter Try.func3, Try.ntmps3
  go_wp2_with fail
  refine (aMesh_any _ 0 _ hs0 (by omega)).mono ?_
  rintro e w1 ⟨A1, c1, vs, B1, d1, fs, rfl, hv, hf, ho1⟩
  go_wp2_with fail
  refine (aSlope_any _ _ _ ho1.2 (by omega)).mono ?_
  rintro e w2 ⟨num, den, rfl, hnum, hden, ho2⟩
  replace hv := hv.s ho2 (Nat.lt_succ_self _)
  replace hf := hf.s ho2 (Nat.lt_succ_self _)
  have hoA := ho1.trans ho2
  go_wp2_with fail
  refine (pick_any _ _ _ _ _ [0, 1, 3, 4, 10, -2, 100001] _ (hoA.2.pure (gr_alloc (World.grownBy.refl _ _) _)) (by omega) (sl_intsAt _ _ _ _ _ (by first | rfl | simp) (by have := hoA.2.lt; omega) (by simp [maxLen])) rfl (by simp)).mono ?_
  rintro e w3 ⟨z, rfl, _, ho3⟩
  replace hv := ((hv.pure (gr_alloc (World.grownBy.refl _ _) _)).s ho3 (Nat.lt_succ_self _)).mono (Nat.zero_le _)
  replace hf := ((hf.pure (gr_alloc (World.grownBy.refl _ _) _)).s ho3 (Nat.lt_succ_self _)).mono (Nat.zero_le _)
  have hoB := (hoA.pure (gr_alloc (World.grownBy.refl _ _) _)).trans ho3
  have hgT : Hid (w.grownBy w3 none) := gr_new hg0 hoB.1 (Nat.le_refl _)
  clear ho1 ho2 ho3 hoA hoB hS0 hs0 hg0 hL
  go_wp2_with fail
  obtain ⟨W, hW⟩ : ∃ W, W = (w3.alloc (.cells #[.slice A1 vs.length c1, .slice B1 fs.length d1] 29)).alloc (.cells #[.int .i64 num, .int .i64 den] 32) := ⟨_, rfl⟩
  have hgW : w3.grownBy W none := by rw [hW]; exact (by repeat (first | exact World.grownBy.refl _ _ | assumption | refine gr_alloc ?_ _ | (apply gr_tail; assumption) | refine gr_drewN ?_ _ | refine gr_drew ?_))
  have hlt0 : w3.heap.size < w3.heap.size + 1 := Nat.lt_succ_self _
  have b0 : W.cell? ⟨w3.heap.size, 0, none⟩ = some (.slice A1 vs.length c1) := by rw [hW]; go_simp
  have b1 : W.cell? ⟨w3.heap.size, 1, none⟩ = some (.slice B1 fs.length d1) := by rw [hW]; go_simp
  have b2 : W.cell? ⟨w3.heap.size + 1, 0, none⟩ = some (.int .i64 num) := by rw [hW]; go_simp
  have b3 : W.cell? ⟨w3.heap.size + 1, 1, none⟩ = some (.int .i64 den) := by rw [hW]; go_simp
  rw [← hW]
  clear hW
  replace hv := hv.pure hgW
  replace hf := hf.pure hgW
  have hgT : Hid (w.grownBy W none) := gr_trans hgT.out hgW
  clear hgW
  replace hnum := hide hnum
  replace hden := hide hden
  -- the fault of the mesh
  refine (meshFault_any A1 c1 vs B1 d1 fs _ hv hf).mono ?_
  rintro e w4 ⟨rfl, g4⟩
  have hEA := hide (overF_or ⟨vs, fs⟩ num den)
  have hEB := hide (farF_or ⟨vs, fs⟩ z)
  have hoO := fun wx hx => overhangs_any A1 c1 vs B1 d1 fs num den wx (hv.pure hx) (hf.pure hx) hnum.out hden.out
  have hoC := fun wx hx => crossing_any A1 c1 vs B1 d1 fs z wx (hv.pure hx) (hf.pure hx)
  have hRO := fun wx hx hM h1 h2 => overhangsRef_any A1 c1 vs B1 d1 fs num den wx (hv.pure hx) (hf.pure hx) hM h1 h2
  have hRC := fun wx hx hM => crossingRef_any A1 c1 vs B1 d1 fs z wx (hv.pure hx) (hf.pure hx) hM
  replace hRO := hide hRO
  replace hRC := hide hRC
  have hOK := hide (over_ok (m := ⟨vs, fs⟩) (num := num) (den := den))
  have hOB := hide (over_bad (m := ⟨vs, fs⟩) (num := num) (den := den))
  have hCK := hide (cross_ok (m := ⟨vs, fs⟩) (z := z))
  have hCB := hide (cross_bad (m := ⟨vs, fs⟩) (z := z))
  generalize overF ⟨vs, fs⟩ num den = EA at *
  generalize farF ⟨vs, fs⟩ z = EB at *
  generalize overL ⟨vs, fs⟩ num den = LA at *
  generalize crossL ⟨vs, fs⟩ z = LB at *
  replace hoO := hide hoO
  replace hoC := hide hoC
  have c0 := g4.k b0
  have c1' := g4.k b1
  have c2 := g4.k b2
  have c3 := g4.k b3
  generalize hF : meshF ⟨vs, fs⟩ = F at *
  replace hF := hide hF
  go_wp2_with fail
  refine (hoO.out _ g4).mono ?_
  rintro e w5 ⟨A5, c5, rfl, hs5, g5⟩
  replace g5 := gr_trans g4 g5
  have c0 := g5.k b0
  have c1' := g5.k b1
  have c2 := g5.k b2
  have c3 := g5.k b3
  go_wp2_with fail
  refine (hoC.out _ g5).mono ?_
  rintro e w6 ⟨A6, c6, rfl, hs6, g6⟩
  replace hs5 := hs5.pure g6
  replace g6 := gr_trans g5 g6
  have c0 := g6.k b0
  have c1' := g6.k b1
  have c2 := g6.k b2
  have c3 := g6.k b3
  clear hoO hoC g4 g5
  go_wp2_with fail
  refine (slopeRef_any num den _ hnum.out hden.out).mono ?_
  rintro e w7 ⟨rfl, g7⟩
  replace hs5 := hs5.pure g7
  replace hs6 := hs6.pure g7
  replace g7 := gr_trans g6 g7
  have c0 := g7.k b0
  have c1' := g7.k b1
  have c2 := g7.k b2
  have c3 := g7.k b3
  clear g6
  generalize hSl : slopeF num den 1000 1000 = S at *
  replace hSl := hide hSl
  go_wp2_with fail
  refine (or_any _ _ _ [F, S] _ (sl_intsAt _ 0 _ [F, S] _ (by first | rfl | simp) (Nat.zero_le _) (by simp [maxLen])) rfl).mono ?_
  rintro e w8 ⟨rfl, rfl⟩
  rw [hEA.out]
  go_wp2_with fail
  refine (spanFault_any _ _ _ _).mono ?_
  rintro e w8 ⟨rfl, rfl⟩
  go_wp2_with fail
  refine (or_any _ _ _ [F, spanF z (-100000) 100000] _ (sl_intsAt _ 0 _ [F, spanF z (-100000) 100000] _ (by first | rfl | simp) (Nat.zero_le _) (by simp [maxLen])) rfl).mono ?_
  rintro e w8 ⟨rfl, rfl⟩
  rw [hEB.out]
  go_upto_region 7 with fail
  have g8 : w7.grownBy ((w7.alloc (.cells #[.int .i64 F, .int .i64 S] 35)).alloc (.cells #[.int .i64 F, .int .i64 (spanF z (-100000) 100000)] 35)) none := (by repeat (first | exact World.grownBy.refl _ _ | assumption | refine gr_alloc ?_ _ | (apply gr_tail; assumption) | refine gr_drewN ?_ _ | refine gr_drew ?_))
  generalize ((w7.alloc (.cells #[.int .i64 F, .int .i64 S] 35)).alloc (.cells #[.int .i64 F, .int .i64 (spanF z (-100000) 100000)] 35)) = w8 at *
  replace hs5 := hs5.pure g8
  replace hs6 := hs6.pure g8
  replace g8 := gr_trans g7 g8
  clear g7 c0 c1' c2 c3 hEA hEB
  have c0 := g8.k b0
  have c1' := g8.k b1
  have c2 := g8.k b2
  have c3 := g8.k b3
  go_upto_if 51 with fail
  go_cut [14] (fun s14 wx => ∃ (A9 : Option Addr) (c9 : Nat), s14 = .slice A9 LA.length c9 ∧ Sl wx 0 A9 LA ∧ w8.grownBy wx none)
  case first =>
    by_cases hz : EA = 0
    · have hb : (EA == 0) = true := by simp [hz]
      obtain ⟨x1, x2, x3⟩ := hOK.out hz
      have hso : slopeF num den 1000 1000 = 0 := by rw [hSl.out]; exact x2
      obtain ⟨y1, _, y2, y3⟩ := slopeF_zero hso
      have hR := hide (hRO.out w8 g8 x1 y2 ⟨y1, y3⟩)
      simp only [Hid] at hR
      rw [← x3] at hR
      replace hR := hide hR
      clear x1 x2 x3 hso y1 y2 y3 hz hOK hOB hCK hCB hRO hRC
      go_wp2_with fail
      refine hR.out.mono ?_
      rintro e w9 ⟨A9, c9, rfl, hs9, g9⟩
      go_wp2_with fail
      go_meet
      exact ⟨A9, c9, rfl, hs9, g9⟩
    · have hb : (EA == 0) = false := by simp [hz]
      have hl := hOB.out hz
      clear hOK hOB hCK hCB hRO hRC hz
      subst hl
      go_wp2_with fail
      go_meet
      exact ⟨none, 0, rfl, sl_nil _ _ _, World.grownBy.refl _ _⟩
  case rest =>
  obtain ⟨A9, c9, rfl, hs9, g9⟩ := hcut
  rename World => wA
  replace hs5 := hs5.pure g9
  replace hs6 := hs6.pure g9
  replace g9 := gr_trans g8 g9
  have c0 := g9.k b0
  have c1' := g9.k b1
  clear g8
  go_upto_if 56 with fail
  go_cut [15] (fun s15 wx => ∃ (A10 : Option Addr) (c10 : Nat), s15 = .slice A10 LB.length c10 ∧ Sl wx 0 A10 LB ∧ wA.grownBy wx none)
  case first =>
    by_cases hz : EB = 0
    · have hb : (EB == 0) = true := by simp [hz]
      obtain ⟨x1, x3⟩ := hCK.out hz
      have hR := hRC.out wA g9 x1
      rw [← x3] at hR
      replace hR := hide hR
      clear x1 x3 hz hOK hOB hCK hCB hRO hRC
      go_wp2_with fail
      refine hR.out.mono ?_
      rintro e w10 ⟨A10, c10, rfl, hs10, g10⟩
      go_wp2_with fail
      go_meet
      exact ⟨A10, c10, rfl, hs10, g10⟩
    · have hb : (EB == 0) = false := by simp [hz]
      have hl := hCB.out hz
      clear hOK hOB hCK hCB hRO hRC hz
      subst hl
      go_wp2_with fail
      go_meet
      exact ⟨none, 0, rfl, sl_nil _ _ _, World.grownBy.refl _ _⟩
  case rest =>
  obtain ⟨A10, c10, rfl, hs10, g10⟩ := hcut
  rename World => wB
  replace hs5 := hs5.pure g10
  replace hs6 := hs6.pure g10
  replace hs9 := hs9.pure g10
  replace g10 := gr_trans g9 g10
  clear g9 hOK hOB hCK hCB hRO hRC
  go_wp2_with fail
  refine (equalInts_any A5 A9 c5 c9 LA LA _ hs5 hs9).mono ?_
  rintro e w11 ⟨rfl, g11⟩
  rw [eqB_refl]
  replace hs6 := hs6.pure g11
  replace hs10 := hs10.pure g11
  go_wp2_with fail
  refine (equalInts_any A6 A10 c6 c10 LB LB _ hs6 hs10).mono ?_
  rintro e w12 ⟨rfl, g12⟩
  rw [eqB_refl]
  go_wp2_with fail
  refine (meshed_any _).mono ?_
  rintro e w13 ⟨rfl, g13⟩
  go_wp2_with fail
  go_ret
  exact ⟨rfl, gr_trans hgT.out (gr_trans (gr_trans (gr_trans g10 g11) g12) g13)⟩

end Go.Proofs.Ytjodjdjfagjiaaa

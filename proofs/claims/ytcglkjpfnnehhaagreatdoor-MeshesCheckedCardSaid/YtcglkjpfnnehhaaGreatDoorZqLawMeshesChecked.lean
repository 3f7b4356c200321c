/- Contracts of functions that this seat's laws reach, each: what one call returns and what it leaves in memory; no condition beyond each theorem's own hypotheses. -/
import Derived.Test.YtcglkjpfnnehhaaGreatDoorZqMTextE
import Derived.Test.YtcglkjpfnnehhaaGreatDoorZqMeshStr
import Derived.Test.YtcglkjpfnnehhaaGreatDoorZqMeshBA
import Derived.Test.YtcglkjpfnnehhaaGreatDoorZqTabOf
set_option linter.unusedVariables false
set_option linter.unusedSimpArgs false
namespace Go.Proofs.YtcglkjpfnnehhaaGreatDoor
open Go Go.RowKit Go.Bl

set_option maxHeartbeats 400000 in
theorem meshTextBad_any (A : Option Addr) (c : Nat) (vs : List V3) (B : Option Addr) (d : Nat) (fs : List Fc) (w : World) (hl : Sl w 0 A vs) (hm : Sl w 0 B fs) (hp : meshF ⟨vs, fs⟩ ≠ 0) :
    Calls Tryz.prog 9 #[.agg #[.slice A vs.length c, .slice B fs.length d]] w fun e w' => e = .returned (.tuple #[.string ⟨#[]⟩, .int .i64 (meshF ⟨vs, fs⟩)]) ∧ w.grownBy w' none := by
  have hC := fun wx (hx : w.grownBy wx none) => checkMesh_any A c vs B d fs wx (hl.pure hx) (hm.pure hx)
  have hb : (meshF ⟨vs, fs⟩ != 0) = true := by simp [hp]
  generalize meshF ⟨vs, fs⟩ = F at *
  replace hp := hide hp
  go_enter Tryz.func9, Tryz.ntmps9
  go_upto_region 1 with fail
  obtain ⟨w0, hw0⟩ : ∃ x, x = (w).alloc (.cells [.slice A vs.length c, .slice B fs.length d].toArray 29) := ⟨_, rfl⟩
  have hg0 : (w).grownBy w0 none := by rw [hw0]; exact gr_alloc (World.grownBy.refl _ _) _
  have hb0 : Box w0 (w).heap.size 29 [.slice A vs.length c, .slice B fs.length d] := by rw [hw0]; exact Box.new _ _ _
  have hxs0 := hb0.lt
  rw [← hw0]
  clear hw0
  obtain ⟨x0, hx0⟩ : ∃ x, x = (w).heap.size := ⟨_, rfl⟩
  rw [← hx0] at hb0 hxs0 ⊢
  have hxl0 : (w).heap.size ≤ x0 := by omega
  clear hx0
  obtain ⟨n0, _⟩ := hb0.c 0 rfl
  obtain ⟨n1, _⟩ := hb0.c 1 rfl
  go_wp2_with fail
  refine (hC _ hg0).mono ?_
  rintro e w1 ⟨rfl, hg1⟩
  go_wp2_with fail
  go_ret2
  exact ⟨rfl, hg0.t hg1⟩

set_option maxHeartbeats 8000000 in
set_option maxRecDepth 100000 in
theorem meshesChecked_law (A : Option Addr) (n c : Nat) (L : List Int) (w : World) (hL : Sl w 0 A L) (hn : L.length = n) (hT : Tab w) :
    Calls Tryz.prog 3 #[.slice A n c] w fun e w' => e = .returned (.bool true) ∧ w.grownBy w' none := by
  have hs0 := strm_new (c := c) 25 hL hn
  have hg0 := gr_alloc (World.grownBy.refl w none) (.cells #[.slice A n c, .int .i64 0] 25)
  have hS0 := SOut.refl hs0
  have hR := aMeshN_any _ 0 _ hs0 (by omega)
  have htl := Tab.lt hT
  go_enter Tryz.func3, Tryz.ntmps3
  go_wp2_with fail
  refine hR.mono ?_
  rintro e w1 ⟨A1, c1, vs, B1, d1, fs, rfl, hv0, hf0, ho1, hvl, hfl⟩
  replace hS0 := hS0.trans ho1
  have hgw : w.grownBy w1 none := gr_new hg0 hS0.1 (Nat.le_refl _)
  have hs1 : w.heap.size < w1.heap.size := hS0.lt
  clear ho1 hs0 hg0 hL hR hvl hfl
  go_upto_region 3 with fail
  obtain ⟨w4, hw4⟩ : ∃ x, x = (w1).alloc (.cells [.slice A1 vs.length c1, .slice B1 fs.length d1].toArray 29) := ⟨_, rfl⟩
  have hg4 : (w1).grownBy w4 none := by rw [hw4]; exact gr_alloc (World.grownBy.refl _ _) _
  have hb4 : Box w4 (w1).heap.size 29 [.slice A1 vs.length c1, .slice B1 fs.length d1] := by rw [hw4]; exact Box.new _ _ _
  have hxs4 := hb4.lt
  rw [← hw4]
  clear hw4
  obtain ⟨x4, hx4⟩ : ∃ x, x = (w1).heap.size := ⟨_, rfl⟩
  rw [← hx4] at hb4 hxs4 ⊢
  have hxl4 : (w1).heap.size ≤ x4 := by omega
  clear hx4
  have hv := (hv0.pure hg4)
  have hf := (hf0.pure hg4)
  have hSA := hS0.pure hg4
  have hgwA := hgw.t hg4
  have hFl := flip_any w.heap.size _ 30 w4 hSA.2 (by omega) (by omega)
  go_wp2_with fail
  refine hFl.mono ?_
  rintro e w5 ⟨fl, rfl, ho5⟩
  clear hFl
  have hbX := hb4.gr ho5.1 (fun e => by injection e; omega)
  have hvX := (hv.s ho5 (by simp)).mono (Nat.zero_le _)
  have hfX := (hf.s ho5 (by simp)).mono (Nat.zero_le _)
  have hSX := hSA.trans ho5
  have hgwX : w.grownBy w5 none := gr_new hgwA ho5.1 (Nat.le_refl _)
  have hgT : w1.grownBy w5 (some w.heap.size) := gr_trans (gr_any hg4) ho5.1
  clear hv hf hSA hgwA ho5 hb4 hg4 hS0 hgw
  cases fl with
  | true =>
    obtain ⟨y0, y1⟩ := hbX.c 1 rfl
    have hbY := hbX.set_ 1 (.slice none 0 0) (by simp)
    have hgY := gr_set (World.grownBy.refl w5 (some x4)) (p := ⟨x4, 1, none⟩) (.inl rfl) (.slice none 0 0)
    go_upto_region 5 with fail
    obtain ⟨w4, hw4⟩ : ∃ x, x = w5.setCell ⟨x4, 1, none⟩ (.slice none 0 0) := ⟨_, rfl⟩
    have hgT4 : w1.grownBy w4 (some w.heap.size) := by rw [hw4]; exact gr_set hgT (.inr hxl4) _
    have hgw4 : w.grownBy w4 none := by rw [hw4]; exact gr_set hgwX (.inr (by simp only; omega)) _
    have hS4 : SOut w.heap.size (0 + 70 + 1) (w.alloc (.cells #[.slice A n c, .int .i64 0] 25)) w4 := by
      rw [hw4]
      exact ⟨gr_set hSX.1 (.inr (by simp; omega)) _, hSX.2.gr (gr_set (World.grownBy.refl w5 (some x4)) (p := ⟨x4, 1, none⟩) (.inl rfl) _) (fun g e => by injection e; omega)⟩
    rw [← hw4] at hbY ⊢
    have hb4 := hbY
    have hv4 := (hv0.gr hgT4 (fun g e => by cases e; simp)).mono (Nat.zero_le _)
    have hf4 : Sl w4 0 none ([] : List Fc) := Sl.nil
    clear hw4 hbY hgY hbX hvX hfX hgwX hSX hgT hgT4 hv0 hf0 y0 y1
    have hF1 := fun wx (hx : w4.grownBy wx none) => meshFault_any A1 c1 vs none 0 ([] : List Fc) wx (hv4.pure hx) (hf4.pure hx)
    have hF2 := fun wx (hx : w4.grownBy wx none) => checkMesh_any A1 c1 vs none 0 ([] : List Fc) wx (hv4.pure hx) (hf4.pure hx)
    by_cases hF0 : meshF ⟨vs, ([] : List Fc)⟩ = 0
    · have hTx := fun wx (hx : w4.grownBy wx none) => meshText_any A1 c1 vs none 0 ([] : List Fc) wx (hv4.pure hx) (hf4.pure hx) hF0 (hT.gr (hgw4.t hx))
      have hPl := fun wx (hx : w4.grownBy wx none) => meshLines_any A1 c1 vs none 0 ([] : List Fc) wx (hv4.pure hx) (hf4.pure hx) (meshF_ok0 hF0) (hT.gr (hgw4.t hx))
      rw [hF0] at hF1 hF2
      replace hF0 := hide hF0
      generalize mkB (meshText ⟨vs, ([] : List Fc)⟩) = T at *
      obtain ⟨p0, _⟩ := hb4.c 0 rfl
      obtain ⟨p1, _⟩ := hb4.c 1 rfl
      (try simp only [List.length_nil] at p0 p1 hF1 hF2 hTx hPl)
      go_wp2_with fail
      refine (hF1 _ (World.grownBy.refl _ _)).mono ?_
      rintro e w2 ⟨rfl, hg2⟩
      have p0 := hg2.k p0
      have p1 := hg2.k p1
      clear hF1
      go_wp2_with fail
      refine (hF2 _ hg2).mono ?_
      rintro e w3 ⟨rfl, hg3⟩
      have p0 := hg3.k p0
      have p1 := hg3.k p1
      replace hg3 := hg2.t hg3
      clear hF2
      go_wp2_with fail
      refine (hTx _ hg3).mono ?_
      rintro e w5 ⟨rfl, hg5⟩
      have p0 := hg5.k p0
      have p1 := hg5.k p1
      replace hg5 := hg3.t hg5
      clear hTx
      go_wp2_with fail
      refine (hPl _ hg5).mono ?_
      rintro e w6 ⟨rfl, hg6⟩
      clear hPl p0 p1
      have hgw6 := hgw4.t (hg5.t hg6)
      have hS6 := hS4.pure (hg5.t hg6)
      clear hv4 hf4 hS4
      have hPS := meshString_any w.heap.size _ w6 hS6.2 (by omega) (hT.gr hgw6) htl
      go_wp2_with fail
      refine hPS.mono ?_
      rintro e w7 ⟨u, rfl, hus, ho7⟩
      clear hPS
      have hgw7 : w.grownBy w7 none := gr_new hgw6 ho7.1 (Nat.le_refl _)
      have hR1 := meshRead_any u w7
      have hR2 := fun wx (hx : w7.grownBy wx none) => meshReadRef_any u wx (hT.gr (hgw7.t hx))
      obtain ⟨RR, hRR⟩ : ∃ r, readM u.data.toList = r := ⟨_, rfl⟩
      rw [hRR] at hR1 hR2
      obtain ⟨⟨xv, xf⟩, i, ee⟩ := RR
      simp only at hR1 hR2
      clear hRR ho7 hS6
      go_wp2_with fail
      refine hR1.mono ?_
      rintro e w8 ⟨A8, c8, B8, d8, rfl, hv8, hf8, hg8⟩
      clear hR1
      go_upto_region 13 with fail
      obtain ⟨w9, hw9⟩ : ∃ x, x = (w8).alloc (.cells [.slice A8 xv.length c8, .slice B8 xf.length d8].toArray 29) := ⟨_, rfl⟩
      have hg9 : (w8).grownBy w9 none := by rw [hw9]; exact gr_alloc (World.grownBy.refl _ _) _
      have hb9 : Box w9 (w8).heap.size 29 [.slice A8 xv.length c8, .slice B8 xf.length d8] := by rw [hw9]; exact Box.new _ _ _
      have hxs9 := hb9.lt
      rw [← hw9]
      clear hw9
      obtain ⟨x9, hx9⟩ : ∃ x, x = (w8).heap.size := ⟨_, rfl⟩
      rw [← hx9] at hb9 hxs9 ⊢
      have hxl9 : (w8).heap.size ≤ x9 := by omega
      clear hx9
      go_wp2_with fail
      refine (hR2 _ (hg8.t hg9)).mono ?_
      rintro e wa ⟨Aa, ca, Ba, da, rfl, hva, hfa, hga⟩
      clear hR2
      go_upto_region 14 with fail
      obtain ⟨w12, hw12⟩ : ∃ x, x = (wa).alloc (.cells [.slice Aa xv.length ca, .slice Ba xf.length da].toArray 29) := ⟨_, rfl⟩
      have hg12 : (wa).grownBy w12 none := by rw [hw12]; exact gr_alloc (World.grownBy.refl _ _) _
      have hb12 : Box w12 (wa).heap.size 29 [.slice Aa xv.length ca, .slice Ba xf.length da] := by rw [hw12]; exact Box.new _ _ _
      have hxs12 := hb12.lt
      rw [← hw12]
      clear hw12
      obtain ⟨x12, hx12⟩ : ∃ x, x = (wa).heap.size := ⟨_, rfl⟩
      rw [← hx12] at hb12 hxs12 ⊢
      have hxl12 : (wa).heap.size ≤ x12 := by omega
      clear hx12
      have hgA := hg9.t (hga.t hg12)
      have hSP := sameMesh_any A8 c8 xv B8 d8 xf Aa ca Ba da w12 (hv8.pure hgA) (hf8.pure hgA) (hva.pure hg12) (hfa.pure hg12)
      have hgw12 := hgw7.t (hg8.t hgA)
      have hPd := fun wx => meshed_any wx
      have hb9' := hb9.pure (hga.t hg12)
      obtain ⟨p0, _⟩ := hb9'.c 0 rfl
      obtain ⟨p1, _⟩ := hb9'.c 1 rfl
      obtain ⟨q0, _⟩ := hb12.c 0 rfl
      obtain ⟨q1, _⟩ := hb12.c 1 rfl
      clear hv8 hf8 hva hfa
      go_wp2_with fail
      refine hSP.mono ?_
      rintro e wb ⟨rfl, hgb⟩
      clear p0 p1 q0 q1
      go_wp2_with fail
      refine (hPd _).mono ?_
      rintro e wc ⟨rfl, hgc⟩
      go_wp2_with fail
      go_ret
      exact ⟨rfl, hgw12.t (hgb.t hgc)⟩
    · have hTx := fun wx (hx : w4.grownBy wx none) => meshTextBad_any A1 c1 vs none 0 ([] : List Fc) wx (hv4.pure hx) (hf4.pure hx) hF0
      obtain ⟨F, hF⟩ : ∃ F, meshF ⟨vs, ([] : List Fc)⟩ = F := ⟨_, rfl⟩
      rw [hF] at hF1 hF2 hTx hF0
      have hb0 : (F == 0) = false := beq_eq_false_iff_ne.2 hF0
      have hb1 : (F != F) = false := by simp
      have hb2 : (F != 0) = true := by simp [hF0]
      replace hF0 := hide hF0
      clear hF
      obtain ⟨p0, _⟩ := hb4.c 0 rfl
      obtain ⟨p1, _⟩ := hb4.c 1 rfl
      (try simp only [List.length_nil] at p0 p1 hF1 hF2 hTx)
      go_wp2_with fail
      refine (hF1 _ (World.grownBy.refl _ _)).mono ?_
      rintro e w2 ⟨rfl, hg2⟩
      have p0 := hg2.k p0
      have p1 := hg2.k p1
      clear hF1
      go_wp2_with fail
      refine (hF2 _ hg2).mono ?_
      rintro e w3 ⟨rfl, hg3⟩
      have p0 := hg3.k p0
      have p1 := hg3.k p1
      replace hg3 := hg2.t hg3
      clear hF2
      go_wp2_with fail
      refine (hTx _ hg3).mono ?_
      rintro e w6 ⟨rfl, hg6⟩
      clear hTx p0 p1
      have hgw6 := hgw4.t (hg3.t hg6)
      have hS6 := hS4.pure (hg3.t hg6)
      clear hv4 hf4 hS4
      have hPS := meshString_any w.heap.size _ w6 hS6.2 (by omega) (hT.gr hgw6) htl
      go_wp2_with fail
      refine hPS.mono ?_
      rintro e w7 ⟨u, rfl, hus, ho7⟩
      clear hPS
      have hgw7 : w.grownBy w7 none := gr_new hgw6 ho7.1 (Nat.le_refl _)
      have hR1 := meshRead_any u w7
      have hR2 := fun wx (hx : w7.grownBy wx none) => meshReadRef_any u wx (hT.gr (hgw7.t hx))
      obtain ⟨RR, hRR⟩ : ∃ r, readM u.data.toList = r := ⟨_, rfl⟩
      rw [hRR] at hR1 hR2
      obtain ⟨⟨xv, xf⟩, i, ee⟩ := RR
      simp only at hR1 hR2
      clear hRR ho7 hS6
      go_wp2_with fail
      refine hR1.mono ?_
      rintro e w8 ⟨A8, c8, B8, d8, rfl, hv8, hf8, hg8⟩
      clear hR1
      go_upto_region 13 with fail
      obtain ⟨w9, hw9⟩ : ∃ x, x = (w8).alloc (.cells [.slice A8 xv.length c8, .slice B8 xf.length d8].toArray 29) := ⟨_, rfl⟩
      have hg9 : (w8).grownBy w9 none := by rw [hw9]; exact gr_alloc (World.grownBy.refl _ _) _
      have hb9 : Box w9 (w8).heap.size 29 [.slice A8 xv.length c8, .slice B8 xf.length d8] := by rw [hw9]; exact Box.new _ _ _
      have hxs9 := hb9.lt
      rw [← hw9]
      clear hw9
      obtain ⟨x9, hx9⟩ : ∃ x, x = (w8).heap.size := ⟨_, rfl⟩
      rw [← hx9] at hb9 hxs9 ⊢
      have hxl9 : (w8).heap.size ≤ x9 := by omega
      clear hx9
      go_wp2_with fail
      refine (hR2 _ (hg8.t hg9)).mono ?_
      rintro e wa ⟨Aa, ca, Ba, da, rfl, hva, hfa, hga⟩
      clear hR2
      go_upto_region 14 with fail
      obtain ⟨w12, hw12⟩ : ∃ x, x = (wa).alloc (.cells [.slice Aa xv.length ca, .slice Ba xf.length da].toArray 29) := ⟨_, rfl⟩
      have hg12 : (wa).grownBy w12 none := by rw [hw12]; exact gr_alloc (World.grownBy.refl _ _) _
      have hb12 : Box w12 (wa).heap.size 29 [.slice Aa xv.length ca, .slice Ba xf.length da] := by rw [hw12]; exact Box.new _ _ _
      have hxs12 := hb12.lt
      rw [← hw12]
      clear hw12
      obtain ⟨x12, hx12⟩ : ∃ x, x = (wa).heap.size := ⟨_, rfl⟩
      rw [← hx12] at hb12 hxs12 ⊢
      have hxl12 : (wa).heap.size ≤ x12 := by omega
      clear hx12
      have hgA := hg9.t (hga.t hg12)
      have hSP := sameMesh_any A8 c8 xv B8 d8 xf Aa ca Ba da w12 (hv8.pure hgA) (hf8.pure hgA) (hva.pure hg12) (hfa.pure hg12)
      have hgw12 := hgw7.t (hg8.t hgA)
      have hPd := fun wx => meshed_any wx
      have hb9' := hb9.pure (hga.t hg12)
      obtain ⟨p0, _⟩ := hb9'.c 0 rfl
      obtain ⟨p1, _⟩ := hb9'.c 1 rfl
      obtain ⟨q0, _⟩ := hb12.c 0 rfl
      obtain ⟨q1, _⟩ := hb12.c 1 rfl
      clear hv8 hf8 hva hfa
      go_wp2_with fail
      refine hSP.mono ?_
      rintro e wb ⟨rfl, hgb⟩
      clear p0 p1 q0 q1
      go_wp2_with fail
      refine (hPd _).mono ?_
      rintro e wc ⟨rfl, hgc⟩
      go_wp2_with fail
      go_ret
      exact ⟨rfl, hgw12.t (hgb.t hgc)⟩
  | false =>
    obtain ⟨w4, rfl⟩ : ∃ x, x = w5 := ⟨w5, rfl⟩
    have hb4 := hbX
    have hv4 := hvX
    have hf4 := hfX
    have hgw4 := hgwX
    have hS4 := hSX
    clear hbX hvX hfX hgwX hSX hgT hv0 hf0
    have hF1 := fun wx (hx : w4.grownBy wx none) => meshFault_any A1 c1 vs B1 d1 fs wx (hv4.pure hx) (hf4.pure hx)
    have hF2 := fun wx (hx : w4.grownBy wx none) => checkMesh_any A1 c1 vs B1 d1 fs wx (hv4.pure hx) (hf4.pure hx)
    by_cases hF0 : meshF ⟨vs, fs⟩ = 0
    · have hTx := fun wx (hx : w4.grownBy wx none) => meshText_any A1 c1 vs B1 d1 fs wx (hv4.pure hx) (hf4.pure hx) hF0 (hT.gr (hgw4.t hx))
      have hPl := fun wx (hx : w4.grownBy wx none) => meshLines_any A1 c1 vs B1 d1 fs wx (hv4.pure hx) (hf4.pure hx) (meshF_ok0 hF0) (hT.gr (hgw4.t hx))
      rw [hF0] at hF1 hF2
      replace hF0 := hide hF0
      generalize mkB (meshText ⟨vs, fs⟩) = T at *
      obtain ⟨p0, _⟩ := hb4.c 0 rfl
      obtain ⟨p1, _⟩ := hb4.c 1 rfl
      (try simp only [List.length_nil] at p0 p1 hF1 hF2 hTx hPl)
      go_wp2_with fail
      refine (hF1 _ (World.grownBy.refl _ _)).mono ?_
      rintro e w2 ⟨rfl, hg2⟩
      have p0 := hg2.k p0
      have p1 := hg2.k p1
      clear hF1
      go_wp2_with fail
      refine (hF2 _ hg2).mono ?_
      rintro e w3 ⟨rfl, hg3⟩
      have p0 := hg3.k p0
      have p1 := hg3.k p1
      replace hg3 := hg2.t hg3
      clear hF2
      go_wp2_with fail
      refine (hTx _ hg3).mono ?_
      rintro e w5 ⟨rfl, hg5⟩
      have p0 := hg5.k p0
      have p1 := hg5.k p1
      replace hg5 := hg3.t hg5
      clear hTx
      go_wp2_with fail
      refine (hPl _ hg5).mono ?_
      rintro e w6 ⟨rfl, hg6⟩
      clear hPl p0 p1
      have hgw6 := hgw4.t (hg5.t hg6)
      have hS6 := hS4.pure (hg5.t hg6)
      clear hv4 hf4 hS4
      have hPS := meshString_any w.heap.size _ w6 hS6.2 (by omega) (hT.gr hgw6) htl
      go_wp2_with fail
      refine hPS.mono ?_
      rintro e w7 ⟨u, rfl, hus, ho7⟩
      clear hPS
      have hgw7 : w.grownBy w7 none := gr_new hgw6 ho7.1 (Nat.le_refl _)
      have hR1 := meshRead_any u w7
      have hR2 := fun wx (hx : w7.grownBy wx none) => meshReadRef_any u wx (hT.gr (hgw7.t hx))
      obtain ⟨RR, hRR⟩ : ∃ r, readM u.data.toList = r := ⟨_, rfl⟩
      rw [hRR] at hR1 hR2
      obtain ⟨⟨xv, xf⟩, i, ee⟩ := RR
      simp only at hR1 hR2
      clear hRR ho7 hS6
      go_wp2_with fail
      refine hR1.mono ?_
      rintro e w8 ⟨A8, c8, B8, d8, rfl, hv8, hf8, hg8⟩
      clear hR1
      go_upto_region 13 with fail
      obtain ⟨w9, hw9⟩ : ∃ x, x = (w8).alloc (.cells [.slice A8 xv.length c8, .slice B8 xf.length d8].toArray 29) := ⟨_, rfl⟩
      have hg9 : (w8).grownBy w9 none := by rw [hw9]; exact gr_alloc (World.grownBy.refl _ _) _
      have hb9 : Box w9 (w8).heap.size 29 [.slice A8 xv.length c8, .slice B8 xf.length d8] := by rw [hw9]; exact Box.new _ _ _
      have hxs9 := hb9.lt
      rw [← hw9]
      clear hw9
      obtain ⟨x9, hx9⟩ : ∃ x, x = (w8).heap.size := ⟨_, rfl⟩
      rw [← hx9] at hb9 hxs9 ⊢
      have hxl9 : (w8).heap.size ≤ x9 := by omega
      clear hx9
      go_wp2_with fail
      refine (hR2 _ (hg8.t hg9)).mono ?_
      rintro e wa ⟨Aa, ca, Ba, da, rfl, hva, hfa, hga⟩
      clear hR2
      go_upto_region 14 with fail
      obtain ⟨w12, hw12⟩ : ∃ x, x = (wa).alloc (.cells [.slice Aa xv.length ca, .slice Ba xf.length da].toArray 29) := ⟨_, rfl⟩
      have hg12 : (wa).grownBy w12 none := by rw [hw12]; exact gr_alloc (World.grownBy.refl _ _) _
      have hb12 : Box w12 (wa).heap.size 29 [.slice Aa xv.length ca, .slice Ba xf.length da] := by rw [hw12]; exact Box.new _ _ _
      have hxs12 := hb12.lt
      rw [← hw12]
      clear hw12
      obtain ⟨x12, hx12⟩ : ∃ x, x = (wa).heap.size := ⟨_, rfl⟩
      rw [← hx12] at hb12 hxs12 ⊢
      have hxl12 : (wa).heap.size ≤ x12 := by omega
      clear hx12
      have hgA := hg9.t (hga.t hg12)
      have hSP := sameMesh_any A8 c8 xv B8 d8 xf Aa ca Ba da w12 (hv8.pure hgA) (hf8.pure hgA) (hva.pure hg12) (hfa.pure hg12)
      have hgw12 := hgw7.t (hg8.t hgA)
      have hPd := fun wx => meshed_any wx
      have hb9' := hb9.pure (hga.t hg12)
      obtain ⟨p0, _⟩ := hb9'.c 0 rfl
      obtain ⟨p1, _⟩ := hb9'.c 1 rfl
      obtain ⟨q0, _⟩ := hb12.c 0 rfl
      obtain ⟨q1, _⟩ := hb12.c 1 rfl
      clear hv8 hf8 hva hfa
      go_wp2_with fail
      refine hSP.mono ?_
      rintro e wb ⟨rfl, hgb⟩
      clear p0 p1 q0 q1
      go_wp2_with fail
      refine (hPd _).mono ?_
      rintro e wc ⟨rfl, hgc⟩
      go_wp2_with fail
      go_ret
      exact ⟨rfl, hgw12.t (hgb.t hgc)⟩
    · have hTx := fun wx (hx : w4.grownBy wx none) => meshTextBad_any A1 c1 vs B1 d1 fs wx (hv4.pure hx) (hf4.pure hx) hF0
      obtain ⟨F, hF⟩ : ∃ F, meshF ⟨vs, fs⟩ = F := ⟨_, rfl⟩
      rw [hF] at hF1 hF2 hTx hF0
      have hb0 : (F == 0) = false := beq_eq_false_iff_ne.2 hF0
      have hb1 : (F != F) = false := by simp
      have hb2 : (F != 0) = true := by simp [hF0]
      replace hF0 := hide hF0
      clear hF
      obtain ⟨p0, _⟩ := hb4.c 0 rfl
      obtain ⟨p1, _⟩ := hb4.c 1 rfl
      (try simp only [List.length_nil] at p0 p1 hF1 hF2 hTx)
      go_wp2_with fail
      refine (hF1 _ (World.grownBy.refl _ _)).mono ?_
      rintro e w2 ⟨rfl, hg2⟩
      have p0 := hg2.k p0
      have p1 := hg2.k p1
      clear hF1
      go_wp2_with fail
      refine (hF2 _ hg2).mono ?_
      rintro e w3 ⟨rfl, hg3⟩
      have p0 := hg3.k p0
      have p1 := hg3.k p1
      replace hg3 := hg2.t hg3
      clear hF2
      go_wp2_with fail
      refine (hTx _ hg3).mono ?_
      rintro e w6 ⟨rfl, hg6⟩
      clear hTx p0 p1
      have hgw6 := hgw4.t (hg3.t hg6)
      have hS6 := hS4.pure (hg3.t hg6)
      clear hv4 hf4 hS4
      have hPS := meshString_any w.heap.size _ w6 hS6.2 (by omega) (hT.gr hgw6) htl
      go_wp2_with fail
      refine hPS.mono ?_
      rintro e w7 ⟨u, rfl, hus, ho7⟩
      clear hPS
      have hgw7 : w.grownBy w7 none := gr_new hgw6 ho7.1 (Nat.le_refl _)
      have hR1 := meshRead_any u w7
      have hR2 := fun wx (hx : w7.grownBy wx none) => meshReadRef_any u wx (hT.gr (hgw7.t hx))
      obtain ⟨RR, hRR⟩ : ∃ r, readM u.data.toList = r := ⟨_, rfl⟩
      rw [hRR] at hR1 hR2
      obtain ⟨⟨xv, xf⟩, i, ee⟩ := RR
      simp only at hR1 hR2
      clear hRR ho7 hS6
      go_wp2_with fail
      refine hR1.mono ?_
      rintro e w8 ⟨A8, c8, B8, d8, rfl, hv8, hf8, hg8⟩
      clear hR1
      go_upto_region 13 with fail
      obtain ⟨w9, hw9⟩ : ∃ x, x = (w8).alloc (.cells [.slice A8 xv.length c8, .slice B8 xf.length d8].toArray 29) := ⟨_, rfl⟩
      have hg9 : (w8).grownBy w9 none := by rw [hw9]; exact gr_alloc (World.grownBy.refl _ _) _
      have hb9 : Box w9 (w8).heap.size 29 [.slice A8 xv.length c8, .slice B8 xf.length d8] := by rw [hw9]; exact Box.new _ _ _
      have hxs9 := hb9.lt
      rw [← hw9]
      clear hw9
      obtain ⟨x9, hx9⟩ : ∃ x, x = (w8).heap.size := ⟨_, rfl⟩
      rw [← hx9] at hb9 hxs9 ⊢
      have hxl9 : (w8).heap.size ≤ x9 := by omega
      clear hx9
      go_wp2_with fail
      refine (hR2 _ (hg8.t hg9)).mono ?_
      rintro e wa ⟨Aa, ca, Ba, da, rfl, hva, hfa, hga⟩
      clear hR2
      go_upto_region 14 with fail
      obtain ⟨w12, hw12⟩ : ∃ x, x = (wa).alloc (.cells [.slice Aa xv.length ca, .slice Ba xf.length da].toArray 29) := ⟨_, rfl⟩
      have hg12 : (wa).grownBy w12 none := by rw [hw12]; exact gr_alloc (World.grownBy.refl _ _) _
      have hb12 : Box w12 (wa).heap.size 29 [.slice Aa xv.length ca, .slice Ba xf.length da] := by rw [hw12]; exact Box.new _ _ _
      have hxs12 := hb12.lt
      rw [← hw12]
      clear hw12
      obtain ⟨x12, hx12⟩ : ∃ x, x = (wa).heap.size := ⟨_, rfl⟩
      rw [← hx12] at hb12 hxs12 ⊢
      have hxl12 : (wa).heap.size ≤ x12 := by omega
      clear hx12
      have hgA := hg9.t (hga.t hg12)
      have hSP := sameMesh_any A8 c8 xv B8 d8 xf Aa ca Ba da w12 (hv8.pure hgA) (hf8.pure hgA) (hva.pure hg12) (hfa.pure hg12)
      have hgw12 := hgw7.t (hg8.t hgA)
      have hPd := fun wx => meshed_any wx
      have hb9' := hb9.pure (hga.t hg12)
      obtain ⟨p0, _⟩ := hb9'.c 0 rfl
      obtain ⟨p1, _⟩ := hb9'.c 1 rfl
      obtain ⟨q0, _⟩ := hb12.c 0 rfl
      obtain ⟨q1, _⟩ := hb12.c 1 rfl
      clear hv8 hf8 hva hfa
      go_wp2_with fail
      refine hSP.mono ?_
      rintro e wb ⟨rfl, hgb⟩
      clear p0 p1 q0 q1
      go_wp2_with fail
      refine (hPd _).mono ?_
      rintro e wc ⟨rfl, hgc⟩
      go_wp2_with fail
      go_ret
      exact ⟨rfl, hgw12.t (hgb.t hgc)⟩

end Go.Proofs.YtcglkjpfnnehhaaGreatDoor

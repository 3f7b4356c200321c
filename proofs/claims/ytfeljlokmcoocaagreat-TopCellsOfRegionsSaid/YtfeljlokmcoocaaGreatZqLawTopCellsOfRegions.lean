/- Contracts of functions that this seat's laws reach, each: what one call returns and what it leaves in memory; no condition beyond each theorem's own hypotheses. -/
import Derived.Test.YtfeljlokmcoocaaGreatZqTopA
import Derived.Test.YtfeljlokmcoocaaGreatZqTopPlain
import Derived.Test.YtfeljlokmcoocaaGreatZqDepT
import Derived.Test.YtfeljlokmcoocaaGreatZqFilD
import Derived.Test.YtfeljlokmcoocaaGreatZqRegGenB
import Derived.Test.YtfeljlokmcoocaaGreatZqRegRefC
import Derived.Test.YtfeljlokmcoocaaGreatZqCelM
set_option linter.unusedVariables false
set_option linter.unusedSimpArgs false
namespace Go.Proofs.YtfeljlokmcoocaaGreat
open Go Go.RowKit Go.Bl

theorem sl_dropA {α : Type} [Enc α] {w : World} {lo g o : Nat} {l : List α} (h : Sl w lo (some ⟨g, o, none⟩) l) (k : Nat) : Sl w lo (some ⟨g, o + k * Enc.sz α, none⟩) (l.drop k) := by
  obtain ⟨hm, cs, hr, hl⟩ := h
  refine ⟨by rw [List.length_drop]; omega, _, hr.drop k, fun hne => ?_⟩
  obtain ⟨ad, e, hb, hc⟩ := hl (by rintro rfl; simp at hne)
  injection e with e
  subst e
  refine ⟨_, rfl, hb, fun j u hu => ?_⟩
  have h1 := hc (k * Enc.sz α + j) u (by rw [← hu, List.getElem?_drop])
  rw [Addr.add_lit] at h1 ⊢
  rw [Nat.add_assoc]
  exact h1

theorem gr_iterT (w : World) (k : Nat) (s : ByteArray) (p : Nat) : w.grownBy (w.iterAt k s p) (some k) :=
  ⟨rfl, rfl, rfl, by rw [Lib.iterAt_size]; exact Nat.le_refl _, fun i hi hr => Lib.iterAt_other w k i s p (fun e => hr (by rw [e]))⟩

theorem okR_asciiT {s : ByteArray} (h : okR s = true) {i : Nat} (hi : i < s.size) : (s[i]'hi).toNat < 128 := by
  rw [okR, List.all_eq_true] at h
  have := h _ (byt_mem.2 ⟨i, hi, rfl⟩)
  rw [byt_get hi]
  simp only [Bool.or_eq_true, beq_iff_eq] at this
  rcases this with e | e <;> rw [e] <;> decide

theorem top_cell {r : List Pt} (h : TopR r) {c : Cel} (hc : CellsOk c) (hst : c.step = 2) (hon : ∀ x y, onC c x y = (fillS [outerR, r] 2 x y && !(fillS [outerR] 2 x y && !fillS [r] 2 x y))) {j i : Nat} (hb : bit c.rows j i = true) :
    insV [outerR, r] ⟨c.x + 2 * i + 1, c.y + 2 * j + 1⟩ = 0 ∧ insE [outerR, r] ⟨c.x + 2 * i + 1, c.y + 2 * j + 1⟩ = 0 ∧ (-1000 ≤ c.x ∧ c.x ≤ 1000) ∧ (-1000 ≤ c.y ∧ c.y ≤ 1000) := by
  have hx := mult_mul hc.mx
  have hy := mult_mul hc.my
  rw [hst] at hx hy
  have hT : onC c (c.x / 2 + i) (c.y / 2 + j) = true := by
    have e1 : c.x / 2 + (i : Int) - c.x / 2 = i := by omega
    have e2 : c.y / 2 + (j : Int) - c.y / 2 = j := by omega
    have e3 : (i : Int).toNat = i := by omega
    have e4 : (j : Int).toNat = j := by omega
    unfold onC
    rw [hst, e1, e2, e3, e4, hb]
    simp
  rw [hon] at hT
  have hN : NearS (fillS [outerR, r] 2) := fill_nearS (fun q hq => by
      have h1 := (rok_of h.both).len q hq
      omega) (fun q hq p hp => by
      simp at hq
      rcases hq with rfl | rfl
      · simp [outerR] at hp; rcases hp with rfl | rfl | rfl | rfl <;> simp only <;> omega
      · exact h.bd p hp)
  have hin := hN (c.x / 2 + i) (c.y / 2 + j) (by revert hT; cases fillS [outerR, r] 2 (c.x / 2 + i) (c.y / 2 + j) <;> simp)
  have h0 := top_more h hT
  have e1 : cenI 2 (c.x / 2 + i) = c.x + 2 * i + 1 := by unfold cenI; omega
  have e2 : cenI 2 (c.y / 2 + j) = c.y + 2 * j + 1 := by unfold cenI; omega
  rw [e1, e2] at h0
  have hbj : j < c.rows.length := by
    apply Nat.lt_of_not_le
    intro k; rw [bit_row k] at hb; cases hb
  have hbi : i < (c.rows.getD j ByteArray.empty).size := by
    apply Nat.lt_of_not_le
    intro k; rw [bit_col k] at hb; cases hb
  have h1 := hc.many
  have h2 := (hc.row j hbj).1
  have h3 := hc.wide
  have hE : insE [outerR, r] ⟨c.x + 2 * i + 1, c.y + 2 * j + 1⟩ = 0 := by
    unfold insE
    rw [if_neg (by simp [h.both]), if_neg]
    simp only [farP, outB, Bool.or_eq_true, decide_eq_true_eq]; omega
  refine ⟨?_, hE, by omega, by omega⟩
  unfold insV
  rw [if_neg (by simp [hE]), h0]

theorem res_noneT {a b c : Cel} {S : Int → Int → Bool} {er : Int} (h : ResC (pairF a b) a.step S c er) (ha : CellsOk a) (hb : CellsOk b) (hs : a.step = b.step) (hn : ∀ x y, S x y = false) : er = 0 ∧ c.rows = [] := by
  rcases h with ⟨h, -⟩ | ⟨-, ⟨-, rfl, h⟩ | ⟨_, _, _, _, hB, -⟩⟩
  · exact absurd (pair_zero ha hb hs) h
  · exact ⟨h, rfl⟩
  · exact (hB.no hn).elim

theorem okSmall {c : Cel} (h : CellsOk c) : ∀ s ∈ c.rows, s.size ≤ 4611686018427387904 := fun s hs => by
  obtain ⟨j, hj, rfl⟩ := List.mem_iff_getElem.1 hs
  have h1 := (h.row j hj).1
  have h2 := h.wide
  rw [getD_of hj] at h1
  omega

theorem outer_row (w : World) (lo : Nat) : Row w lo outerR [.int .i64 (-20), .int .i64 (-20), .int .i64 40, .int .i64 (-20), .int .i64 40, .int .i64 40, .int .i64 (-20), .int .i64 40] := ⟨_, _, rfl, rfl, _, _, rfl, rfl, _, _, rfl, rfl, _, [], rfl, rfl, rfl⟩

theorem top_near {r : List Pt} (h : TopR r) : (∀ q ∈ [outerR, r], 0 < q.length) ∧ ∀ q ∈ [outerR, r], ∀ p ∈ q, (-20 ≤ p.x ∧ p.x ≤ 40) ∧ -20 ≤ p.y ∧ p.y ≤ 40 :=
  ⟨fun q hq => by
      have h1 := (rok_of h.both).len q hq
      omega, fun q hq p hp => by
      simp at hq
      rcases hq with rfl | rfl
      · simp [outerR] at hp; rcases hp with rfl | rfl | rfl | rfl <;> simp only <;> omega
      · exact h.bd p hp⟩

set_option maxHeartbeats 8000000 in
set_option maxRecDepth 100000 in
theorem topCells_law (A : Option Addr) (n c : Nat) (L : List Int) (w : World) (hL : Sl w 0 A L) (hn : L.length = n) :
    Calls Tryz.prog 3 #[.slice A n c] w fun e w' => e = .returned (.bool true) ∧ w.grownBy w' none := by
  have hs0 := strm_new (c := c) 25 hL hn
  have hg0 := gr_alloc (World.grownBy.refl w none) (.cells #[.slice A n c, .int .i64 0] 25)
  go_enter Tryz.func3, Tryz.ntmps3
  go_upto_region 2 with fail
  obtain ⟨w1, hw1⟩ : ∃ x, x = w.alloc (.cells #[.slice A n c, .int .i64 0] 25) := ⟨_, rfl⟩
  rw [← hw1] at hs0 hg0 ⊢
  clear hw1
  obtain ⟨b, hb⟩ : ∃ q, q = w.heap.size := ⟨_, rfl⟩
  rw [← hb] at hs0 ⊢
  replace hb : w.heap.size ≤ b := by omega
  obtain ⟨w2, hw2⟩ : ∃ x, x = w1.alloc (.cells [.int .i64 (-20), .int .i64 (-20), .int .i64 40, .int .i64 (-20), .int .i64 40, .int .i64 40, .int .i64 (-20), .int .i64 40].toArray 27) := ⟨_, rfl⟩
  have hs2 : Sl w2 w1.heap.size (some ⟨w1.heap.size, 0, none⟩) outerR := by rw [hw2]; exact sl_lit w1 _ _ _ _ (Nat.le_refl _) (by simp [outerR, maxLen]) (outer_row _ _)
  have hg2 : w1.grownBy w2 none := by rw [hw2]; exact gr_alloc (World.grownBy.refl _ _) _
  have hR := hide (aRing_any b 0 w2 (hs0.pure hg2) (by omega))
  have hbw := hs0.lt
  go_wp2_with fail
  rw [← hw2]
  clear hw2
  refine hR.out.mono ?_
  rintro e w3 ⟨gr, cr, r, rfl, hr, hrc, hr6, hgr, ho3⟩
  have ho := (hs2.gr ho3.1 (fun q e => by injection e; omega)).mono (Nat.zero_le _)
  replace hr := hr.mono (Nat.zero_le _)
  have hgw3 := gr_new (hg0.t hg2) ho3.1 hb
  clear hR hs0 hs2 hg0 hg2 hgr ho3 hL
  obtain ⟨ga, hga⟩ : ∃ q, q = w1.heap.size := ⟨_, rfl⟩
  rw [← hga] at ho ⊢
  clear hga hbw
  go_upto_region 4 with fail
  obtain ⟨w4, hw4⟩ : ∃ x, x = w3.alloc (.cells [.slice (some ⟨ga, 0, none⟩) 4 4, .slice (some ⟨gr, 0, none⟩) r.length cr].toArray 29) := ⟨_, rfl⟩
  have hg4 : w3.grownBy w4 none := by rw [hw4]; exact gr_alloc (World.grownBy.refl _ _) _
  have hs4 : Sl w4 0 (some ⟨w3.heap.size, 0, none⟩) [outerR, r] := by
    rw [hw4]
    refine sl_lit w3 0 _ _ _ (Nat.zero_le _) (by simp [maxLen]) ?_
    rw [← hw4]
    exact ⟨_, _, rfl, ⟨_, 4, rfl, Nat.le_refl _, ho.pure hg4⟩, _, [], rfl, ⟨_, _, rfl, hrc, hr.pure hg4⟩, rfl⟩
  rw [← hw4]
  have hgw := hgw3.t hg4
  clear hw4 hg4 hgw3 ho hr
  generalize w3.heap.size = g4 at *
  have hfl : (flatK [outerR, r] [outerR, r].length).length ≤ 100 := by
    simp [flatK, outerR]; omega
  have hF := hide (regionFault_any (some ⟨g4, 0, none⟩) 2 [outerR, r] w4 hs4 (by omega) (by simp))
  rw [show ([outerR, r] : List (List Pt)).length = 2 from rfl] at hF
  by_cases hz : regF [outerR, r] = 0
  rotate_left
  · have hzb : (regF [outerR, r] != 0) = true := by simp [hz]
    generalize regF [outerR, r] = F at *
    clear hfl hz hs4
    go_wp2_with fail
    refine hF.out.mono ?_
    rintro e w5 ⟨rfl, hg5⟩
    go_wp2_with fail
    refine (h06facts_any _).mono ?_
    rintro e w6 ⟨rfl, hg6⟩
    go_wp2_with fail
    go_ret
    exact ⟨rfl, hgw.t (hg5.t hg6)⟩
  · rw [hz] at hF
    have hD := hide fun W (h : w4.grownBy W none) => depthsTop_any (some ⟨g4, 0, none⟩) 2 [outerR, r] W (hs4.pure h) hz
    rw [show ([outerR, r] : List (List Pt)).length = 2 from rfl] at hD
    obtain ⟨d0, d1, hd⟩ : ∃ d0 d1, dptsF [outerR, r] = [d0, d1] := ⟨_, _, rfl⟩
    have hd1 : dptF [outerR, r] 1 = d1 := by
      have h : dptsF [outerR, r] = [dptF [outerR, r] 0, dptF [outerR, r] 1] := by simp [dptsF, dptsK, List.range, List.range.loop]
      rw [h] at hd
      injection hd with _ h2
      injection h2
    rw [hd] at hD
    clear hd
    go_wp2_with fail
    refine hF.out.mono ?_
    rintro e w5 ⟨rfl, hg5⟩
    clear hF
    go_wp2_with fail
    refine (hD.out _ hg5).mono ?_
    rintro e w6 ⟨gd, rfl, hs6, hg6⟩
    clear hD
    replace hs6 := hs6.mono (Nat.zero_le _)
    have hg46 := hg5.t hg6
    clear hg5 hg6
    go_upto_region 7 with fail
    have hE := fun (W : World) (g : Nat) (h : w6.grownBy W none) (hl : Sl W 0 (some ⟨g, 0, none⟩) [(0 : Int), 1]) => equalInts_any (some ⟨gd, 0, none⟩) (some ⟨g, 0, none⟩) 2 2 [d0, d1] [0, 1] W (hs6.pure h) hl
    have hi7 := sl_intsAt w6 0 3 [0, 1] w6.heap.size rfl (Nat.zero_le _) (by simp [maxLen])
    have hg7 := gr_alloc (World.grownBy.refl w6 none) (.cells #[.int .i64 0, .int .i64 1] 3)
    replace hE := hide (hE _ _ hg7 hi7)
    go_wp2_with fail
    refine hE.out.mono ?_
    rintro e w8 ⟨rfl, hg8⟩
    have hg48 := hg46.t (hg7.t hg8)
    clear hE hi7 hg7 hg8 hs6 hg46
    rcases hq : eqB [d0, d1] [(0 : Int), 1] with _ | _
    · clear hz hs4 hfl
      go_wp2_with fail
      refine (h06facts_any _).mono ?_
      rintro e w9 ⟨rfl, hg9⟩
      go_wp2_with fail
      go_ret
      exact ⟨rfl, hgw.t (hg48.t hg9)⟩
    · have hd1' : d1 = 1 := (show d0 = 0 ∧ d1 = 1 by simpa [eqB] using hq).2
      have hT := topR_of hz (hd1.trans hd1')
      have hnr := top_near hT
      replace hgw := hgw.t hg48
      replace hs4 := hs4.pure hg48
      clear hd1 hd1' hq hg48 w4
      obtain ⟨hT', hhT⟩ : Hid (TopR r) ∧ True := ⟨hT, trivial⟩
      have hs4a : Sl w8 0 (some ⟨g4, 0, none⟩) [outerR] := hs4.take 1
      have hs4b : Sl w8 0 (some ⟨g4, 1, none⟩) [r] := sl_dropA hs4 1
      have hFa := hide fun W (h : w8.grownBy W none) => filled_any (some ⟨g4, 0, none⟩) 2 [outerR, r] 2 W (hs4.pure h) (by omega) (by omega)
      have hFb := hide fun W (h : w8.grownBy W none) => filled_any (some ⟨g4, 0, none⟩) 2 [outerR] 2 W (hs4a.pure h) (by simp [flatK, outerR]) (by omega)
      have hFc := hide fun W (h : w8.grownBy W none) => filled_any (some ⟨g4, 1, none⟩) 1 [r] 2 W (hs4b.pure h) (by simp [flatK]; omega) (by omega)
      rw [show ([outerR, r] : List (List Pt)).length = 2 from rfl, hz] at hFa
      rw [show ([outerR] : List (List Pt)).length = 1 from rfl, outer_reg] at hFb
      rw [show ([r] : List (List Pt)).length = 1 from rfl, hT.one] at hFc
      have fa := hide fun c er h => fill_ok (rf := 0) (c := c) (er := er) rfl hnr.1 hnr.2 h
      have fb := hide fun c er h => fill_ok (rf := 0) (rs := [outerR]) (c := c) (er := er) rfl (fun q hq => hnr.1 q (by simp at hq ⊢; exact .inl hq)) (fun q hq => hnr.2 q (by simp at hq ⊢; exact .inl hq)) h
      have fc := hide fun c er h => fill_ok (rf := 0) (rs := [r]) (c := c) (er := er) rfl (fun q hq => hnr.1 q (by simp at hq ⊢; exact .inr hq)) (fun q hq => hnr.2 q (by simp at hq ⊢; exact .inr hq)) h
      have hIns := hide fun p W (h : w8.grownBy W none) => inside_any (some ⟨g4, 0, none⟩) 2 [outerR, r] p W (hs4.pure h) (by omega)
      rw [show ([outerR, r] : List (List Pt)).length = 2 from rfl] at hIns
      have hless := hide fun x y => top_less (r := r) x y
      have hcell := hide fun (c : Cel) (h1 : CellsOk c) h2 h3 j i => top_cell hT h1 h2 h3 (j := j) (i := i)
      have hnear := hide fun q (hq : ∀ t ∈ q, t ∈ [outerR, r]) => fill_nearS (rs := q) (fun t ht => hnr.1 t (hq t ht)) (fun t ht => hnr.2 t (hq t ht))
      clear hs4 hs4a hs4b hz hnr hT hT' hhT hfl
      have hself := World.grownBy.refl w8 none
      go_wp2_with fail
      refine ((hFa.out _ hself)).mono ?_
      rintro e u9 ⟨c9, er9, C9, cc9, rfl, hR9, hO9, hu9⟩
      obtain ⟨he9, hok9, hst9, hon9⟩ := (fa.out _ _) hR9
      subst he9
      obtain ⟨n9, hn9⟩ : ∃ q, q = (c9).rows.length := ⟨_, rfl⟩
      rw [← hn9]
      have hC9 := CArg.mk (w := u9) ((hO9.sl).mono (Nat.zero_le _)) hn9.symm (okSmall hok9)
      replace hn9 := hide hn9
      replace hst9 := hide hst9
      replace hon9 := hide hon9
      replace hok9 := hide hok9
      clear hR9 hO9
      go_upto_region 10 with fail
      obtain ⟨w9, hw9⟩ : ∃ x, x = (u9).alloc (.cells [.int .i64 (c9).step, .int .i64 (c9).x, .int .i64 (c9).y, .slice C9 n9 cc9].toArray 40) := ⟨_, rfl⟩
      have hg9 : (u9).grownBy w9 none := by rw [hw9]; exact gr_alloc (World.grownBy.refl _ _) _
      have hb9 : Box w9 (u9).heap.size 40 [.int .i64 (c9).step, .int .i64 (c9).x, .int .i64 (c9).y, .slice C9 n9 cc9] := by rw [hw9]; exact Box.new _ _ _
      have hxs9 := hb9.lt
      rw [← hw9]
      clear hw9
      obtain ⟨x9, hx9⟩ : ∃ x, x = (u9).heap.size := ⟨_, rfl⟩
      rw [← hx9] at hb9 hxs9 ⊢
      have hxl9 : (u9).heap.size ≤ x9 := by omega
      clear hx9
      replace hC9 := hC9.pure hg9
      have hv9 := hu9.t hg9
      clear hu9 hg9 hxs9 hxl9
      replace hgw := hgw.t hv9
      have hw8 := hself.t hv9
      clear hFa hself hv9
      go_wp2_with fail
      refine ((hFb.out _ hw8)).mono ?_
      rintro e u11 ⟨c11, er11, C11, cc11, rfl, hR11, hO11, hu11⟩
      obtain ⟨he11, hok11, hst11, hon11⟩ := (fb.out _ _) hR11
      subst he11
      obtain ⟨n11, hn11⟩ : ∃ q, q = (c11).rows.length := ⟨_, rfl⟩
      rw [← hn11]
      have hC11 := CArg.mk (w := u11) ((hO11.sl).mono (Nat.zero_le _)) hn11.symm (okSmall hok11)
      replace hn11 := hide hn11
      replace hst11 := hide hst11
      replace hon11 := hide hon11
      replace hok11 := hide hok11
      clear hR11 hO11
      go_upto_region 11 with fail
      obtain ⟨w11, hw11⟩ : ∃ x, x = (u11).alloc (.cells [.int .i64 (c11).step, .int .i64 (c11).x, .int .i64 (c11).y, .slice C11 n11 cc11].toArray 40) := ⟨_, rfl⟩
      have hg11 : (u11).grownBy w11 none := by rw [hw11]; exact gr_alloc (World.grownBy.refl _ _) _
      have hb11 : Box w11 (u11).heap.size 40 [.int .i64 (c11).step, .int .i64 (c11).x, .int .i64 (c11).y, .slice C11 n11 cc11] := by rw [hw11]; exact Box.new _ _ _
      have hxs11 := hb11.lt
      rw [← hw11]
      clear hw11
      obtain ⟨x11, hx11⟩ : ∃ x, x = (u11).heap.size := ⟨_, rfl⟩
      rw [← hx11] at hb11 hxs11 ⊢
      have hxl11 : (u11).heap.size ≤ x11 := by omega
      clear hx11
      replace hC11 := hC11.pure hg11
      have hv11 := hu11.t hg11
      clear hu11 hg11 hxs11 hxl11
      replace hC9 := hC9.pure hv11
      replace hb9 := hb9.pure hv11
      replace hgw := hgw.t hv11
      replace hw8 := hw8.t hv11
      clear hFb hv11
      go_wp2_with fail
      refine ((hFc.out _ hw8)).mono ?_
      rintro e u13 ⟨c13, er13, C13, cc13, rfl, hR13, hO13, hu13⟩
      obtain ⟨he13, hok13, hst13, hon13⟩ := (fc.out _ _) hR13
      subst he13
      obtain ⟨n13, hn13⟩ : ∃ q, q = (c13).rows.length := ⟨_, rfl⟩
      rw [← hn13]
      have hC13 := CArg.mk (w := u13) ((hO13.sl).mono (Nat.zero_le _)) hn13.symm (okSmall hok13)
      replace hn13 := hide hn13
      replace hst13 := hide hst13
      replace hon13 := hide hon13
      replace hok13 := hide hok13
      clear hR13 hO13
      go_upto_region 12 with fail
      obtain ⟨w13, hw13⟩ : ∃ x, x = (u13).alloc (.cells [.int .i64 (c13).step, .int .i64 (c13).x, .int .i64 (c13).y, .slice C13 n13 cc13].toArray 40) := ⟨_, rfl⟩
      have hg13 : (u13).grownBy w13 none := by rw [hw13]; exact gr_alloc (World.grownBy.refl _ _) _
      have hb13 : Box w13 (u13).heap.size 40 [.int .i64 (c13).step, .int .i64 (c13).x, .int .i64 (c13).y, .slice C13 n13 cc13] := by rw [hw13]; exact Box.new _ _ _
      have hxs13 := hb13.lt
      rw [← hw13]
      clear hw13
      obtain ⟨x13, hx13⟩ : ∃ x, x = (u13).heap.size := ⟨_, rfl⟩
      rw [← hx13] at hb13 hxs13 ⊢
      have hxl13 : (u13).heap.size ≤ x13 := by omega
      clear hx13
      replace hC13 := hC13.pure hg13
      have hv13 := hu13.t hg13
      clear hu13 hg13 hxs13 hxl13
      replace hC9 := hC9.pure hv13
      replace hb9 := hb9.pure hv13
      replace hC11 := hC11.pure hv13
      replace hb11 := hb11.pure hv13
      replace hgw := hgw.t hv13
      replace hw8 := hw8.t hv13
      clear hFc hv13 fa fb fc
      obtain ⟨⟨p0, -⟩, ⟨p1, -⟩, ⟨p2, -⟩, ⟨p3, -⟩⟩ := box4_c hb11
      obtain ⟨⟨q0, -⟩, ⟨q1, -⟩, ⟨q2, -⟩, ⟨q3, -⟩⟩ := box4_c hb13
      have hcon := hide (minus_any c11 c13 C11 n11 cc11 C13 n13 cc13 w13 hC11 hC13)
      have hn9 : Hid (NearS (onC c9)) := by
        have h := hnear.out [outerR, r] (fun t ht => ht)
        exact fun x y e => h x y (by rw [← hon9.out]; exact e)
      have hn11 : Hid (NearS (onC c11)) := by
        have h := hnear.out [outerR] (fun t ht => by simp at ht ⊢; exact .inl ht)
        exact fun x y e => h x y (by rw [← hon11.out]; exact e)
      clear hnear
      go_wp2_with fail
      refine (hcon.out).mono ?_
      rintro e u15 ⟨c15, er15, C15, cc15, rfl, hR15, hO15, hu15⟩
      obtain ⟨he15, hok15, hst15, hon15⟩ := (fun h => res_right h hok11.out hok13.out (hst11.out.trans hst13.out.symm) (fun x y e => hn11.out x y (by revert e; cases onC c11 x y <;> simp))) hR15
      subst he15
      obtain ⟨n15, hn15⟩ : ∃ q, q = (c15).rows.length := ⟨_, rfl⟩
      rw [← hn15]
      have hC15 := CArg.mk (w := u15) ((hO15.sl).mono (Nat.zero_le _)) hn15.symm (okSmall hok15)
      replace hn15 := hide hn15
      replace hst15 := hide hst15
      replace hon15 := hide hon15
      replace hok15 := hide hok15
      clear hR15 hO15
      go_upto_region 15 with fail
      obtain ⟨w15, hw15⟩ : ∃ x, x = (u15).alloc (.cells [.int .i64 (c15).step, .int .i64 (c15).x, .int .i64 (c15).y, .slice C15 n15 cc15].toArray 40) := ⟨_, rfl⟩
      have hg15 : (u15).grownBy w15 none := by rw [hw15]; exact gr_alloc (World.grownBy.refl _ _) _
      have hb15 : Box w15 (u15).heap.size 40 [.int .i64 (c15).step, .int .i64 (c15).x, .int .i64 (c15).y, .slice C15 n15 cc15] := by rw [hw15]; exact Box.new _ _ _
      have hxs15 := hb15.lt
      rw [← hw15]
      clear hw15
      obtain ⟨x15, hx15⟩ : ∃ x, x = (u15).heap.size := ⟨_, rfl⟩
      rw [← hx15] at hb15 hxs15 ⊢
      have hxl15 : (u15).heap.size ≤ x15 := by omega
      clear hx15
      replace hC15 := hC15.pure hg15
      have hv15 := hu15.t hg15
      clear hu15 hg15 hxs15 hxl15
      clear p0 p1 p2 p3 q0 q1 q2 q3 hcon hb11 hb13 hC11 hC13
      replace hC9 := hC9.pure hv15
      replace hb9 := hb9.pure hv15
      replace hgw := hgw.t hv15
      replace hw8 := hw8.t hv15
      clear hv15
      have hst15' : Hid (c15.step = c9.step) := hst15.out.trans (hst11.out.trans hst9.out.symm)
      obtain ⟨⟨p0, -⟩, ⟨p1, -⟩, ⟨p2, -⟩, ⟨p3, -⟩⟩ := box4_c hb9
      obtain ⟨⟨q0, -⟩, ⟨q1, -⟩, ⟨q2, -⟩, ⟨q3, -⟩⟩ := box4_c hb15
      have hcon := hide (minus_any c15 c9 C15 n15 cc15 C9 n9 cc9 w15 hC15 hC9)
      go_wp2_with fail
      refine (hcon.out).mono ?_
      rintro e u16 ⟨c16, er16, C16, cc16, rfl, hR16, hO16, hu16⟩
      obtain ⟨he16, hem16⟩ := (fun h => res_noneT h hok15.out hok9.out hst15'.out (fun x y => by rw [hon15.out, hon11.out, hon13.out, hon9.out]; exact hless.out x y)) hR16
      subst he16
      obtain ⟨n16, hn16⟩ : ∃ q, q = (c16).rows.length := ⟨_, rfl⟩
      rw [← hn16]
      obtain rfl : n16 = 0 := by rw [hn16, hem16]; rfl
      clear hR16 hO16 hn16 hem16
      go_upto_region 18 with fail
      obtain ⟨w16, hw16⟩ : ∃ x, x = (u16).alloc (.cells [.int .i64 (c16).step, .int .i64 (c16).x, .int .i64 (c16).y, .slice C16 0 cc16].toArray 40) := ⟨_, rfl⟩
      have hg16 : (u16).grownBy w16 none := by rw [hw16]; exact gr_alloc (World.grownBy.refl _ _) _
      have hb16 : Box w16 (u16).heap.size 40 [.int .i64 (c16).step, .int .i64 (c16).x, .int .i64 (c16).y, .slice C16 0 cc16] := by rw [hw16]; exact Box.new _ _ _
      have hxs16 := hb16.lt
      rw [← hw16]
      clear hw16
      obtain ⟨x16, hx16⟩ : ∃ x, x = (u16).heap.size := ⟨_, rfl⟩
      rw [← hx16] at hb16 hxs16 ⊢
      have hxl16 : (u16).heap.size ≤ x16 := by omega
      clear hx16
      have hv16 := hu16.t hg16
      clear hu16 hg16 hxs16 hxl16
      clear p0 p1 p2 p3 q0 q1 q2 q3 hcon hless
      replace hC9 := hC9.pure hv16
      replace hb9 := hb9.pure hv16
      replace hC15 := hC15.pure hv16
      replace hb15 := hb15.pure hv16
      replace hgw := hgw.t hv16
      replace hw8 := hw8.t hv16
      clear hv16
      obtain ⟨⟨p0, -⟩, ⟨p1, -⟩, ⟨p2, -⟩, ⟨p3, -⟩⟩ := box4_c hb9
      obtain ⟨⟨q0, -⟩, ⟨q1, -⟩, ⟨q2, -⟩, ⟨q3, -⟩⟩ := box4_c hb15
      have hcon := hide (minus_any c9 c15 C9 n9 cc9 C15 n15 cc15 w16 hC9 hC15)
      go_wp2_with fail
      refine (hcon.out).mono ?_
      rintro e u17 ⟨c17, er17, C17, cc17, rfl, hR17, hO17, hu17⟩
      obtain ⟨he17, hok17, hst17, hon17⟩ := (fun h => res_right h hok9.out hok15.out hst15'.out.symm (fun x y e => hn9.out x y (by revert e; cases onC c9 x y <;> simp))) hR17
      subst he17
      obtain ⟨n17, hn17⟩ : ∃ q, q = (c17).rows.length := ⟨_, rfl⟩
      rw [← hn17]
      have hC17 := CArg.mk (w := u17) ((hO17.sl).mono (Nat.zero_le _)) hn17.symm (okSmall hok17)
      replace hn17 := hide hn17
      replace hst17 := hide hst17
      replace hon17 := hide hon17
      replace hok17 := hide hok17
      clear hR17 hO17
      go_upto_region 19 with fail
      obtain ⟨w17, hw17⟩ : ∃ x, x = (u17).alloc (.cells [.int .i64 (c17).step, .int .i64 (c17).x, .int .i64 (c17).y, .slice C17 n17 cc17].toArray 40) := ⟨_, rfl⟩
      have hg17 : (u17).grownBy w17 none := by rw [hw17]; exact gr_alloc (World.grownBy.refl _ _) _
      have hb17 : Box w17 (u17).heap.size 40 [.int .i64 (c17).step, .int .i64 (c17).x, .int .i64 (c17).y, .slice C17 n17 cc17] := by rw [hw17]; exact Box.new _ _ _
      have hxs17 := hb17.lt
      rw [← hw17]
      clear hw17
      obtain ⟨x17, hx17⟩ : ∃ x, x = (u17).heap.size := ⟨_, rfl⟩
      rw [← hx17] at hb17 hxs17 ⊢
      have hxl17 : (u17).heap.size ≤ x17 := by omega
      clear hx17
      replace hC17 := hC17.pure hg17
      have hv17 := hu17.t hg17
      clear hu17 hg17 hxs17 hxl17
      clear p0 p1 p2 p3 q0 q1 q2 q3 hcon hb9 hb15 hC9 hC15
      replace hb16 := hb16.pure hv17
      replace hgw := hgw.t hv17
      replace hw8 := hw8.t hv17
      clear hv17
      have hcell2 := hide (fun (j i : Nat) h => hcell.out c17 hok17.out (hst17.out.trans hst9.out) (fun x y => by rw [hon17.out, hon9.out, hon15.out, hon11.out, hon13.out]) j i h)
      clear hcell hst15' hst15 hon15 hon11 hon13 hon9 hst9 hst11 hst13 hst17 hok9 hok11 hok13 hok15 hn9 hn11 hn13 hn15
      obtain ⟨-, -, -, ⟨b3, -⟩⟩ := box4_c hb16
      obtain ⟨-, ⟨m1, -⟩, ⟨m2, -⟩, ⟨m3, -⟩⟩ := box4_c hb17
      go_upto_region 22 with fail
      have hself := World.grownBy.refl w17 none
      go_loopw [121] (fun i wr => ∃ j : Nat, j ≤ n17 ∧ i = .int .i64 j ∧ w17.grownBy wr none) (fun i _ => n17 - (intOf i).toNat)
      case atStart => exact ⟨0, Nat.zero_le _, rfl, hself⟩
      case round =>
        clear hself
        obtain ⟨j, hj, rfl, hgj⟩ := hrel
        by_cases hlt : j < n17
        · have hlj : j < c17.rows.length := by rw [← hn17.out]; exact hlt
          obtain ⟨g, o, hA, -, hcl⟩ := sl_strs hC17.sl (by omega)
          have cj := hgj.k (hcl j hlj)
          have hrw := hok17.out.row j hlj
          have hok : okR c17.rows[j] = true := by have := hrw.2; rwa [getD_of hlj] at this
          have hbit : Hid (∀ i, bit c17.rows j i = (byt c17.rows[j] i == 35)) := fun i => by rw [bit, getD_of hlj]
          have hasc : Hid (∀ i, (hi : i < c17.rows[j].size) → (c17.rows[j][i]'hi).toNat < 128) := fun i hi => okR_asciiT hok hi
          have hsz : c17.rows[j].size ≤ 1000 := by
            have h1 := hrw.1
            rw [getD_of hlj] at h1
            have := hok17.out.wide
            omega
          clear hok hrw hcl
          have hjb : j ≤ 1000 := by have := hok17.out.many; omega
          generalize c17.rows[j] = s at *
          subst hA
          go_upto_region 25 with fail
          obtain ⟨w18, hw18⟩ : ∃ x, x = wr.iter s 0 := ⟨_, rfl⟩
          have hi18 : w18.heap[wr.heap.size]? = some (.stringIter s 0) := by rw [hw18]; exact World.iter_heap wr s 0
          have hg18 : wr.grownBy w18 none := by rw [hw18]; exact gr_alloc (World.grownBy.refl _ _) _
          have hgj18 := hgj.t hg18
          have hri : w17.heap.size ≤ wr.heap.size := hgj.size
          rw [← hw18]
          clear hw18 hg18 cj
          generalize wr.heap.size = ri at *
          clear hgj
          go_loopw [20] (fun _ wx => ∃ pos : Nat, pos ≤ s.size ∧ wx.heap[ri]? = some (.stringIter s pos) ∧ w17.grownBy wx none) (fun _ wx => s.size - wx.iterPos ri)
          case atStart => exact ⟨0, Nat.zero_le _, hi18, hgj18⟩
          case round =>
            clear hi18 hgj18
            obtain ⟨pos, hps, hk, hgx⟩ := hrel
            by_cases hp : pos < s.size
            · have h128 := hasc.out pos hp
              have hnext : ∀ ty, (Instr.next (.pointer (some ⟨ri, 0, none⟩)) true ty).run Tryz.prog wr = _ := fun ty => Lib.run_next_ascii_at wr ri s pos ty hk hp h128
              have hk1 := Lib.iterAt_heap wr ri s pos (pos + 1) hk
              have hga := gr_iterT wr ri s (pos + 1)
              have hgx1 := gr_new hgx hga hri
              have hmu : wr.iterPos ri = pos := by simp [World.iterPos, hk]
              have hbt := byt_get hp
              have hb := hbit.out pos
              rw [show (byt s pos == 35) = (((byt s pos).toNat : Int) == 35) from (u8_35 _).symm] at hb
              generalize wr.iterAt ri s (pos + 1) = W1 at *
              have hmu2 : W1.iterPos ri = pos + 1 := by simp [World.iterPos, hk1]
              rcases hbv : (((byt s pos).toNat : Int) == 35) with _ | _
              · have hbv' : (((byt s pos).toNat : Int) != 35) = true := by simp only [bne, hbv]; rfl
                replace hb := hide hb
                clear hasc hbit
                go_wp2_with fail
                go_roundw
                case rel => exact ⟨pos + 1, by omega, hk1, hgx1⟩
                case measure => rw [hmu, hmu2]; omega
              · have hbv' : (((byt s pos).toNat : Int) != 35) = false := by simp only [bne, hbv]; rfl
                rw [hbv] at hb
                obtain ⟨e1, e2, e3, e4⟩ := hcell2.out j pos hb
                have n1 := hgx1.k m1
                have n2 := hgx1.k m2
                have hI := hide fun W (h : w8.grownBy W none) => hIns.out ⟨c17.x + 2 * pos + 1, c17.y + 2 * j + 1⟩ W h
                rw [e1, e2] at hI
                replace hb := hide hb
                clear hasc hbit e1 e2
                go_upto_region 29 with fail
                obtain ⟨w21, hw21⟩ : ∃ x, x = (W1).alloc (.cells [.int .i64 (c17.x + 2 * pos + 1), .int .i64 (c17.y + 2 * j + 1)].toArray 27) := ⟨_, rfl⟩
                have hg21 : (W1).grownBy w21 none := by rw [hw21]; exact gr_alloc (World.grownBy.refl _ _) _
                have hb21 : Box w21 (W1).heap.size 27 [.int .i64 (c17.x + 2 * pos + 1), .int .i64 (c17.y + 2 * j + 1)] := by rw [hw21]; exact Box.new _ _ _
                have hxs21 := hb21.lt
                rw [← hw21]
                clear hw21
                obtain ⟨x21, hx21⟩ : ∃ x, x = (W1).heap.size := ⟨_, rfl⟩
                rw [← hx21] at hb21 hxs21 ⊢
                have hxl21 : (W1).heap.size ≤ x21 := by omega
                clear hx21
                obtain ⟨b0, _⟩ := hb21.c 0 rfl
                obtain ⟨b1, _⟩ := hb21.c 1 rfl
                have hgx2 := hgx1.t hg21
                have hk2 : w21.heap[ri]? = some (.stringIter s (pos + 1)) := by
                  have hlt1 := (Array.getElem?_eq_some_iff.1 hk1).1
                  rw [hg21.block ri hlt1 (by simp)]
                  exact hk1
                clear n1 n2 hgx1 hk1 hg21 hb21 hga
                go_wp2_with fail
                refine (hI.out _ (hw8.t hgx2)).mono ?_
                rintro e w22 ⟨rfl, hg22⟩
                have hk3 : w22.heap[ri]? = some (.stringIter s (pos + 1)) := by
                  have hlt1 := (Array.getElem?_eq_some_iff.1 hk2).1
                  rw [hg22.block ri hlt1 (by simp)]
                  exact hk2
                have hmu3 : w22.iterPos ri = pos + 1 := by simp [World.iterPos, hk3]
                have hgx3 := hgx2.t hg22
                clear hI hgx2 hk2 b0 b1
                go_wp2_with fail
                go_roundw
                case rel => exact ⟨pos + 1, by omega, hk3, hgx3⟩
                case measure => rw [hmu, hmu3]; omega
            · obtain rfl : pos = s.size := by omega
              have hnext : ∀ ty, (Instr.next (.pointer (some ⟨ri, 0, none⟩)) true ty).run Tryz.prog wr = _ := fun ty => Lib.run_next_end_at wr ri s s.size ty hk hp
              go_wp2_with fail
              (go_roundw; (case rel => exact ⟨j + 1, by omega, by go_num, hgx⟩); (case measure => simp [intOf]; omega))
        · obtain rfl : j = n17 := by omega
          go_wp2_with fail
          refine (h06facts_any _).mono ?_
          rintro e w19 ⟨rfl, hg19⟩
          go_wp2_with fail
          go_ret
          exact ⟨rfl, hgw.t (hgj.t hg19)⟩

end Go.Proofs.YtfeljlokmcoocaaGreat

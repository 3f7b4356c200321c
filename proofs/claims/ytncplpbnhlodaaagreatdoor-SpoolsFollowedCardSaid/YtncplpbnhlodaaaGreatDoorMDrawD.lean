/- Contracts of functions that this seat's laws reach, each: what one call returns and what it leaves in memory; no condition beyond each theorem's own hypotheses. -/
import Derived.Test.YtncplpbnhlodaaaGreatDoorMDrawA
import Derived.Test.YtncplpbnhlodaaaGreatDoorMChgA
set_option linter.unusedVariables false
set_option linter.unusedSimpArgs false
namespace Go.Proofs.YtncplpbnhlodaaaGreatDoor
open Go Go.RowKit Go.Bl

theorem drawText_snoc {l : List Drw} {k : Nat} (h : k < l.length) : drawText (l.take (k + 1)) = drawText (l.take k) ++ (drawLine l[k] ++ [10]) := by
  unfold drawText
  rw [take_snoc h, List.map_append, ended_append]
  simp [ended]

theorem drawText_pre (l : List Drw) (k : Nat) : (drawText (l.take k)).length ≤ (drawText l).length := by
  have e : drawText l = drawText (l.take k) ++ drawText (l.drop k) := by
    unfold drawText
    rw [← ended_append, ← List.map_append, List.take_append_drop]
  rw [e, List.length_append]
  omega

theorem joinThree_any (W V U : ByteArray) (w : World) (hW : W.size ≤ 100000) (hV : V.size ≤ 100000) (hU : U.size ≤ 100000) :
    Calls Tryz.prog 46 #[.slice (some ⟨w.heap.size, 0, none⟩) 3 3] (w.alloc (.cells #[.string W, .string V, .string U] 9)) fun e w' => ∃ J, e = .returned (.string J) ∧ Hid (J.data.toList = joined [W.data.toList, V.data.toList, U.data.toList] ++ [10]) ∧ J.size = W.size + V.size + U.size + 3 ∧ w.grownBy w' none := by
  have hs := Lib.size_eq W
  have hs2 := Lib.size_eq V
  have hs3 := Lib.size_eq U
  refine (kitJoin_any (some ⟨w.heap.size, 0, none⟩) 3 [W, V, U] _ (sl_lit w 0 [.string W, .string V, .string U] _ [W, V, U] (Nat.zero_le _) (by simp [maxLen]) (row_strT _ _ _)) (by simp) (by simp) (by simp) ?_).mono ?_
  · show (joined [W.data.toList, V.data.toList, U.data.toList]).length ≤ _
    simp only [joined, List.length_append, List.length_cons]
    omega
  · rintro e w' ⟨rfl, hg⟩
    exact ⟨_, rfl, rfl, by rw [mkB_size, List.length_append]; show (joined [W.data.toList, V.data.toList, U.data.toList]).length + 1 = _; simp only [joined, List.length_append, List.length_cons]; omega, gr_trans (gr_alloc (World.grownBy.refl w none) _) hg⟩

set_option maxHeartbeats 4000000 in
set_option maxRecDepth 100000 in
theorem drawText_any (A : Option Addr) (c : Nat) (l : List Drw) (w : World) (hl : Sl w 0 A l) (hp : txsF l = 0) (hsz : (drawText l).length ≤ 200000) (hT : Tab w) :
    Calls Tryz.prog 17 #[.slice A l.length c] w fun e w' => e = .returned (.tuple #[.string (mkB (drawText l)), .int .i64 0]) ∧ w.grownBy w' none := by
  have hC := textFault_any A c l w hl
  rw [hp] at hC
  have hm1 := hl.1
  unfold maxLen at hm1
  have hall := hide (txsF_zero hp).2
  replace hsz := hide hsz
  replace hp := hide hp
  go_enter Tryz.func17, Tryz.ntmps17
  go_wp2_with fail
  refine hC.mono ?_
  rintro e w1 ⟨rfl, hg1⟩
  clear hC
  go_upto_region 5 with fail
  obtain ⟨w5, hw5⟩ : ∃ x, x = (w1).alloc (.cells #[.pointer none, .slice none 0 0] 75) := ⟨_, rfl⟩
  have hB5 : Bld w5 (w1).heap.size (w1).heap.size [] := by rw [hw5]; exact Bld.new _ _ (Nat.le_refl _)
  have hgb5 : (w1).grownBy w5 none := by rw [hw5]; exact gr_alloc (World.grownBy.refl _ _) _
  rw [← hw5]
  clear hw5
  obtain ⟨x5, hx5⟩ : ∃ x, x = (w1).heap.size := ⟨_, rfl⟩
  rw [← hx5] at hB5 ⊢
  have hxg5 : x5 ≤ (w1).heap.size := Nat.le_of_eq hx5
  replace hx5 := hide hx5
  go_wp2_with fail
  go_loopw [15] (fun i wr => ∃ k : Nat, k ≤ l.length ∧ i = .int .i64 k ∧ Bld wr x5 x5 (drawText (l.take k)) ∧ w1.grownBy wr none) (fun i _ => l.length - (intOf i).toNat)
  case atStart => exact ⟨0, Nat.zero_le _, rfl, hB5, hgb5⟩
  case round =>
    clear hB5 hgb5
    obtain ⟨k, hk, rfl, hB, hgj⟩ := hrel
    by_cases hlt : k < l.length
    · obtain ⟨g, o, cx, rfl, hb0, hb1, rfl, hc⟩ := hl.at_ (by decide) hlt
      have c0 : wr.cell? ⟨g, o + k * 3, none⟩ = some (.int .i64 l[k].at_) := (hg1.t hgj).k (hc 0 _ rfl)
      have c1 : wr.cell? ⟨g, o + k * 3 + 1, none⟩ = some (.string l[k].spool) := (hg1.t hgj).k (hc 1 _ rfl)
      have c2 : wr.cell? ⟨g, o + k * 3 + 2, none⟩ = some (.int .i64 l[k].long) := (hg1.t hgj).k (hc 2 _ rfl)
      clear hc
      have hok := hall.out _ (List.getElem_mem hlt)
      have hsn := hide (drawText_snoc hlt)
      have hpl : (drawText (l.take k)).length ≤ 200000 := Nat.le_trans (drawText_pre l k) hsz.out
      generalize l[k] = d at *
      have hdl := drawLine_len hok
      have h1 := hok.at1
      have h2 := hok.lo1
      have sz2 := (keyB_all hok.key).2.1
      have hx : -9223372036854775808 ≤ d.at_ ∧ d.at_ ≤ 9223372036854775807 := by omega
      have hy : -9223372036854775808 ≤ d.long ∧ d.long ≤ 9223372036854775807 := by omega
      have sx : (mkB (Lib.itoa d.at_)).size ≤ 21 := by rw [mkB_size]; exact Lib.itoa_length_le _ hx.1 hx.2
      have sy : (mkB (Lib.itoa d.long)).size ≤ 21 := by rw [mkB_size]; exact Lib.itoa_length_le _ hy.1 hy.2
      clear hok h1 h2
      have hTr : Tab wr := hT.gr (hg1.t hgj)
      go_upto_region 8 with fail
      obtain ⟨w7, hw7⟩ : ∃ x, x = (wr).alloc (.cells [.int .i64 d.at_, .string d.spool, .int .i64 d.long].toArray 51) := ⟨_, rfl⟩
      have hg7 : (wr).grownBy w7 none := by rw [hw7]; exact gr_alloc (World.grownBy.refl _ _) _
      have hb7 : Box w7 (wr).heap.size 51 [.int .i64 d.at_, .string d.spool, .int .i64 d.long] := by rw [hw7]; exact Box.new _ _ _
      have hxs7 := hb7.lt
      rw [← hw7]
      clear hw7
      obtain ⟨x7, hx7⟩ : ∃ x, x = (wr).heap.size := ⟨_, rfl⟩
      rw [← hx7] at hb7 hxs7 ⊢
      have hxl7 : (wr).heap.size ≤ x7 := by omega
      clear hx7
      obtain ⟨b0, _⟩ := hb7.c 0 rfl
      obtain ⟨b1, _⟩ := hb7.c 1 rfl
      obtain ⟨b2, _⟩ := hb7.c 2 rfl
      clear c0 c1 c2
      refine wp_region_tree (fun wx => w7.grownBy wx none) [2, 1, 0, 2, 1, 2, 1, 0, 0, 0, 0] (.bl 0 (.bl 1 (.bl 3 (.bl 4 (.bl 5 (.bl 6 (.ef 2 (.ef 7 (.ef 8 (.ef 9 (.ef 10 .done))))))))))) (by kernel_rfl) (by kernel_rfl) (gr_drew (World.grownBy.refl _ _)) ?_
      obtain ⟨W1, hW1⟩ : ∃ x, x = (w7).drew := ⟨_, rfl⟩
      rw [← hW1]
      have hgW1 : (w7).grownBy W1 none := by rw [hW1]; exact gr_drew (World.grownBy.refl _ _)
      clear hW1
      refine tree_p rfl rfl rfl rfl _ rfl (by simp) (fun K hK => ?_)
      apply Exists.intro
      refine ⟨fun wq K' hK' => ?_, ?_⟩
      · go_wp2_with fail
        exact hK'
      go_simp
      refine hK _ ?_
      clear hK K
      refine tree_b rfl rfl rfl rfl _ rfl (by simp) (fun K hK => ?_)
      apply Exists.intro
      refine ⟨fun wq hq K' hK' => ?_, ?_⟩
      · have y0 := hq.k b0
        have y1 := hq.k b1
        have y2 := hq.k b2
        go_wp2_with fail
        exact hK'
      go_simp
      refine hK _ ?_
      clear hK K
      refine tree_p rfl rfl rfl rfl _ rfl (by simp) (fun K hK => ?_)
      apply Exists.intro
      refine ⟨fun wq K' hK' => ?_, ?_⟩
      · go_wp2_with fail
        exact hK'
      go_simp
      refine hK _ ?_
      clear hK K
      refine tree_b rfl rfl rfl rfl _ rfl (by simp) (fun K hK => ?_)
      apply Exists.intro
      refine ⟨fun wq hq K' hK' => ?_, ?_⟩
      · have y0 := hq.k b0
        have y1 := hq.k b1
        have y2 := hq.k b2
        go_wp2_with fail
        exact hK'
      go_simp
      refine hK _ ?_
      clear hK K
      refine tree_p rfl rfl rfl rfl _ rfl (by simp) (fun K hK => ?_)
      apply Exists.intro
      refine ⟨fun wq K' hK' => ?_, ?_⟩
      · go_wp2_with fail
        exact hK'
      go_simp
      refine hK _ ?_
      clear hK K
      refine tree_b rfl rfl rfl rfl _ rfl (by simp) (fun K hK => ?_)
      apply Exists.intro
      refine ⟨fun wq hq K' hK' => ?_, ?_⟩
      · have y0 := hq.k b0
        have y1 := hq.k b1
        have y2 := hq.k b2
        go_wp2_with fail
        exact hK'
      go_simp
      refine hK _ ?_
      clear hK K
      refine tree_e rfl rfl (fun K hK => ?_)
      go_wp2_with fail
      refine (itoa_any d.at_ W1 hx (hTr.gr (hg7.t (gr_trans hgW1 (World.grownBy.refl _ _))))).mono ?_
      rintro e w23 ⟨rfl, hg23⟩
      have hW23 : w7.grownBy w23 none := gr_trans (gr_trans hgW1 (World.grownBy.refl _ _)) hg23
      go_wp2_with fail
      try go_simp
      refine hK _ _ (hW23) ?_
      clear hK K
      refine tree_e rfl rfl (fun K hK => ?_)
      go_wp2_with fail
      refine (itoa_any d.long w23 hy (hTr.gr (hg7.t hW23))).mono ?_
      rintro e w24 ⟨rfl, hg24⟩
      have hW24 : w7.grownBy w24 none := gr_trans hW23 hg24
      go_wp2_with fail
      try go_simp
      refine hK _ _ ((by first | exact hW24 | trivial)) ?_
      clear hK K
      refine tree_e0 (by kernel_rfl) rfl rfl (fun K hK => ?_)
      go_wp2_with fail
      try go_simp
      refine hK _ _ trivial ?_
      clear hK K
      refine tree_e0 (by kernel_rfl) rfl rfl (fun K hK => ?_)
      go_wp2_with fail
      refine (joinThree_any (mkB (Lib.itoa d.at_)) d.spool (mkB (Lib.itoa d.long)) w24 (by omega) (by omega) (by omega)).mono ?_
      rintro e w26 ⟨J2, rfl, hJ2, hJs2, hg26⟩
      have hW26 : wr.grownBy w26 none := hg7.t (hW24.t hg26)
      go_wp2_with fail
      try go_simp
      refine hK _ _ trivial ?_
      clear hK K
      refine tree_e0 (by kernel_rfl) rfl rfl (fun K hK => ?_)
      go_wp2_with fail
      refine (writeString_any x5 x5 _ J2 w26 (hB.gr hW26) (by omega) (by have := (hgj.t hW26).size; omega)).mono ?_
      rintro e w27 ⟨rfl, hB27, hb27, hk27⟩
      have hgw27 := gr_bld (hgj.t hW26) hb27 hx5.out
      have hB28 : Bld w27 x5 x5 (drawText (l.take (k + 1))) := by rw [hsn.out]; rw [hJ2.out] at hB27; exact hB27
      clear hB27 hb27 hk27
      go_wp2_with fail
      try go_simp
      refine hK _ _ trivial ?_
      clear hK K
      refine tree_done ?_
      go_wp2_with fail
      exact ⟨⟨k + 1, by omega, by go_num, hB28, hgw27⟩, by simp [intOf]; omega⟩
    · obtain rfl : k = l.length := by omega
      rw [List.take_length] at hB
      have hszz := hsz.out
      have hgs := hgj.size
      have hLn := bldLen_any x5 x5 _ wr hB
      have hSt := bldString_any x5 x5 _ wr hB (by omega)
      obtain ⟨TX, hTX⟩ : ∃ t, drawText l = t := ⟨_, rfl⟩
      rw [hTX] at hLn hSt hszz
      clear hB
      have hgt : decide ((TX.length : Int) > 200000) = false := by simp; omega
      replace hTX := hide hTX
      go_wp2_with fail
      refine hLn.mono ?_
      rintro e w2 ⟨rfl, rfl⟩
      clear hLn
      go_wp2_with fail
      refine hSt.mono ?_
      rintro e w3 ⟨rfl, hb3⟩
      clear hSt
      go_wp2_with fail
      go_ret2
      rw [hTX.out]
      exact ⟨rfl, hg1.t (gr_bld hgj hb3 hx5.out)⟩

end Go.Proofs.YtncplpbnhlodaaaGreatDoor

namespace Go.Proofs.YtncplpbnhlodaaaGreatDoor
open Go Go.RowKit Go.Bl

theorem drawCat (a c : List UInt8) (s : ByteArray) : mkB a ++ mkB [32] ++ s ++ mkB [32] ++ mkB c ++ mkB [10] = mkB (joined [a, s.data.toList, c] ++ [10]) := by
  obtain ⟨b, rfl⟩ : ∃ b, s = mkB b := ⟨s.data.toList, rfl⟩
  rw [mkB_append, mkB_append, mkB_append, mkB_append, mkB_append]
  simp [joined, mkB_data]

set_option maxHeartbeats 4000000 in
set_option maxRecDepth 100000 in
theorem drawLines_any (A : Option Addr) (c : Nat) (l : List Drw) (w : World) (hl : Sl w 0 A l) (hp : txsF l = 0) (hsz : (drawText l).length ≤ 200000) (hT : Tab w) :
    Calls Tryz.prog 19 #[.slice A l.length c] w fun e w' => e = .returned (.string (mkB (drawText l))) ∧ w.grownBy w' none := by
  have hm1 := hl.1
  unfold maxLen at hm1
  have hall := hide (txsF_zero hp).2
  replace hsz := hide hsz
  replace hp := hide hp
  go_enter Tryz.func19, Tryz.ntmps19
  go_upto_region 2 with fail
  obtain ⟨w3, hw3⟩ : ∃ x, x = (w).alloc (.cells #[.pointer none, .slice none 0 0] 75) := ⟨_, rfl⟩
  have hB3 : Bld w3 (w).heap.size (w).heap.size [] := by rw [hw3]; exact Bld.new _ _ (Nat.le_refl _)
  have hgb3 : (w).grownBy w3 none := by rw [hw3]; exact gr_alloc (World.grownBy.refl _ _) _
  rw [← hw3]
  clear hw3
  obtain ⟨x3, hx3⟩ : ∃ x, x = (w).heap.size := ⟨_, rfl⟩
  rw [← hx3] at hB3 ⊢
  have hxg3 : x3 ≤ (w).heap.size := Nat.le_of_eq hx3
  replace hx3 := hide hx3
  go_wp2_with fail
  go_loopw [8] (fun i wr => ∃ k : Nat, k ≤ l.length ∧ i = .int .i64 k ∧ Bld wr x3 x3 (drawText (l.take k)) ∧ w.grownBy wr none) (fun i _ => l.length - (intOf i).toNat)
  case atStart => exact ⟨0, Nat.zero_le _, rfl, hB3, hgb3⟩
  case round =>
    clear hB3 hgb3
    obtain ⟨k, hk, rfl, hB, hgj⟩ := hrel
    by_cases hlt : k < l.length
    · obtain ⟨g, o, cx, rfl, hb0, hb1, rfl, hc⟩ := hl.at_ (by decide) hlt
      have c0 : wr.cell? ⟨g, o + k * 3, none⟩ = some (.int .i64 l[k].at_) := hgj.k (hc 0 _ rfl)
      have c1 : wr.cell? ⟨g, o + k * 3 + 1, none⟩ = some (.string l[k].spool) := hgj.k (hc 1 _ rfl)
      have c2 : wr.cell? ⟨g, o + k * 3 + 2, none⟩ = some (.int .i64 l[k].long) := hgj.k (hc 2 _ rfl)
      clear hc
      have hok := hall.out _ (List.getElem_mem hlt)
      have hsn := hide (drawText_snoc hlt)
      have hpl : (drawText (l.take k)).length ≤ 200000 := Nat.le_trans (drawText_pre l k) hsz.out
      generalize l[k] = d at *
      have hdl := drawLine_len hok
      have h1 := hok.at1
      have h2 := hok.lo1
      have sz2 := (keyB_all hok.key).2.1
      have hx : -9223372036854775808 ≤ d.at_ ∧ d.at_ ≤ 9223372036854775807 := by omega
      have hy : -9223372036854775808 ≤ d.long ∧ d.long ≤ 9223372036854775807 := by omega
      have sx : (mkB (Lib.itoa d.at_)).size ≤ 21 := by rw [mkB_size]; exact Lib.itoa_length_le _ hx.1 hx.2
      have sy : (mkB (Lib.itoa d.long)).size ≤ 21 := by rw [mkB_size]; exact Lib.itoa_length_le _ hy.1 hy.2
      clear hok h1 h2
      have hTr : Tab wr := hT.gr hgj
      go_upto_region 5 with fail
      obtain ⟨w5, hw5⟩ : ∃ x, x = (wr).alloc (.cells [.int .i64 d.at_, .string d.spool, .int .i64 d.long].toArray 51) := ⟨_, rfl⟩
      have hg5 : (wr).grownBy w5 none := by rw [hw5]; exact gr_alloc (World.grownBy.refl _ _) _
      have hb5 : Box w5 (wr).heap.size 51 [.int .i64 d.at_, .string d.spool, .int .i64 d.long] := by rw [hw5]; exact Box.new _ _ _
      have hxs5 := hb5.lt
      rw [← hw5]
      clear hw5
      obtain ⟨x5, hx5⟩ : ∃ x, x = (wr).heap.size := ⟨_, rfl⟩
      rw [← hx5] at hb5 hxs5 ⊢
      have hxl5 : (wr).heap.size ≤ x5 := by omega
      clear hx5
      obtain ⟨b0, _⟩ := hb5.c 0 rfl
      obtain ⟨b1, _⟩ := hb5.c 1 rfl
      obtain ⟨b2, _⟩ := hb5.c 2 rfl
      clear c0 c1 c2
      refine wp_region_tree (fun wx => w5.grownBy wx none) [2, 1, 0, 2, 2, 1, 2, 2, 2, 1, 0, 2, 2, 0] (.bl 0 (.bl 1 (.bl 4 (.bl 5 (.bl 8 (.bl 9 (.ef 2 (.bl 3 (.bl 6 (.bl 7 (.ef 10 (.bl 11 (.bl 12 (.ef 13 .done)))))))))))))) (by kernel_rfl) (by kernel_rfl) (gr_drew (World.grownBy.refl _ _)) ?_
      obtain ⟨W1, hW1⟩ : ∃ x, x = (w5).drew := ⟨_, rfl⟩
      rw [← hW1]
      have hgW1 : (w5).grownBy W1 none := by rw [hW1]; exact gr_drew (World.grownBy.refl _ _)
      clear hW1
      refine tree_p rfl rfl rfl rfl _ rfl (by simp) (fun K hK => ?_)
      apply Exists.intro
      refine ⟨fun wq K' hK' => ?_, ?_⟩
      · go_wp2_with fail
        exact hK'
      go_simp
      refine hK _ ?_
      clear hK K
      refine tree_b rfl rfl rfl rfl _ rfl (by simp) (fun K hK => ?_)
      apply Exists.intro
      refine ⟨fun wq hq K' hK' => ?_, ?_⟩
      · have y0 := hq.k b0
        have y1 := hq.k b1
        have y2 := hq.k b2
        go_wp2_with fail
        exact hK'
      go_simp
      refine hK _ ?_
      clear hK K
      refine tree_p rfl rfl rfl rfl _ rfl (by simp) (fun K hK => ?_)
      apply Exists.intro
      refine ⟨fun wq K' hK' => ?_, ?_⟩
      · go_wp2_with fail
        exact hK'
      go_simp
      refine hK _ ?_
      clear hK K
      refine tree_b rfl rfl rfl rfl _ rfl (by simp) (fun K hK => ?_)
      apply Exists.intro
      refine ⟨fun wq hq K' hK' => ?_, ?_⟩
      · have y0 := hq.k b0
        have y1 := hq.k b1
        have y2 := hq.k b2
        go_wp2_with fail
        exact hK'
      go_simp
      refine hK _ ?_
      clear hK K
      refine tree_p rfl rfl rfl rfl _ rfl (by simp) (fun K hK => ?_)
      apply Exists.intro
      refine ⟨fun wq K' hK' => ?_, ?_⟩
      · go_wp2_with fail
        exact hK'
      go_simp
      refine hK _ ?_
      clear hK K
      refine tree_b rfl rfl rfl rfl _ rfl (by simp) (fun K hK => ?_)
      apply Exists.intro
      refine ⟨fun wq hq K' hK' => ?_, ?_⟩
      · have y0 := hq.k b0
        have y1 := hq.k b1
        have y2 := hq.k b2
        go_wp2_with fail
        exact hK'
      go_simp
      refine hK _ ?_
      clear hK K
      refine tree_e rfl rfl (fun K hK => ?_)
      go_wp2_with fail
      refine (itoa_any d.at_ W1 hx (hTr.gr (hg5.t (gr_trans hgW1 (World.grownBy.refl _ _))))).mono ?_
      rintro e w23 ⟨rfl, hg23⟩
      have hW23 : w5.grownBy w23 none := gr_trans (gr_trans hgW1 (World.grownBy.refl _ _)) hg23
      go_wp2_with fail
      try go_simp
      refine hK _ _ (hW23) ?_
      clear hK K
      refine tree_p rfl rfl rfl rfl _ rfl (by simp) (fun K hK => ?_)
      apply Exists.intro
      refine ⟨fun wq K' hK' => ?_, ?_⟩
      · go_wp2_with fail
        exact hK'
      go_simp
      refine hK _ ?_
      clear hK K
      refine tree_p rfl rfl rfl rfl _ rfl (by simp) (fun K hK => ?_)
      apply Exists.intro
      refine ⟨fun wq K' hK' => ?_, ?_⟩
      · go_wp2_with fail
        exact hK'
      go_simp
      refine hK _ ?_
      clear hK K
      refine tree_p rfl rfl rfl rfl _ rfl (by simp) (fun K hK => ?_)
      apply Exists.intro
      refine ⟨fun wq K' hK' => ?_, ?_⟩
      · go_wp2_with fail
        exact hK'
      go_simp
      refine hK _ ?_
      clear hK K
      refine tree_e rfl rfl (fun K hK => ?_)
      go_wp2_with fail
      refine (itoa_any d.long w23 hy (hTr.gr (hg5.t hW23))).mono ?_
      rintro e w24 ⟨rfl, hg24⟩
      have hW24' : w5.grownBy w24 none := gr_trans hW23 hg24
      have hW24 : wr.grownBy w24 none := hg5.t hW24'
      go_wp2_with fail
      try go_simp
      refine hK _ _ ((by first | exact hW24' | trivial)) ?_
      clear hK K
      refine tree_p rfl rfl rfl rfl _ rfl (by simp) (fun K hK => ?_)
      apply Exists.intro
      refine ⟨fun wq K' hK' => ?_, ?_⟩
      · go_wp2_with fail
        exact hK'
      go_simp
      refine hK _ ?_
      clear hK K
      refine tree_p rfl rfl rfl rfl _ rfl (by simp) (fun K hK => ?_)
      apply Exists.intro
      refine ⟨fun wq K' hK' => ?_, ?_⟩
      · go_wp2_with fail
        exact hK'
      go_simp
      refine hK _ ?_
      clear hK K
      refine tree_e0 (by kernel_rfl) rfl rfl (fun K hK => ?_)
      go_wp2_with fail
      have hcat := drawCat (Lib.itoa d.at_) (Lib.itoa d.long) d.spool
      refine (writeString_any x3 x3 _ (mkB (Lib.itoa d.at_) ++ mkB [32] ++ d.spool ++ mkB [32] ++ mkB (Lib.itoa d.long) ++ mkB [10]) w24 (hB.gr hW24) (by rw [hcat, mkB_size, List.length_append]; change _ + ((drawLine d).length + 1) ≤ _; omega) (by have := (hgj.t hW24).size; omega)).mono ?_
      rw [hcat]
      rintro e w27 ⟨rfl, hB27, hb27, hk27⟩
      have hgw27 := gr_bld (hgj.t hW24) hb27 hx3.out
      have hB28 : Bld w27 x3 x3 (drawText (l.take (k + 1))) := by rw [hsn.out]; exact hB27
      clear hB27 hb27 hk27
      go_wp2_with fail
      try go_simp
      refine hK _ _ trivial ?_
      clear hK K
      refine tree_done ?_
      go_wp2_with fail
      exact ⟨⟨k + 1, by omega, by go_num, hB28, hgw27⟩, by simp [intOf]; omega⟩
    · obtain rfl : k = l.length := by omega
      rw [List.take_length] at hB
      have hgs := hgj.size
      have hSt := bldString_any x3 x3 _ wr hB (by omega)
      clear hB
      go_wp2_with fail
      refine hSt.mono ?_
      rintro e w3 ⟨rfl, hb3⟩
      clear hSt
      go_wp2_with fail
      go_ret
      exact ⟨rfl, gr_bld hgj hb3 hx3.out⟩

end Go.Proofs.YtncplpbnhlodaaaGreatDoor

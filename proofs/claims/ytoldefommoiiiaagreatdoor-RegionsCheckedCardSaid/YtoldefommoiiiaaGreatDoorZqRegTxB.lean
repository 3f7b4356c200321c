/- Contracts of functions that this seat's laws reach, each: what one call returns and what it leaves in memory; no condition beyond each theorem's own hypotheses. -/
import Derived.Test.YtoldefommoiiiaaGreatDoorZqRegText
import Derived.Test.YtoldefommoiiiaaGreatDoorZqChgA
import Derived.Test.YtoldefommoiiiaaGreatDoorZqRegH
set_option linter.unusedVariables false
set_option linter.unusedSimpArgs false
namespace Go.Proofs.YtoldefommoiiiaaGreatDoor
open Go Go.RowKit Go.Bl

def partR (l : List (List Pt)) (k j : Nat) : List (List UInt8) := regLines (l.take k) ++ (ringLines (l.getD k [])).take j

theorem partR_zero (l : List (List Pt)) : partR l 0 0 = [] := by simp [partR, regLines]

theorem regLines_append (a b : List (List Pt)) : regLines (a ++ b) = regLines a ++ regLines b := by simp [regLines]

theorem regLines_cons (p : List Pt) (b : List (List Pt)) : regLines (p :: b) = ringLines p ++ regLines b := by simp [regLines]

theorem partR_pre {l : List (List Pt)} {k j : Nat} (h : k < l.length) : partR l k j <+: regLines l := by
  have e : l = l.take k ++ l[k] :: l.drop (k + 1) := by rw [← List.drop_eq_getElem_cons h, List.take_append_drop]
  have hd : l.getD k [] = l[k] := by simp [List.getD, h]
  unfold partR
  rw [hd]
  conv => rhs; rw [e]
  rw [regLines_append, regLines_cons]
  exact (List.prefix_append_right_inj _).2 ((List.take_prefix j _).trans (List.prefix_append _ _))

theorem partR_head {l : List (List Pt)} {k : Nat} (h : k < l.length) : partR l k 1 = partR l k 0 ++ [ringT] := by
  have hd : l.getD k [] = l[k] := by simp [List.getD, h]
  unfold partR
  rw [hd]
  simp [ringLines]

theorem partR_pt {l : List (List Pt)} {k j : Nat} (h : k < l.length) (hj : j < l[k].length) : partR l k (j + 2) = partR l k (j + 1) ++ [ptLine l[k][j]] := by
  have hd : l.getD k [] = l[k] := by simp [List.getD, h]
  unfold partR
  rw [hd]
  unfold ringLines
  rw [List.take_succ_cons, List.take_succ_cons, List.append_assoc, List.cons_append, ← List.map_take, ← List.map_take, List.take_succ_eq_append_getElem hj, List.map_append]
  rfl

theorem partR_next {l : List (List Pt)} {k : Nat} (h : k < l.length) : partR l k (l[k].length + 1) = partR l (k + 1) 0 := by
  have hd : l.getD k [] = l[k] := by simp [List.getD, h]
  have e : (ringLines l[k]).take (l[k].length + 1) = ringLines l[k] := List.take_of_length_le (by simp [ringLines])
  unfold partR
  rw [hd, e, List.take_succ_eq_append_getElem h, regLines_append, List.take_zero, List.append_nil]
  simp [regLines]

theorem partR_all (l : List (List Pt)) : ended (partR l l.length 0) = regText l := by unfold partR regText; simp

set_option maxHeartbeats 4000000 in
set_option maxRecDepth 100000 in
theorem regText_any (A : Option Addr) (c : Nat) (l : List (List Pt)) (w : World) (hl : Sl w 0 A l) (hp : regF l = 0) (hT : Tab w) :
    Calls Tryz.prog 11 #[.slice A l.length c] w fun e w' => e = .returned (.tuple #[.string (mkB (regText l)), .int .i64 0]) ∧ w.grownBy w' none := by
  have hC := checkRegion_any A c l w hl (by have := (reg_size hp).2; omega)
  rw [hp] at hC
  have hm1 := hl.1
  unfold maxLen at hm1
  have hps : Hid (∀ p ∈ l, p.length ≤ 500 ∧ ∀ q ∈ p, near q) := fun p hpm => by
    have hb := reg_bd hp p hpm
    exact ⟨reg_len hp p hpm, fun q hq => by have := hb q hq; unfold bdP at this; unfold near; omega⟩
  have hsz := regText_len hp
  replace hsz := hide hsz
  replace hp := hide hp
  go_enter Tryz.func11, Tryz.ntmps11
  go_wp2_with fail
  refine hC.mono ?_
  rintro e w1 ⟨rfl, hg1⟩
  clear hC
  go_upto_region 5 with fail
  obtain ⟨w5, hw5⟩ : ∃ x, x = (w1).alloc (.cells #[.pointer none, .slice none 0 0] 74) := ⟨_, rfl⟩
  have hB5 : Bld w5 (w1).heap.size (w1).heap.size [] := by rw [hw5]; exact Bld.new _ _ (Nat.le_refl _)
  have hgb5 : (w1).grownBy w5 none := by rw [hw5]; exact gr_alloc (World.grownBy.refl _ _) _
  rw [← hw5]
  clear hw5
  obtain ⟨x5, hx5⟩ : ∃ x, x = (w1).heap.size := ⟨_, rfl⟩
  rw [← hx5] at hB5 ⊢
  have hxg5 : x5 ≤ (w1).heap.size := Nat.le_of_eq hx5
  replace hx5 := hide hx5
  go_wp2_with fail
  go_loopw [17] (fun i wr => ∃ k : Nat, k ≤ l.length ∧ i = .int .i64 k ∧ Bld wr x5 x5 (ended (partR l k 0)) ∧ w1.grownBy wr none) (fun i _ => l.length - (intOf i).toNat)
  case atStart => exact ⟨0, Nat.zero_le _, rfl, by rw [partR_zero]; exact hB5, hgb5⟩
  case round =>
    clear hB5 hgb5
    obtain ⟨k, hk, rfl, hB, hg⟩ := hrel
    obtain ⟨w7, rfl⟩ : ∃ x, x = wr := ⟨wr, rfl⟩
    by_cases hlt : k < l.length
    · obtain ⟨g, o, A', c', rfl, hb1, c0, hcp, hpts⟩ := sl_inner' hl hlt
      replace c0 := (hg1.t hg).k c0
      obtain ⟨hp5, hpn⟩ := hps.out _ (List.getElem_mem hlt)
      have hpre : Hid (∀ j, (ended (partR l k j)).length ≤ 200000) := fun j => Nat.le_trans (ended_pre (partR_pre hlt)) (by have := hsz.out; unfold regText at this; omega)
      have hhd := hide (partR_head hlt)
      have hpt := hide (fun j => partR_pt (j := j) hlt)
      have hnx := hide (partR_next hlt)
      have hpn2 := hide hpn
      generalize hpk : l[k] = p at *
      clear hpk hpn
      have hb7n := hg.size
      have hx57 : x5 < w7.heap.size := hB.lt
      go_wp2_with fail
      refine (joinOne_any ⟨#[114, 105, 110, 103]⟩ w7 (show (#[114, 105, 110, 103] : Array UInt8).size ≤ 1000000 by decide)).mono ?_
      rintro e w8 ⟨J, rfl, hJ, hJs, hg78⟩
      have hJs2 : J.size ≤ 10 := by rw [hJs]; decide
      clear hJs
      go_wp2_with fail
      refine (writeString_any x5 x5 _ J w8 (hB.gr hg78) ?_ ?_).mono ?_
      · have := hpre.out 0
        omega
      · have := hg78.size; omega
      rintro e w9 ⟨rfl, hB9, hb9, hk9⟩
      have hB9' : Bld w9 x5 x5 (ended (partR l k 1)) := by rw [hhd.out, ended_one]; rw [hJ.out] at hB9; exact hB9
      have hg9 := gr_bld (hg.t hg78) hb9 hx5.out
      clear hB9 hB hhd hk9 hb9 c0
      go_wp2_with fail
      go_loopw [26] (fun i wr => ∃ j : Nat, j ≤ p.length ∧ i = .int .i64 j ∧ Bld wr x5 x5 (ended (partR l k (j + 1))) ∧ w1.grownBy wr none) (fun i _ => p.length - (intOf i).toNat)
      case atStart => exact ⟨0, Nat.zero_le _, rfl, hB9', hg9⟩
      case round =>
        clear hB9' hg9
        obtain ⟨j, hj, rfl, hB, hgj⟩ := hrel
        by_cases hjl : j < p.length
        · obtain ⟨g', o', cx, rfl, hb0', hb1', rfl, hc'⟩ := hpts.at_ (by decide) hjl
          have v0 : wr.cell? ⟨g', o' + j * 2, none⟩ = some (.int .i64 p[j].x) := (hg1.t hgj).k (hc' 0 _ rfl)
          have v1 : wr.cell? ⟨g', o' + j * 2 + 1, none⟩ = some (.int .i64 p[j].y) := (hg1.t hgj).k (hc' 1 _ rfl)
          clear hc'
          have hnr := hpn2.out _ (List.getElem_mem hjl)
          have hptj := hide (hpt.out j hjl)
          have hpl := hpre.out (j + 1)
          generalize p[j] = q at *
          have hql := ptLine_len hnr
          unfold near at hnr
          have hx : -9223372036854775808 ≤ q.x ∧ q.x ≤ 9223372036854775807 := by omega
          have hy : -9223372036854775808 ≤ q.y ∧ q.y ≤ 9223372036854775807 := by omega
          have sx : (mkB (Lib.itoa q.x)).size ≤ 21 := by rw [mkB_size]; exact Lib.itoa_length_le _ hx.1 hx.2
          have sy : (mkB (Lib.itoa q.y)).size ≤ 21 := by rw [mkB_size]; exact Lib.itoa_length_le _ hy.1 hy.2
          have hTr : Tab wr := hT.gr (hg1.t hgj)
          go_upto_region 12 with fail
          obtain ⟨w10, hw10⟩ : ∃ x, x = (wr).alloc (.cells [.int .i64 q.x, .int .i64 q.y].toArray 45) := ⟨_, rfl⟩
          have hg10 : (wr).grownBy w10 none := by rw [hw10]; exact gr_alloc (World.grownBy.refl _ _) _
          have hb10 : Box w10 (wr).heap.size 45 [.int .i64 q.x, .int .i64 q.y] := by rw [hw10]; exact Box.new _ _ _
          have hxs10 := hb10.lt
          rw [← hw10]
          clear hw10
          obtain ⟨x10, hx10⟩ : ∃ x, x = (wr).heap.size := ⟨_, rfl⟩
          rw [← hx10] at hb10 hxs10 ⊢
          have hxl10 : (wr).heap.size ≤ x10 := by omega
          clear hx10
          obtain ⟨b0, _⟩ := hb10.c 0 rfl
          obtain ⟨b1, _⟩ := hb10.c 1 rfl
          clear v0 v1
          refine wp_region_tree (fun wx => w10.grownBy wx none) [2, 1, 0, 2, 1, 0, 0, 0, 0] (.bl 0 (.bl 1 (.bl 3 (.bl 4 (.ef 2 (.ef 5 (.ef 6 (.ef 7 (.ef 8 .done))))))))) (by kernel_rfl) (by kernel_rfl) (gr_drew (World.grownBy.refl _ _)) ?_
          obtain ⟨W1, hW1⟩ : ∃ x, x = (w10).drew := ⟨_, rfl⟩
          rw [← hW1]
          have hgW1 : (w10).grownBy W1 none := by rw [hW1]; exact gr_drew (World.grownBy.refl _ _)
          clear hW1
          refine tree_p rfl rfl rfl rfl _ rfl (by simp) (fun K hK => ?_)
          apply Exists.intro
          refine ⟨fun wq K' hK' => ?_, ?_⟩
          · go_wp2_with fail
            exact hK'
          go_simp
          refine hK _ ?_
          clear hK K
          refine tree_b rfl rfl rfl rfl _ rfl (by simp) (fun K hK => ?_)
          apply Exists.intro
          refine ⟨fun wq hq K' hK' => ?_, ?_⟩
          · have y0 := hq.k b0
            have y1 := hq.k b1
            go_wp2_with fail
            exact hK'
          go_simp
          refine hK _ ?_
          clear hK K
          refine tree_p rfl rfl rfl rfl _ rfl (by simp) (fun K hK => ?_)
          apply Exists.intro
          refine ⟨fun wq K' hK' => ?_, ?_⟩
          · go_wp2_with fail
            exact hK'
          go_simp
          refine hK _ ?_
          clear hK K
          refine tree_b rfl rfl rfl rfl _ rfl (by simp) (fun K hK => ?_)
          apply Exists.intro
          refine ⟨fun wq hq K' hK' => ?_, ?_⟩
          · have y0 := hq.k b0
            have y1 := hq.k b1
            go_wp2_with fail
            exact hK'
          go_simp
          refine hK _ ?_
          clear hK K
          refine tree_e rfl rfl (fun K hK => ?_)
          go_wp2_with fail
          refine (itoa_any q.x W1 hx (hTr.gr (hg10.t (gr_trans hgW1 (World.grownBy.refl _ _))))).mono ?_
          rintro e w23 ⟨rfl, hg23⟩
          have hW23 : w10.grownBy w23 none := gr_trans (gr_trans hgW1 (World.grownBy.refl _ _)) hg23
          go_wp2_with fail
          try go_simp
          refine hK _ _ (hW23) ?_
          clear hK K
          refine tree_e0 (by kernel_rfl) rfl rfl (fun K hK => ?_)
          go_wp2_with fail
          refine (itoa_any q.y w23 hy (hTr.gr (hg10.t hW23))).mono ?_
          rintro e w24 ⟨rfl, hg24⟩
          have hW24 : w10.grownBy w24 none := gr_trans hW23 hg24
          go_wp2_with fail
          try go_simp
          refine hK _ _ trivial ?_
          clear hK K
          refine tree_e0 (by kernel_rfl) rfl rfl (fun K hK => ?_)
          go_wp2_with fail
          try go_simp
          refine hK _ _ trivial ?_
          clear hK K
          refine tree_e0 (by kernel_rfl) rfl rfl (fun K hK => ?_)
          go_wp2_with fail
          refine (joinTwo_any (mkB (Lib.itoa q.x)) (mkB (Lib.itoa q.y)) w24 (by omega) (by omega)).mono ?_
          rintro e w26 ⟨J2, rfl, hJ2, hJs2, hg26⟩
          have hW26 : wr.grownBy w26 none := hg10.t (hW24.t hg26)
          go_wp2_with fail
          try go_simp
          refine hK _ _ trivial ?_
          clear hK K
          refine tree_e0 (by kernel_rfl) rfl rfl (fun K hK => ?_)
          go_wp2_with fail
          refine (writeString_any x5 x5 _ J2 w26 (hB.gr hW26) (by omega) (by have := (hgj.t hW26).size; omega)).mono ?_
          rintro e w27 ⟨rfl, hB27, hb27, hk27⟩
          have hgw27 := gr_bld (hgj.t hW26) hb27 hx5.out
          have hB28 : Bld w27 x5 x5 (ended (partR l k (j + 2))) := by rw [hptj.out, ended_one]; rw [hJ2.out] at hB27; exact hB27
          clear hB27 hb27 hk27
          go_wp2_with fail
          try go_simp
          refine hK _ _ trivial ?_
          clear hK K
          refine tree_done ?_
          go_wp2_with fail
          exact ⟨⟨j + 1, by omega, by go_num, hB28, hgw27⟩, by simp [intOf]; omega⟩
        · obtain rfl : j = p.length := by omega
          rw [hnx.out] at hB
          go_wp2_with fail
          exact ⟨⟨k + 1, by omega, by go_num, hB, hgj⟩, by simp [intOf]; omega⟩
    · obtain rfl : k = l.length := by omega
      rw [partR_all] at hB
      have hszz := hsz.out
      have hgs := hg.size
      have hLn := bldLen_any x5 x5 _ w7 hB
      have hSt := bldString_any x5 x5 _ w7 hB (by omega)
      obtain ⟨TX, hTX⟩ : ∃ t, regText l = t := ⟨_, rfl⟩
      rw [hTX] at hLn hSt hszz
      clear hB
      have hgt : decide ((TX.length : Int) > 200000) = false := by simp; omega
      replace hTX := hide hTX
      go_wp2_with fail
      refine hLn.mono ?_
      rintro e w2 ⟨rfl, rfl⟩
      clear hLn
      go_wp2_with fail
      refine hSt.mono ?_
      rintro e w3 ⟨rfl, hb3⟩
      clear hSt
      go_wp2_with fail
      go_ret2
      rw [hTX.out]
      exact ⟨rfl, hg1.t (gr_bld hg hb3 hx5.out)⟩

set_option maxHeartbeats 1000000 in
theorem regText_bad (A : Option Addr) (c : Nat) (l : List (List Pt)) (w : World) (hl : Sl w 0 A l) (hfl : (flatK l l.length).length ≤ 1000000) (hp : regF l ≠ 0) :
    Calls Tryz.prog 11 #[.slice A l.length c] w fun e w' => e = .returned (.tuple #[.string ⟨#[]⟩, .int .i64 (regF l)]) ∧ w.grownBy w' none := by
  have hC := checkRegion_any A c l w hl hfl
  have hb : (regF l != 0) = true := by simp [hp]
  obtain ⟨F, hF⟩ : ∃ F, regF l = F := ⟨_, rfl⟩
  rw [hF] at hC hb ⊢
  replace hp := hide hp
  go_enter Tryz.func11, Tryz.ntmps11
  go_wp2_with fail
  refine hC.mono ?_
  rintro e w1 ⟨rfl, hg1⟩
  clear hC
  go_wp2_with fail
  go_ret2
  exact ⟨rfl, hg1⟩

end Go.Proofs.YtoldefommoiiiaaGreatDoor

namespace Go.Proofs.YtoldefommoiiiaaGreatDoor
open Go Go.RowKit Go.Bl

set_option maxHeartbeats 4000000 in
set_option maxRecDepth 100000 in
theorem regLines_any (A : Option Addr) (c : Nat) (l : List (List Pt)) (w : World) (hl : Sl w 0 A l) (hp : regF l = 0) (hT : Tab w) :
    Calls Tryz.prog 12 #[.slice A l.length c] w fun e w' => e = .returned (.string (mkB (regText l))) ∧ w.grownBy w' none := by
  have hm1 := hl.1
  unfold maxLen at hm1
  have hps : Hid (∀ p ∈ l, p.length ≤ 500 ∧ ∀ q ∈ p, near q) := fun p hpm => by
    have hb := reg_bd hp p hpm
    exact ⟨reg_len hp p hpm, fun q hq => by have := hb q hq; unfold bdP at this; unfold near; omega⟩
  have hsz := regText_len hp
  replace hsz := hide hsz
  replace hp := hide hp
  go_enter Tryz.func12, Tryz.ntmps12
  go_upto_region 2 with fail
  obtain ⟨w5, hw5⟩ : ∃ x, x = (w).alloc (.cells #[.pointer none, .slice none 0 0] 74) := ⟨_, rfl⟩
  have hB5 : Bld w5 (w).heap.size (w).heap.size [] := by rw [hw5]; exact Bld.new _ _ (Nat.le_refl _)
  have hgb5 : (w).grownBy w5 none := by rw [hw5]; exact gr_alloc (World.grownBy.refl _ _) _
  rw [← hw5]
  clear hw5
  obtain ⟨x5, hx5⟩ : ∃ x, x = (w).heap.size := ⟨_, rfl⟩
  rw [← hx5] at hB5 ⊢
  have hxg5 : x5 ≤ (w).heap.size := Nat.le_of_eq hx5
  replace hx5 := hide hx5
  go_wp2_with fail
  go_loopw [10] (fun i wr => ∃ k : Nat, k ≤ l.length ∧ i = .int .i64 k ∧ Bld wr x5 x5 (ended (partR l k 0)) ∧ w.grownBy wr none) (fun i _ => l.length - (intOf i).toNat)
  case atStart => exact ⟨0, Nat.zero_le _, rfl, by rw [partR_zero]; exact hB5, hgb5⟩
  case round =>
    clear hB5 hgb5
    obtain ⟨k, hk, rfl, hB, hg⟩ := hrel
    obtain ⟨w7, rfl⟩ : ∃ x, x = wr := ⟨wr, rfl⟩
    by_cases hlt : k < l.length
    · obtain ⟨g, o, A', c', rfl, hb1, c0, hcp, hpts⟩ := sl_inner' hl hlt
      replace c0 := hg.k c0
      obtain ⟨hp5, hpn⟩ := hps.out _ (List.getElem_mem hlt)
      have hpre : Hid (∀ j, (ended (partR l k j)).length ≤ 200000) := fun j => Nat.le_trans (ended_pre (partR_pre hlt)) (by have := hsz.out; unfold regText at this; omega)
      have hhd := hide (partR_head hlt)
      have hpt := hide (fun j => partR_pt (j := j) hlt)
      have hnx := hide (partR_next hlt)
      have hpn2 := hide hpn
      generalize hpk : l[k] = p at *
      clear hpk hpn
      have hb7n := hg.size
      have hx57 : x5 < w7.heap.size := hB.lt
      go_wp2_with fail
      refine (writeString_any x5 x5 _ ⟨#[114, 105, 110, 103, 10]⟩ w7 hB (by have := hpre.out 0; show _ + (#[114, 105, 110, 103, 10] : Array UInt8).size ≤ _; simp; omega) (by omega)).mono ?_
      rintro e w9 ⟨rfl, hB9, hb9, hk9⟩
      have hB9' : Bld w9 x5 x5 (ended (partR l k 1)) := by rw [hhd.out, ended_one]; exact hB9
      have hg9 := gr_bld hg hb9 hx5.out
      clear hB9 hB hhd hk9 hb9 c0
      go_wp2_with fail
      go_loopw [17] (fun i wr => ∃ j : Nat, j ≤ p.length ∧ i = .int .i64 j ∧ Bld wr x5 x5 (ended (partR l k (j + 1))) ∧ w.grownBy wr none) (fun i _ => p.length - (intOf i).toNat)
      case atStart => exact ⟨0, Nat.zero_le _, rfl, hB9', hg9⟩
      case round =>
        clear hB9' hg9
        obtain ⟨j, hj, rfl, hB, hgj⟩ := hrel
        by_cases hjl : j < p.length
        · obtain ⟨g', o', cx, rfl, hb0', hb1', rfl, hc'⟩ := hpts.at_ (by decide) hjl
          have v0 : wr.cell? ⟨g', o' + j * 2, none⟩ = some (.int .i64 p[j].x) := hgj.k (hc' 0 _ rfl)
          have v1 : wr.cell? ⟨g', o' + j * 2 + 1, none⟩ = some (.int .i64 p[j].y) := hgj.k (hc' 1 _ rfl)
          clear hc'
          have hnr := hpn2.out _ (List.getElem_mem hjl)
          have hptj := hide (hpt.out j hjl)
          have hpl := hpre.out (j + 1)
          generalize p[j] = q at *
          have hql := ptLine_len hnr
          have hTr : Tab wr := hT.gr hgj
          have hPL := fun wx => pointLine_any q wx hnr
          replace hnr := hide hnr
          go_upto_region 9 with fail
          obtain ⟨w10, hw10⟩ : ∃ x, x = (wr).alloc (.cells [.int .i64 q.x, .int .i64 q.y].toArray 45) := ⟨_, rfl⟩
          have hg10 : (wr).grownBy w10 none := by rw [hw10]; exact gr_alloc (World.grownBy.refl _ _) _
          have hb10 : Box w10 (wr).heap.size 45 [.int .i64 q.x, .int .i64 q.y] := by rw [hw10]; exact Box.new _ _ _
          have hxs10 := hb10.lt
          rw [← hw10]
          clear hw10
          obtain ⟨x10, hx10⟩ : ∃ x, x = (wr).heap.size := ⟨_, rfl⟩
          rw [← hx10] at hb10 hxs10 ⊢
          have hxl10 : (wr).heap.size ≤ x10 := by omega
          clear hx10
          obtain ⟨b0, _⟩ := hb10.c 0 rfl
          obtain ⟨b1, _⟩ := hb10.c 1 rfl
          clear v0 v1
          go_wp2_with fail
          refine (hPL _ (hTr.gr hg10)).mono ?_
          rintro e w26 ⟨rfl, hg26⟩
          clear hPL
          have hW26 : wr.grownBy w26 none := hg10.t hg26
          obtain ⟨J2, hJ2⟩ : ∃ J, mkB (ptLine q ++ [10]) = J := ⟨_, rfl⟩
          rw [hJ2]
          have hJs : J2.size ≤ 51 := by rw [← hJ2, mkB_size, List.length_append]; show _ + 1 ≤ _; omega
          have hJd : Hid (J2.data.toList = ptLine q ++ [10]) := by rw [← hJ2]; rfl
          clear hJ2
          go_wp2_with fail
          refine (writeString_any x5 x5 _ J2 w26 (hB.gr hW26) (by omega) (by have := (hgj.t hW26).size; omega)).mono ?_
          rintro e w27 ⟨rfl, hB27, hb27, hk27⟩
          have hgw27 := gr_bld (hgj.t hW26) hb27 hx5.out
          have hB28 : Bld w27 x5 x5 (ended (partR l k (j + 2))) := by rw [hptj.out, ended_one]; rw [hJd.out] at hB27; exact hB27
          clear hB27 hb27 hk27
          go_wp2_with fail
          exact ⟨⟨j + 1, by omega, by go_num, hB28, hgw27⟩, by simp [intOf]; omega⟩
        · obtain rfl : j = p.length := by omega
          rw [hnx.out] at hB
          go_wp2_with fail
          exact ⟨⟨k + 1, by omega, by go_num, hB, hgj⟩, by simp [intOf]; omega⟩
    · obtain rfl : k = l.length := by omega
      rw [partR_all] at hB
      have hgs := hg.size
      have hSt := bldString_any x5 x5 _ w7 hB (by omega)
      clear hB
      go_wp2_with fail
      refine hSt.mono ?_
      rintro e w3 ⟨rfl, hb3⟩
      clear hSt
      go_wp2_with fail
      go_ret
      exact ⟨rfl, gr_bld hg hb3 hx5.out⟩

end Go.Proofs.YtoldefommoiiiaaGreatDoor

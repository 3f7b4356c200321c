/- Contracts of functions that this seat's laws reach, each: what one call returns and what it leaves in memory; no condition beyond each theorem's own hypotheses. -/
import Derived.Test.YtcglkjpfnnehhaaGreatDoorZqMTextData
import Derived.Test.YtcglkjpfnnehhaaGreatDoorZqChgA
import Derived.Test.YtcglkjpfnnehhaaGreatDoorZqMeshH
set_option linter.unusedVariables false
set_option linter.unusedSimpArgs false
namespace Go.Proofs.YtcglkjpfnnehhaaGreatDoor
open Go Go.RowKit Go.Bl

def mTxt (vs : List V3) (fs : List Fc) : List UInt8 := ended (vs.map vLine ++ fs.map fLine)

theorem ended_one1 (x : List UInt8) : ended [x] = x ++ [10] := by simp [ended]

theorem mTxt_v {vs : List V3} {k : Nat} (h : k < vs.length) : mTxt (vs.take (k + 1)) [] = mTxt (vs.take k) [] ++ (vLine vs[k] ++ [10]) := by
  unfold mTxt
  rw [take_snoc h]
  simp only [List.map_append, List.map_cons, List.map_nil, List.append_nil, ended_append, ended_one1, List.append_assoc]

theorem mTxt_f {vs : List V3} {fs : List Fc} {k : Nat} (h : k < fs.length) : mTxt vs (fs.take (k + 1)) = mTxt vs (fs.take k) ++ (fLine fs[k] ++ [10]) := by
  unfold mTxt
  rw [take_snoc h]
  simp only [List.map_append, List.map_cons, List.map_nil, List.append_nil, ended_append, ended_one1, List.append_assoc]

theorem mTxt_len {vs : List V3} {fs : List Fc} (h : MOk ⟨vs, fs⟩) (i j : Nat) : (mTxt (vs.take i) (fs.take j)).length ≤ 136000 :=
  meshText_len (m := ⟨vs.take i, fs.take j⟩) ⟨fun v hv => h.v v (List.mem_of_mem_take hv), fun f hf => h.f f (List.mem_of_mem_take hf), by have := h.nv; simp at this ⊢; omega, by have := h.nf; simp at this ⊢; omega⟩

theorem joinRow_any (t : UInt8) (a b c : Int) (w : World) (h : Bd 200000 ⟨a, b, c⟩) :
    Calls Tryz.prog 35 #[.slice (some ⟨w.heap.size, 0, none⟩) 4 4] (w.alloc (.cells #[.string ⟨#[t]⟩, .string (mkB (Lib.itoa a)), .string (mkB (Lib.itoa b)), .string (mkB (Lib.itoa c))] 9)) fun e w' => ∃ J, e = .returned (.string J) ∧ Hid (J.data.toList = joined [[t], Lib.itoa a, Lib.itoa b, Lib.itoa c] ++ [10]) ∧ J.size ≤ 68 ∧ w.grownBy w' none := by
  have hl := mrow_len t h
  refine (kitJoin_any (some ⟨w.heap.size, 0, none⟩) 4 [⟨#[t]⟩, mkB (Lib.itoa a), mkB (Lib.itoa b), mkB (Lib.itoa c)] _ (sl_lit w 0 [.string ⟨#[t]⟩, .string (mkB (Lib.itoa a)), .string (mkB (Lib.itoa b)), .string (mkB (Lib.itoa c))] _ [⟨#[t]⟩, mkB (Lib.itoa a), mkB (Lib.itoa b), mkB (Lib.itoa c)] (Nat.zero_le _) (by simp [maxLen]) (row_strT _ _ _)) (by simp) (by simp) (by simp) ?_).mono ?_
  · show (joined [[t], Lib.itoa a, Lib.itoa b, Lib.itoa c]).length ≤ _
    omega
  · rintro e w' ⟨rfl, hg⟩
    exact ⟨_, rfl, rfl, by rw [mkB_size, List.length_append]; show (joined [[t], Lib.itoa a, Lib.itoa b, Lib.itoa c]).length + 1 ≤ _; omega, gr_trans (gr_alloc (World.grownBy.refl w none) _) hg⟩

theorem textLen_bld {w wr : World} (h : w.grownBy wr none) : w.heap.size ≤ wr.heap.size := h.size

set_option maxHeartbeats 4000000 in
set_option maxRecDepth 100000 in
theorem meshText_any (A : Option Addr) (c : Nat) (vs : List V3) (B : Option Addr) (d : Nat) (fs : List Fc) (w : World) (hl : Sl w 0 A vs) (hm : Sl w 0 B fs) (hp : meshF ⟨vs, fs⟩ = 0) (hT : Tab w) :
    Calls Tryz.prog 9 #[.agg #[.slice A vs.length c, .slice B fs.length d]] w fun e w' => e = .returned (.tuple #[.string (mkB (meshText ⟨vs, fs⟩)), .int .i64 0]) ∧ w.grownBy w' none := by
  have hC := fun wx (hx : w.grownBy wx none) => checkMesh_any A c vs B d fs wx (hl.pure hx) (hm.pure hx)
  rw [hp] at hC
  have hok := meshF_ok0 hp
  have hln := fun i j => mTxt_len hok i j
  have hfin : Hid (meshText ⟨vs, fs⟩ = mTxt vs fs) := rfl
  have hnv := hok.nv
  have hnf := hok.nf
  simp only at hnv hnf
  replace hok := hide hok
  replace hln := hide hln
  replace hp := hide hp
  go_enter Tryz.func9, Tryz.ntmps9
  go_upto_region 1 with fail
  obtain ⟨w0, hw0⟩ : ∃ x, x = (w).alloc (.cells [.slice A vs.length c, .slice B fs.length d].toArray 29) := ⟨_, rfl⟩
  have hg0 : (w).grownBy w0 none := by rw [hw0]; exact gr_alloc (World.grownBy.refl _ _) _
  have hb0 : Box w0 (w).heap.size 29 [.slice A vs.length c, .slice B fs.length d] := by rw [hw0]; exact Box.new _ _ _
  have hxs0 := hb0.lt
  rw [← hw0]
  clear hw0
  obtain ⟨x0, hx0⟩ : ∃ x, x = (w).heap.size := ⟨_, rfl⟩
  rw [← hx0] at hb0 hxs0 ⊢
  have hxl0 : (w).heap.size ≤ x0 := by omega
  clear hx0
  obtain ⟨n0, _⟩ := hb0.c 0 rfl
  obtain ⟨n1, _⟩ := hb0.c 1 rfl
  go_wp2_with fail
  refine (hC _ hg0).mono ?_
  rintro e w1 ⟨rfl, hg1⟩
  clear hC n0 n1
  have hw1 := hg0.t hg1
  replace hb0 := hb0.pure hg1
  clear hg0 hg1
  go_upto_region 5 with fail
  obtain ⟨w4, hw4⟩ : ∃ x, x = (w1).alloc (.cells #[.pointer none, .slice none 0 0] 71) := ⟨_, rfl⟩
  have hB4 : Bld w4 (w1).heap.size (w1).heap.size [] := by rw [hw4]; exact Bld.new _ _ (Nat.le_refl _)
  have hgb4 : (w1).grownBy w4 none := by rw [hw4]; exact gr_alloc (World.grownBy.refl _ _) _
  rw [← hw4]
  clear hw4
  obtain ⟨x4, hx4⟩ : ∃ x, x = (w1).heap.size := ⟨_, rfl⟩
  rw [← hx4] at hB4 ⊢
  have hxg4 : x4 ≤ (w1).heap.size := Nat.le_of_eq hx4
  replace hx4 := hide hx4
  obtain ⟨n0, _⟩ := (hb0.pure hgb4).c 0 rfl
  go_wp2_with fail
  clear n0
  go_loopw [18] (fun i wr => ∃ k : Nat, k ≤ vs.length ∧ i = .int .i64 k ∧ Bld wr x4 x4 (mTxt (vs.take k) []) ∧ w1.grownBy wr none) (fun i _ => vs.length - (intOf i).toNat)
  case atStart => exact ⟨0, Nat.zero_le _, rfl, hB4, hgb4⟩
  case round =>
    clear hB4 hgb4
    obtain ⟨k, hk, rfl, hB, hgj⟩ := hrel
    by_cases hlt : k < vs.length
    · obtain ⟨g, o, cx, rfl, hb0', hb1, rfl, hc⟩ := hl.at_ (by decide) hlt
      have c0 : wr.cell? ⟨g, o + k * 3, none⟩ = some (.int .i64 vs[k].x) := (hw1.t hgj).k (hc 0 _ rfl)
      have c1 : wr.cell? ⟨g, o + k * 3 + 1, none⟩ = some (.int .i64 vs[k].y) := (hw1.t hgj).k (hc 1 _ rfl)
      have c2 : wr.cell? ⟨g, o + k * 3 + 2, none⟩ = some (.int .i64 vs[k].z) := (hw1.t hgj).k (hc 2 _ rfl)
      clear hc
      have hbd := hok.out.v _ (List.getElem_mem hlt)
      have hsn := hide (mTxt_v hlt)
      have hpl := hln.out k 0
      rw [List.take_zero] at hpl
      generalize vs[k] = q at *
      have hx : -9223372036854775808 ≤ q.x ∧ q.x ≤ 9223372036854775807 := by have := hbd; unfold Bd at this; (try simp only at this); omega
      have hy : -9223372036854775808 ≤ q.y ∧ q.y ≤ 9223372036854775807 := by have := hbd; unfold Bd at this; (try simp only at this); omega
      have hz : -9223372036854775808 ≤ q.z ∧ q.z ≤ 9223372036854775807 := by have := hbd; unfold Bd at this; (try simp only at this); omega
      have hTr : Tab wr := hT.gr (hw1.t hgj)
      go_upto_region 8 with fail
      obtain ⟨w7, hw7⟩ : ∃ x, x = (wr).alloc (.cells [.int .i64 q.x, .int .i64 q.y, .int .i64 q.z].toArray 46) := ⟨_, rfl⟩
      have hg7 : (wr).grownBy w7 none := by rw [hw7]; exact gr_alloc (World.grownBy.refl _ _) _
      have hb7 : Box w7 (wr).heap.size 46 [.int .i64 q.x, .int .i64 q.y, .int .i64 q.z] := by rw [hw7]; exact Box.new _ _ _
      have hxs7 := hb7.lt
      rw [← hw7]
      clear hw7
      obtain ⟨x7, hx7⟩ : ∃ x, x = (wr).heap.size := ⟨_, rfl⟩
      rw [← hx7] at hb7 hxs7 ⊢
      have hxl7 : (wr).heap.size ≤ x7 := by omega
      clear hx7
      obtain ⟨b0, _⟩ := hb7.c 0 rfl
      obtain ⟨b1, _⟩ := hb7.c 1 rfl
      obtain ⟨b2, _⟩ := hb7.c 2 rfl
      clear c0 c1 c2
      refine wp_region_tree (fun wx => w7.grownBy wx none) [2, 1, 0, 2, 1, 0, 2, 1, 0, 0, 0, 0] (.bl 0 (.bl 1 (.bl 3 (.bl 4 (.bl 6 (.bl 7 (.ef 2 (.ef 5 (.ef 8 (.ef 9 (.ef 10 (.ef 11 .done)))))))))))) (by kernel_rfl) (by kernel_rfl) (gr_drew (World.grownBy.refl _ _)) ?_
      obtain ⟨W1, hW1⟩ : ∃ x, x = (w7).drew := ⟨_, rfl⟩
      rw [← hW1]
      have hgW1 : (w7).grownBy W1 none := by rw [hW1]; exact gr_drew (World.grownBy.refl _ _)
      clear hW1
      refine tree_p rfl rfl rfl rfl _ rfl (by simp) (fun K hK => ?_)
      apply Exists.intro
      refine ⟨fun wq K' hK' => ?_, ?_⟩
      · go_wp2_with fail
        exact hK'
      go_simp
      refine hK _ ?_
      clear hK K
      refine tree_b rfl rfl rfl rfl _ rfl (by simp) (fun K hK => ?_)
      apply Exists.intro
      refine ⟨fun wq hq K' hK' => ?_, ?_⟩
      · have y0 := hq.k b0
        have y1 := hq.k b1
        have y2 := hq.k b2
        go_wp2_with fail
        exact hK'
      go_simp
      refine hK _ ?_
      clear hK K
      refine tree_p rfl rfl rfl rfl _ rfl (by simp) (fun K hK => ?_)
      apply Exists.intro
      refine ⟨fun wq K' hK' => ?_, ?_⟩
      · go_wp2_with fail
        exact hK'
      go_simp
      refine hK _ ?_
      clear hK K
      refine tree_b rfl rfl rfl rfl _ rfl (by simp) (fun K hK => ?_)
      apply Exists.intro
      refine ⟨fun wq hq K' hK' => ?_, ?_⟩
      · have y0 := hq.k b0
        have y1 := hq.k b1
        have y2 := hq.k b2
        go_wp2_with fail
        exact hK'
      go_simp
      refine hK _ ?_
      clear hK K
      refine tree_p rfl rfl rfl rfl _ rfl (by simp) (fun K hK => ?_)
      apply Exists.intro
      refine ⟨fun wq K' hK' => ?_, ?_⟩
      · go_wp2_with fail
        exact hK'
      go_simp
      refine hK _ ?_
      clear hK K
      refine tree_b rfl rfl rfl rfl _ rfl (by simp) (fun K hK => ?_)
      apply Exists.intro
      refine ⟨fun wq hq K' hK' => ?_, ?_⟩
      · have y0 := hq.k b0
        have y1 := hq.k b1
        have y2 := hq.k b2
        go_wp2_with fail
        exact hK'
      go_simp
      refine hK _ ?_
      clear hK K
      refine tree_e rfl rfl (fun K hK => ?_)
      go_wp2_with fail
      refine (itoa_any q.x W1 hx (hTr.gr (hg7.t (gr_trans hgW1 (World.grownBy.refl _ _))))).mono ?_
      rintro e w22 ⟨rfl, hg22⟩
      have hW22 : w7.grownBy w22 none := gr_trans (gr_trans hgW1 (World.grownBy.refl _ _)) hg22
      go_wp2_with fail
      try go_simp
      refine hK _ _ (hW22) ?_
      clear hK K
      refine tree_e rfl rfl (fun K hK => ?_)
      go_wp2_with fail
      refine (itoa_any q.y w22 hy (hTr.gr (hg7.t hW22))).mono ?_
      rintro e w23 ⟨rfl, hg23⟩
      have hW23 : w7.grownBy w23 none := gr_trans hW22 hg23
      go_wp2_with fail
      try go_simp
      refine hK _ _ (hW23) ?_
      clear hK K
      refine tree_e0 (by kernel_rfl) rfl rfl (fun K hK => ?_)
      go_wp2_with fail
      refine (itoa_any q.z w23 hz (hTr.gr (hg7.t hW23))).mono ?_
      rintro e w24 ⟨rfl, hg24⟩
      have hW24 : w7.grownBy w24 none := gr_trans hW23 hg24
      go_wp2_with fail
      try go_simp
      refine hK _ _ trivial ?_
      clear hK K
      refine tree_e0 (by kernel_rfl) rfl rfl (fun K hK => ?_)
      go_wp2_with fail
      try go_simp
      refine hK _ _ trivial ?_
      clear hK K
      refine tree_e0 (by kernel_rfl) rfl rfl (fun K hK => ?_)
      go_wp2_with fail
      refine (joinRow_any 118 q.x q.y q.z w24 hbd).mono ?_
      rintro e w26 ⟨J2, rfl, hJ2, hJs2, hg26⟩
      have hW26 : wr.grownBy w26 none := hg7.t (hW24.t hg26)
      go_wp2_with fail
      try go_simp
      refine hK _ _ trivial ?_
      clear hK K
      refine tree_e0 (by kernel_rfl) rfl rfl (fun K hK => ?_)
      go_wp2_with fail
      refine (writeString_any x4 x4 _ J2 w26 (hB.gr hW26) (by omega) (by have := (hgj.t hW26).size; omega)).mono ?_
      rintro e w27 ⟨rfl, hB27, hb27, hk27⟩
      have hgw27 := gr_bld (hgj.t hW26) hb27 hx4.out
      have hB28 : Bld w27 x4 x4 (mTxt (vs.take (k + 1)) []) := by rw [hsn.out]; rw [hJ2.out] at hB27; exact hB27
      clear hB27 hb27 hk27
      go_wp2_with fail
      try go_simp
      refine hK _ _ trivial ?_
      clear hK K
      refine tree_done ?_
      go_wp2_with fail
      exact ⟨⟨k + 1, by omega, by go_num, hB28, hgw27⟩, by simp [intOf]; omega⟩
    · obtain rfl : k = vs.length := by omega
      rw [List.take_length] at hB
      obtain ⟨n0, _⟩ := (hb0.pure hgj).c 1 rfl
      go_wp2_with fail
      clear n0
      obtain ⟨wa, rfl⟩ : ∃ x, x = wr := ⟨wr, rfl⟩
      go_loopw [38] (fun i wr => ∃ k : Nat, k ≤ fs.length ∧ i = .int .i64 k ∧ Bld wr x4 x4 (mTxt vs (fs.take k)) ∧ w1.grownBy wr none) (fun i _ => fs.length - (intOf i).toNat)
      case atStart => exact ⟨0, Nat.zero_le _, rfl, hB, hgj⟩
      case round =>
        clear hB hgj
        obtain ⟨k, hk, rfl, hB, hgj⟩ := hrel
        by_cases hlt : k < fs.length
        · obtain ⟨g, o, cx, rfl, hb0', hb1, rfl, hc⟩ := hm.at_ (by decide) hlt
          have c0 : wr.cell? ⟨g, o + k * 3, none⟩ = some (.int .i64 fs[k].a) := (hw1.t hgj).k (hc 0 _ rfl)
          have c1 : wr.cell? ⟨g, o + k * 3 + 1, none⟩ = some (.int .i64 fs[k].b) := (hw1.t hgj).k (hc 1 _ rfl)
          have c2 : wr.cell? ⟨g, o + k * 3 + 2, none⟩ = some (.int .i64 fs[k].c) := (hw1.t hgj).k (hc 2 _ rfl)
          clear hc
          have hbd := hok.out.f _ (List.getElem_mem hlt)
          have hsn := hide (mTxt_f (vs := vs) hlt)
          have hpl := hln.out vs.length k
          rw [List.take_length] at hpl
          generalize fs[k] = q at *
          have hx : -9223372036854775808 ≤ q.a ∧ q.a ≤ 9223372036854775807 := by have := hbd; unfold Bd at this; (try simp only at this); omega
          have hy : -9223372036854775808 ≤ q.b ∧ q.b ≤ 9223372036854775807 := by have := hbd; unfold Bd at this; (try simp only at this); omega
          have hz : -9223372036854775808 ≤ q.c ∧ q.c ≤ 9223372036854775807 := by have := hbd; unfold Bd at this; (try simp only at this); omega
          have hTr : Tab wr := hT.gr (hw1.t hgj)
          go_upto_region 13 with fail
          obtain ⟨w7, hw7⟩ : ∃ x, x = (wr).alloc (.cells [.int .i64 q.a, .int .i64 q.b, .int .i64 q.c].toArray 51) := ⟨_, rfl⟩
          have hg7 : (wr).grownBy w7 none := by rw [hw7]; exact gr_alloc (World.grownBy.refl _ _) _
          have hb7 : Box w7 (wr).heap.size 51 [.int .i64 q.a, .int .i64 q.b, .int .i64 q.c] := by rw [hw7]; exact Box.new _ _ _
          have hxs7 := hb7.lt
          rw [← hw7]
          clear hw7
          obtain ⟨x7, hx7⟩ : ∃ x, x = (wr).heap.size := ⟨_, rfl⟩
          rw [← hx7] at hb7 hxs7 ⊢
          have hxl7 : (wr).heap.size ≤ x7 := by omega
          clear hx7
          obtain ⟨b0, _⟩ := hb7.c 0 rfl
          obtain ⟨b1, _⟩ := hb7.c 1 rfl
          obtain ⟨b2, _⟩ := hb7.c 2 rfl
          clear c0 c1 c2
          refine wp_region_tree (fun wx => w7.grownBy wx none) [2, 1, 0, 2, 1, 0, 2, 1, 0, 0, 0, 0] (.bl 0 (.bl 1 (.bl 3 (.bl 4 (.bl 6 (.bl 7 (.ef 2 (.ef 5 (.ef 8 (.ef 9 (.ef 10 (.ef 11 .done)))))))))))) (by kernel_rfl) (by kernel_rfl) (gr_drew (World.grownBy.refl _ _)) ?_
          obtain ⟨W1, hW1⟩ : ∃ x, x = (w7).drew := ⟨_, rfl⟩
          rw [← hW1]
          have hgW1 : (w7).grownBy W1 none := by rw [hW1]; exact gr_drew (World.grownBy.refl _ _)
          clear hW1
          refine tree_p rfl rfl rfl rfl _ rfl (by simp) (fun K hK => ?_)
          apply Exists.intro
          refine ⟨fun wq K' hK' => ?_, ?_⟩
          · go_wp2_with fail
            exact hK'
          go_simp
          refine hK _ ?_
          clear hK K
          refine tree_b rfl rfl rfl rfl _ rfl (by simp) (fun K hK => ?_)
          apply Exists.intro
          refine ⟨fun wq hq K' hK' => ?_, ?_⟩
          · have y0 := hq.k b0
            have y1 := hq.k b1
            have y2 := hq.k b2
            go_wp2_with fail
            exact hK'
          go_simp
          refine hK _ ?_
          clear hK K
          refine tree_p rfl rfl rfl rfl _ rfl (by simp) (fun K hK => ?_)
          apply Exists.intro
          refine ⟨fun wq K' hK' => ?_, ?_⟩
          · go_wp2_with fail
            exact hK'
          go_simp
          refine hK _ ?_
          clear hK K
          refine tree_b rfl rfl rfl rfl _ rfl (by simp) (fun K hK => ?_)
          apply Exists.intro
          refine ⟨fun wq hq K' hK' => ?_, ?_⟩
          · have y0 := hq.k b0
            have y1 := hq.k b1
            have y2 := hq.k b2
            go_wp2_with fail
            exact hK'
          go_simp
          refine hK _ ?_
          clear hK K
          refine tree_p rfl rfl rfl rfl _ rfl (by simp) (fun K hK => ?_)
          apply Exists.intro
          refine ⟨fun wq K' hK' => ?_, ?_⟩
          · go_wp2_with fail
            exact hK'
          go_simp
          refine hK _ ?_
          clear hK K
          refine tree_b rfl rfl rfl rfl _ rfl (by simp) (fun K hK => ?_)
          apply Exists.intro
          refine ⟨fun wq hq K' hK' => ?_, ?_⟩
          · have y0 := hq.k b0
            have y1 := hq.k b1
            have y2 := hq.k b2
            go_wp2_with fail
            exact hK'
          go_simp
          refine hK _ ?_
          clear hK K
          refine tree_e rfl rfl (fun K hK => ?_)
          go_wp2_with fail
          refine (itoa_any q.a W1 hx (hTr.gr (hg7.t (gr_trans hgW1 (World.grownBy.refl _ _))))).mono ?_
          rintro e w22 ⟨rfl, hg22⟩
          have hW22 : w7.grownBy w22 none := gr_trans (gr_trans hgW1 (World.grownBy.refl _ _)) hg22
          go_wp2_with fail
          try go_simp
          refine hK _ _ (hW22) ?_
          clear hK K
          refine tree_e rfl rfl (fun K hK => ?_)
          go_wp2_with fail
          refine (itoa_any q.b w22 hy (hTr.gr (hg7.t hW22))).mono ?_
          rintro e w23 ⟨rfl, hg23⟩
          have hW23 : w7.grownBy w23 none := gr_trans hW22 hg23
          go_wp2_with fail
          try go_simp
          refine hK _ _ (hW23) ?_
          clear hK K
          refine tree_e0 (by kernel_rfl) rfl rfl (fun K hK => ?_)
          go_wp2_with fail
          refine (itoa_any q.c w23 hz (hTr.gr (hg7.t hW23))).mono ?_
          rintro e w24 ⟨rfl, hg24⟩
          have hW24 : w7.grownBy w24 none := gr_trans hW23 hg24
          go_wp2_with fail
          try go_simp
          refine hK _ _ trivial ?_
          clear hK K
          refine tree_e0 (by kernel_rfl) rfl rfl (fun K hK => ?_)
          go_wp2_with fail
          try go_simp
          refine hK _ _ trivial ?_
          clear hK K
          refine tree_e0 (by kernel_rfl) rfl rfl (fun K hK => ?_)
          go_wp2_with fail
          refine (joinRow_any 102 q.a q.b q.c w24 hbd).mono ?_
          rintro e w26 ⟨J2, rfl, hJ2, hJs2, hg26⟩
          have hW26 : wr.grownBy w26 none := hg7.t (hW24.t hg26)
          go_wp2_with fail
          try go_simp
          refine hK _ _ trivial ?_
          clear hK K
          refine tree_e0 (by kernel_rfl) rfl rfl (fun K hK => ?_)
          go_wp2_with fail
          refine (writeString_any x4 x4 _ J2 w26 (hB.gr hW26) (by omega) (by have := (hgj.t hW26).size; omega)).mono ?_
          rintro e w27 ⟨rfl, hB27, hb27, hk27⟩
          have hgw27 := gr_bld (hgj.t hW26) hb27 hx4.out
          have hB28 : Bld w27 x4 x4 (mTxt vs (fs.take (k + 1))) := by rw [hsn.out]; rw [hJ2.out] at hB27; exact hB27
          clear hB27 hb27 hk27
          go_wp2_with fail
          try go_simp
          refine hK _ _ trivial ?_
          clear hK K
          refine tree_done ?_
          go_wp2_with fail
          exact ⟨⟨k + 1, by omega, by go_num, hB28, hgw27⟩, by simp [intOf]; omega⟩
        · obtain rfl : k = fs.length := by omega
          rw [List.take_length] at hB
          have hszz := hln.out vs.length fs.length
          rw [List.take_length, List.take_length] at hszz
          have hgs := hgj.size
          have hLn := bldLen_any x4 x4 _ wr hB
          have hSt := bldString_any x4 x4 _ wr hB (by omega)
          obtain ⟨TX, hTX⟩ : ∃ t, mTxt vs fs = t := ⟨_, rfl⟩
          rw [hTX] at hLn hSt hszz
          clear hB
          have hgt : decide ((TX.length : Int) > 200000) = false := by simp; omega
          replace hTX := hide hTX
          go_wp2_with fail
          refine hLn.mono ?_
          rintro e w2 ⟨rfl, rfl⟩
          clear hLn
          go_wp2_with fail
          refine hSt.mono ?_
          rintro e w3 ⟨rfl, hb3⟩
          clear hSt
          go_wp2_with fail
          go_ret2
          rw [hfin.out, hTX.out]
          exact ⟨rfl, hw1.t (gr_bld hgj hb3 hx4.out)⟩

end Go.Proofs.YtcglkjpfnnehhaaGreatDoor

namespace Go.Proofs.YtcglkjpfnnehhaaGreatDoor
open Go Go.RowKit Go.Bl

theorem rowCat (t : UInt8) (a b c : List UInt8) : mkB [t, 32] ++ mkB a ++ mkB [32] ++ mkB b ++ mkB [32] ++ mkB c ++ mkB [10] = mkB (joined [[t], a, b, c] ++ [10]) := by
  rw [mkB_append, mkB_append, mkB_append, mkB_append, mkB_append, mkB_append]
  simp [joined]

set_option maxHeartbeats 4000000 in
set_option maxRecDepth 100000 in
theorem meshLines_any (A : Option Addr) (c : Nat) (vs : List V3) (B : Option Addr) (d : Nat) (fs : List Fc) (w : World) (hl : Sl w 0 A vs) (hm : Sl w 0 B fs) (hok : MOk ⟨vs, fs⟩) (hT : Tab w) :
    Calls Tryz.prog 10 #[.agg #[.slice A vs.length c, .slice B fs.length d]] w fun e w' => e = .returned (.string (mkB (meshText ⟨vs, fs⟩))) ∧ w.grownBy w' none := by
  have hln := fun i j => mTxt_len hok i j
  have hfin : Hid (meshText ⟨vs, fs⟩ = mTxt vs fs) := rfl
  have hnv := hok.nv
  have hnf := hok.nf
  simp only at hnv hnf
  replace hok := hide hok
  replace hln := hide hln
  go_enter Tryz.func10, Tryz.ntmps10
  go_upto_region 1 with fail
  obtain ⟨w0, hw0⟩ : ∃ x, x = (w).alloc (.cells [.slice A vs.length c, .slice B fs.length d].toArray 29) := ⟨_, rfl⟩
  have hg0 : (w).grownBy w0 none := by rw [hw0]; exact gr_alloc (World.grownBy.refl _ _) _
  have hb0 : Box w0 (w).heap.size 29 [.slice A vs.length c, .slice B fs.length d] := by rw [hw0]; exact Box.new _ _ _
  have hxs0 := hb0.lt
  rw [← hw0]
  clear hw0
  obtain ⟨x0, hx0⟩ : ∃ x, x = (w).heap.size := ⟨_, rfl⟩
  rw [← hx0] at hb0 hxs0 ⊢
  have hxl0 : (w).heap.size ≤ x0 := by omega
  clear hx0
  go_upto_region 2 with fail
  obtain ⟨w3, hw3⟩ : ∃ x, x = (w0).alloc (.cells #[.pointer none, .slice none 0 0] 71) := ⟨_, rfl⟩
  have hB3 : Bld w3 (w0).heap.size (w0).heap.size [] := by rw [hw3]; exact Bld.new _ _ (Nat.le_refl _)
  have hgb3 : (w0).grownBy w3 none := by rw [hw3]; exact gr_alloc (World.grownBy.refl _ _) _
  rw [← hw3]
  clear hw3
  obtain ⟨x3, hx3⟩ : ∃ x, x = (w0).heap.size := ⟨_, rfl⟩
  rw [← hx3] at hB3 ⊢
  have hxg3 : x3 ≤ (w0).heap.size := Nat.le_of_eq hx3
  replace hx3 := hide hx3
  obtain ⟨n0, _⟩ := (hb0.pure hgb3).c 0 rfl
  go_wp2_with fail
  clear n0
  go_loopw [11] (fun i wr => ∃ k : Nat, k ≤ vs.length ∧ i = .int .i64 k ∧ Bld wr x3 x3 (mTxt (vs.take k) []) ∧ w0.grownBy wr none) (fun i _ => vs.length - (intOf i).toNat)
  case atStart => exact ⟨0, Nat.zero_le _, rfl, hB3, hgb3⟩
  case round =>
    clear hB3 hgb3
    obtain ⟨k, hk, rfl, hB, hgj⟩ := hrel
    by_cases hlt : k < vs.length
    · obtain ⟨g, o, cx, rfl, hb0', hb1, rfl, hc⟩ := hl.at_ (by decide) hlt
      have c0 : wr.cell? ⟨g, o + k * 3, none⟩ = some (.int .i64 vs[k].x) := (hg0.t hgj).k (hc 0 _ rfl)
      have c1 : wr.cell? ⟨g, o + k * 3 + 1, none⟩ = some (.int .i64 vs[k].y) := (hg0.t hgj).k (hc 1 _ rfl)
      have c2 : wr.cell? ⟨g, o + k * 3 + 2, none⟩ = some (.int .i64 vs[k].z) := (hg0.t hgj).k (hc 2 _ rfl)
      clear hc
      have hbd := hok.out.v _ (List.getElem_mem hlt)
      have hsn := hide (mTxt_v hlt)
      have hpl := hln.out k 0
      rw [List.take_zero] at hpl
      generalize vs[k] = q at *
      have hx : -9223372036854775808 ≤ q.x ∧ q.x ≤ 9223372036854775807 := by have := hbd; unfold Bd at this; (try simp only at this); omega
      have hy : -9223372036854775808 ≤ q.y ∧ q.y ≤ 9223372036854775807 := by have := hbd; unfold Bd at this; (try simp only at this); omega
      have hz : -9223372036854775808 ≤ q.z ∧ q.z ≤ 9223372036854775807 := by have := hbd; unfold Bd at this; (try simp only at this); omega
      have sx : (mkB (Lib.itoa q.x)).size ≤ 21 := by rw [mkB_size]; exact Lib.itoa_length_le _ hx.1 hx.2
      have sy : (mkB (Lib.itoa q.y)).size ≤ 21 := by rw [mkB_size]; exact Lib.itoa_length_le _ hy.1 hy.2
      have sz : (mkB (Lib.itoa q.z)).size ≤ 21 := by rw [mkB_size]; exact Lib.itoa_length_le _ hz.1 hz.2
      have hTr : Tab wr := hT.gr (hg0.t hgj)
      go_upto_region 5 with fail
      obtain ⟨w7, hw7⟩ : ∃ x, x = (wr).alloc (.cells [.int .i64 q.x, .int .i64 q.y, .int .i64 q.z].toArray 46) := ⟨_, rfl⟩
      have hg7 : (wr).grownBy w7 none := by rw [hw7]; exact gr_alloc (World.grownBy.refl _ _) _
      have hb7 : Box w7 (wr).heap.size 46 [.int .i64 q.x, .int .i64 q.y, .int .i64 q.z] := by rw [hw7]; exact Box.new _ _ _
      have hxs7 := hb7.lt
      rw [← hw7]
      clear hw7
      obtain ⟨x7, hx7⟩ : ∃ x, x = (wr).heap.size := ⟨_, rfl⟩
      rw [← hx7] at hb7 hxs7 ⊢
      have hxl7 : (wr).heap.size ≤ x7 := by omega
      clear hx7
      obtain ⟨b0, _⟩ := hb7.c 0 rfl
      obtain ⟨b1, _⟩ := hb7.c 1 rfl
      obtain ⟨b2, _⟩ := hb7.c 2 rfl
      clear c0 c1 c2
      refine wp_region_tree (fun wx => w7.grownBy wx none) [2, 1, 0, 2, 2, 2, 1, 0, 2, 2, 2, 1, 0, 2, 2, 0] (.bl 0 (.bl 1 (.bl 5 (.bl 6 (.bl 10 (.bl 11 (.ef 2 (.bl 3 (.bl 4 (.ef 7 (.bl 8 (.bl 9 (.ef 12 (.bl 13 (.bl 14 (.ef 15 .done)))))))))))))))) (by kernel_rfl) (by kernel_rfl) (gr_drew (World.grownBy.refl _ _)) ?_
      obtain ⟨W1, hW1⟩ : ∃ x, x = (w7).drew := ⟨_, rfl⟩
      rw [← hW1]
      have hgW1 : (w7).grownBy W1 none := by rw [hW1]; exact gr_drew (World.grownBy.refl _ _)
      clear hW1
      refine tree_p rfl rfl rfl rfl _ rfl (by simp) (fun K hK => ?_)
      apply Exists.intro
      refine ⟨fun wq K' hK' => ?_, ?_⟩
      · go_wp2_with fail
        exact hK'
      go_simp
      refine hK _ ?_
      clear hK K
      refine tree_b rfl rfl rfl rfl _ rfl (by simp) (fun K hK => ?_)
      apply Exists.intro
      refine ⟨fun wq hq K' hK' => ?_, ?_⟩
      · have y0 := hq.k b0
        have y1 := hq.k b1
        have y2 := hq.k b2
        go_wp2_with fail
        exact hK'
      go_simp
      refine hK _ ?_
      clear hK K
      refine tree_p rfl rfl rfl rfl _ rfl (by simp) (fun K hK => ?_)
      apply Exists.intro
      refine ⟨fun wq K' hK' => ?_, ?_⟩
      · go_wp2_with fail
        exact hK'
      go_simp
      refine hK _ ?_
      clear hK K
      refine tree_b rfl rfl rfl rfl _ rfl (by simp) (fun K hK => ?_)
      apply Exists.intro
      refine ⟨fun wq hq K' hK' => ?_, ?_⟩
      · have y0 := hq.k b0
        have y1 := hq.k b1
        have y2 := hq.k b2
        go_wp2_with fail
        exact hK'
      go_simp
      refine hK _ ?_
      clear hK K
      refine tree_p rfl rfl rfl rfl _ rfl (by simp) (fun K hK => ?_)
      apply Exists.intro
      refine ⟨fun wq K' hK' => ?_, ?_⟩
      · go_wp2_with fail
        exact hK'
      go_simp
      refine hK _ ?_
      clear hK K
      refine tree_b rfl rfl rfl rfl _ rfl (by simp) (fun K hK => ?_)
      apply Exists.intro
      refine ⟨fun wq hq K' hK' => ?_, ?_⟩
      · have y0 := hq.k b0
        have y1 := hq.k b1
        have y2 := hq.k b2
        go_wp2_with fail
        exact hK'
      go_simp
      refine hK _ ?_
      clear hK K
      refine tree_e rfl rfl (fun K hK => ?_)
      go_wp2_with fail
      refine (itoa_any q.x W1 hx (hTr.gr (hg7.t (gr_trans hgW1 (World.grownBy.refl _ _))))).mono ?_
      rintro e w22 ⟨rfl, hg22⟩
      have hW22 : w7.grownBy w22 none := gr_trans (gr_trans hgW1 (World.grownBy.refl _ _)) hg22
      go_wp2_with fail
      try go_simp
      refine hK _ _ (hW22) ?_
      clear hK K
      refine tree_p rfl rfl rfl rfl _ rfl (by simp) (fun K hK => ?_)
      apply Exists.intro
      refine ⟨fun wq K' hK' => ?_, ?_⟩
      · go_wp2_with fail
        exact hK'
      go_simp
      refine hK _ ?_
      clear hK K
      refine tree_p rfl rfl rfl rfl _ rfl (by simp) (fun K hK => ?_)
      apply Exists.intro
      refine ⟨fun wq K' hK' => ?_, ?_⟩
      · go_wp2_with fail
        exact hK'
      go_simp
      refine hK _ ?_
      clear hK K
      refine tree_e rfl rfl (fun K hK => ?_)
      go_wp2_with fail
      refine (itoa_any q.y w22 hy (hTr.gr (hg7.t hW22))).mono ?_
      rintro e w23 ⟨rfl, hg23⟩
      have hW23 : w7.grownBy w23 none := gr_trans hW22 hg23
      go_wp2_with fail
      try go_simp
      refine hK _ _ (hW23) ?_
      clear hK K
      refine tree_p rfl rfl rfl rfl _ rfl (by simp) (fun K hK => ?_)
      apply Exists.intro
      refine ⟨fun wq K' hK' => ?_, ?_⟩
      · go_wp2_with fail
        exact hK'
      go_simp
      refine hK _ ?_
      clear hK K
      refine tree_p rfl rfl rfl rfl _ rfl (by simp) (fun K hK => ?_)
      apply Exists.intro
      refine ⟨fun wq K' hK' => ?_, ?_⟩
      · go_wp2_with fail
        exact hK'
      go_simp
      refine hK _ ?_
      clear hK K
      refine tree_e0 (by kernel_rfl) rfl rfl (fun K hK => ?_)
      go_wp2_with fail
      refine (itoa_any q.z w23 hz (hTr.gr (hg7.t hW23))).mono ?_
      rintro e w24 ⟨rfl, hg24⟩
      have hW24' : w7.grownBy w24 none := gr_trans hW23 hg24
      have hW24 : wr.grownBy w24 none := hg7.t hW24'
      go_wp2_with fail
      try go_simp
      refine hK _ _ trivial ?_
      clear hK K
      refine tree_p rfl rfl rfl rfl _ rfl (by simp) (fun K hK => ?_)
      apply Exists.intro
      refine ⟨fun wq K' hK' => ?_, ?_⟩
      · go_wp2_with fail
        exact hK'
      go_simp
      refine hK _ ?_
      clear hK K
      refine tree_p rfl rfl rfl rfl _ rfl (by simp) (fun K hK => ?_)
      apply Exists.intro
      refine ⟨fun wq K' hK' => ?_, ?_⟩
      · go_wp2_with fail
        exact hK'
      go_simp
      refine hK _ ?_
      clear hK K
      refine tree_e0 (by kernel_rfl) rfl rfl (fun K hK => ?_)
      go_wp2_with fail
      have hcat := rowCat 118 (Lib.itoa q.x) (Lib.itoa q.y) (Lib.itoa q.z)
      refine (writeString_any x3 x3 _ (mkB [118, 32] ++ mkB (Lib.itoa q.x) ++ mkB [32] ++ mkB (Lib.itoa q.y) ++ mkB [32] ++ mkB (Lib.itoa q.z) ++ mkB [10]) w24 (hB.gr hW24) (by rw [hcat, mkB_size, List.length_append]; have := mrow_len 118 hbd; change _ + ((joined [[118], Lib.itoa q.x, Lib.itoa q.y, Lib.itoa q.z]).length + 1) ≤ _; omega) (by have := (hgj.t hW24).size; omega)).mono ?_
      rw [hcat]
      rintro e w27 ⟨rfl, hB27, hb27, hk27⟩
      have hgw27 := gr_bld (hgj.t hW24) hb27 hx3.out
      have hB28 : Bld w27 x3 x3 (mTxt (vs.take (k + 1)) []) := by rw [hsn.out]; exact hB27
      clear hB27 hb27 hk27
      go_wp2_with fail
      try go_simp
      refine hK _ _ trivial ?_
      clear hK K
      refine tree_done ?_
      go_wp2_with fail
      exact ⟨⟨k + 1, by omega, by go_num, hB28, hgw27⟩, by simp [intOf]; omega⟩
    · obtain rfl : k = vs.length := by omega
      rw [List.take_length] at hB
      obtain ⟨n0, _⟩ := (hb0.pure hgj).c 1 rfl
      go_wp2_with fail
      clear n0
      obtain ⟨wa, rfl⟩ : ∃ x, x = wr := ⟨wr, rfl⟩
      go_loopw [35] (fun i wr => ∃ k : Nat, k ≤ fs.length ∧ i = .int .i64 k ∧ Bld wr x3 x3 (mTxt vs (fs.take k)) ∧ w0.grownBy wr none) (fun i _ => fs.length - (intOf i).toNat)
      case atStart => exact ⟨0, Nat.zero_le _, rfl, hB, hgj⟩
      case round =>
        clear hB hgj
        obtain ⟨k, hk, rfl, hB, hgj⟩ := hrel
        by_cases hlt : k < fs.length
        · obtain ⟨g, o, cx, rfl, hb0', hb1, rfl, hc⟩ := hm.at_ (by decide) hlt
          have c0 : wr.cell? ⟨g, o + k * 3, none⟩ = some (.int .i64 fs[k].a) := (hg0.t hgj).k (hc 0 _ rfl)
          have c1 : wr.cell? ⟨g, o + k * 3 + 1, none⟩ = some (.int .i64 fs[k].b) := (hg0.t hgj).k (hc 1 _ rfl)
          have c2 : wr.cell? ⟨g, o + k * 3 + 2, none⟩ = some (.int .i64 fs[k].c) := (hg0.t hgj).k (hc 2 _ rfl)
          clear hc
          have hbd := hok.out.f _ (List.getElem_mem hlt)
          have hsn := hide (mTxt_f (vs := vs) hlt)
          have hpl := hln.out vs.length k
          rw [List.take_length] at hpl
          generalize fs[k] = q at *
          have hx : -9223372036854775808 ≤ q.a ∧ q.a ≤ 9223372036854775807 := by have := hbd; unfold Bd at this; (try simp only at this); omega
          have hy : -9223372036854775808 ≤ q.b ∧ q.b ≤ 9223372036854775807 := by have := hbd; unfold Bd at this; (try simp only at this); omega
          have hz : -9223372036854775808 ≤ q.c ∧ q.c ≤ 9223372036854775807 := by have := hbd; unfold Bd at this; (try simp only at this); omega
          have sx : (mkB (Lib.itoa q.a)).size ≤ 21 := by rw [mkB_size]; exact Lib.itoa_length_le _ hx.1 hx.2
          have sy : (mkB (Lib.itoa q.b)).size ≤ 21 := by rw [mkB_size]; exact Lib.itoa_length_le _ hy.1 hy.2
          have sz : (mkB (Lib.itoa q.c)).size ≤ 21 := by rw [mkB_size]; exact Lib.itoa_length_le _ hz.1 hz.2
          have hTr : Tab wr := hT.gr (hg0.t hgj)
          go_upto_region 10 with fail
          obtain ⟨w7, hw7⟩ : ∃ x, x = (wr).alloc (.cells [.int .i64 q.a, .int .i64 q.b, .int .i64 q.c].toArray 51) := ⟨_, rfl⟩
          have hg7 : (wr).grownBy w7 none := by rw [hw7]; exact gr_alloc (World.grownBy.refl _ _) _
          have hb7 : Box w7 (wr).heap.size 51 [.int .i64 q.a, .int .i64 q.b, .int .i64 q.c] := by rw [hw7]; exact Box.new _ _ _
          have hxs7 := hb7.lt
          rw [← hw7]
          clear hw7
          obtain ⟨x7, hx7⟩ : ∃ x, x = (wr).heap.size := ⟨_, rfl⟩
          rw [← hx7] at hb7 hxs7 ⊢
          have hxl7 : (wr).heap.size ≤ x7 := by omega
          clear hx7
          obtain ⟨b0, _⟩ := hb7.c 0 rfl
          obtain ⟨b1, _⟩ := hb7.c 1 rfl
          obtain ⟨b2, _⟩ := hb7.c 2 rfl
          clear c0 c1 c2
          refine wp_region_tree (fun wx => w7.grownBy wx none) [2, 1, 0, 2, 2, 2, 1, 0, 2, 2, 2, 1, 0, 2, 2, 0] (.bl 0 (.bl 1 (.bl 5 (.bl 6 (.bl 10 (.bl 11 (.ef 2 (.bl 3 (.bl 4 (.ef 7 (.bl 8 (.bl 9 (.ef 12 (.bl 13 (.bl 14 (.ef 15 .done)))))))))))))))) (by kernel_rfl) (by kernel_rfl) (gr_drew (World.grownBy.refl _ _)) ?_
          obtain ⟨W1, hW1⟩ : ∃ x, x = (w7).drew := ⟨_, rfl⟩
          rw [← hW1]
          have hgW1 : (w7).grownBy W1 none := by rw [hW1]; exact gr_drew (World.grownBy.refl _ _)
          clear hW1
          refine tree_p rfl rfl rfl rfl _ rfl (by simp) (fun K hK => ?_)
          apply Exists.intro
          refine ⟨fun wq K' hK' => ?_, ?_⟩
          · go_wp2_with fail
            exact hK'
          go_simp
          refine hK _ ?_
          clear hK K
          refine tree_b rfl rfl rfl rfl _ rfl (by simp) (fun K hK => ?_)
          apply Exists.intro
          refine ⟨fun wq hq K' hK' => ?_, ?_⟩
          · have y0 := hq.k b0
            have y1 := hq.k b1
            have y2 := hq.k b2
            go_wp2_with fail
            exact hK'
          go_simp
          refine hK _ ?_
          clear hK K
          refine tree_p rfl rfl rfl rfl _ rfl (by simp) (fun K hK => ?_)
          apply Exists.intro
          refine ⟨fun wq K' hK' => ?_, ?_⟩
          · go_wp2_with fail
            exact hK'
          go_simp
          refine hK _ ?_
          clear hK K
          refine tree_b rfl rfl rfl rfl _ rfl (by simp) (fun K hK => ?_)
          apply Exists.intro
          refine ⟨fun wq hq K' hK' => ?_, ?_⟩
          · have y0 := hq.k b0
            have y1 := hq.k b1
            have y2 := hq.k b2
            go_wp2_with fail
            exact hK'
          go_simp
          refine hK _ ?_
          clear hK K
          refine tree_p rfl rfl rfl rfl _ rfl (by simp) (fun K hK => ?_)
          apply Exists.intro
          refine ⟨fun wq K' hK' => ?_, ?_⟩
          · go_wp2_with fail
            exact hK'
          go_simp
          refine hK _ ?_
          clear hK K
          refine tree_b rfl rfl rfl rfl _ rfl (by simp) (fun K hK => ?_)
          apply Exists.intro
          refine ⟨fun wq hq K' hK' => ?_, ?_⟩
          · have y0 := hq.k b0
            have y1 := hq.k b1
            have y2 := hq.k b2
            go_wp2_with fail
            exact hK'
          go_simp
          refine hK _ ?_
          clear hK K
          refine tree_e rfl rfl (fun K hK => ?_)
          go_wp2_with fail
          refine (itoa_any q.a W1 hx (hTr.gr (hg7.t (gr_trans hgW1 (World.grownBy.refl _ _))))).mono ?_
          rintro e w22 ⟨rfl, hg22⟩
          have hW22 : w7.grownBy w22 none := gr_trans (gr_trans hgW1 (World.grownBy.refl _ _)) hg22
          go_wp2_with fail
          try go_simp
          refine hK _ _ (hW22) ?_
          clear hK K
          refine tree_p rfl rfl rfl rfl _ rfl (by simp) (fun K hK => ?_)
          apply Exists.intro
          refine ⟨fun wq K' hK' => ?_, ?_⟩
          · go_wp2_with fail
            exact hK'
          go_simp
          refine hK _ ?_
          clear hK K
          refine tree_p rfl rfl rfl rfl _ rfl (by simp) (fun K hK => ?_)
          apply Exists.intro
          refine ⟨fun wq K' hK' => ?_, ?_⟩
          · go_wp2_with fail
            exact hK'
          go_simp
          refine hK _ ?_
          clear hK K
          refine tree_e rfl rfl (fun K hK => ?_)
          go_wp2_with fail
          refine (itoa_any q.b w22 hy (hTr.gr (hg7.t hW22))).mono ?_
          rintro e w23 ⟨rfl, hg23⟩
          have hW23 : w7.grownBy w23 none := gr_trans hW22 hg23
          go_wp2_with fail
          try go_simp
          refine hK _ _ (hW23) ?_
          clear hK K
          refine tree_p rfl rfl rfl rfl _ rfl (by simp) (fun K hK => ?_)
          apply Exists.intro
          refine ⟨fun wq K' hK' => ?_, ?_⟩
          · go_wp2_with fail
            exact hK'
          go_simp
          refine hK _ ?_
          clear hK K
          refine tree_p rfl rfl rfl rfl _ rfl (by simp) (fun K hK => ?_)
          apply Exists.intro
          refine ⟨fun wq K' hK' => ?_, ?_⟩
          · go_wp2_with fail
            exact hK'
          go_simp
          refine hK _ ?_
          clear hK K
          refine tree_e0 (by kernel_rfl) rfl rfl (fun K hK => ?_)
          go_wp2_with fail
          refine (itoa_any q.c w23 hz (hTr.gr (hg7.t hW23))).mono ?_
          rintro e w24 ⟨rfl, hg24⟩
          have hW24' : w7.grownBy w24 none := gr_trans hW23 hg24
          have hW24 : wr.grownBy w24 none := hg7.t hW24'
          go_wp2_with fail
          try go_simp
          refine hK _ _ trivial ?_
          clear hK K
          refine tree_p rfl rfl rfl rfl _ rfl (by simp) (fun K hK => ?_)
          apply Exists.intro
          refine ⟨fun wq K' hK' => ?_, ?_⟩
          · go_wp2_with fail
            exact hK'
          go_simp
          refine hK _ ?_
          clear hK K
          refine tree_p rfl rfl rfl rfl _ rfl (by simp) (fun K hK => ?_)
          apply Exists.intro
          refine ⟨fun wq K' hK' => ?_, ?_⟩
          · go_wp2_with fail
            exact hK'
          go_simp
          refine hK _ ?_
          clear hK K
          refine tree_e0 (by kernel_rfl) rfl rfl (fun K hK => ?_)
          go_wp2_with fail
          have hcat := rowCat 102 (Lib.itoa q.a) (Lib.itoa q.b) (Lib.itoa q.c)
          refine (writeString_any x3 x3 _ (mkB [102, 32] ++ mkB (Lib.itoa q.a) ++ mkB [32] ++ mkB (Lib.itoa q.b) ++ mkB [32] ++ mkB (Lib.itoa q.c) ++ mkB [10]) w24 (hB.gr hW24) (by rw [hcat, mkB_size, List.length_append]; have := mrow_len 102 hbd; change _ + ((joined [[102], Lib.itoa q.a, Lib.itoa q.b, Lib.itoa q.c]).length + 1) ≤ _; omega) (by have := (hgj.t hW24).size; omega)).mono ?_
          rw [hcat]
          rintro e w27 ⟨rfl, hB27, hb27, hk27⟩
          have hgw27 := gr_bld (hgj.t hW24) hb27 hx3.out
          have hB28 : Bld w27 x3 x3 (mTxt vs (fs.take (k + 1))) := by rw [hsn.out]; exact hB27
          clear hB27 hb27 hk27
          go_wp2_with fail
          try go_simp
          refine hK _ _ trivial ?_
          clear hK K
          refine tree_done ?_
          go_wp2_with fail
          exact ⟨⟨k + 1, by omega, by go_num, hB28, hgw27⟩, by simp [intOf]; omega⟩
        · obtain rfl : k = fs.length := by omega
          rw [List.take_length] at hB
          have hszz := hln.out vs.length fs.length
          rw [List.take_length, List.take_length] at hszz
          have hgs := hgj.size
          have hSt := bldString_any x3 x3 _ wr hB (by omega)
          obtain ⟨TX, hTX⟩ : ∃ t, mTxt vs fs = t := ⟨_, rfl⟩
          rw [hTX] at hSt hszz
          clear hB
          replace hTX := hide hTX
          go_wp2_with fail
          refine hSt.mono ?_
          rintro e w3 ⟨rfl, hb3⟩
          clear hSt
          go_wp2_with fail
          go_ret
          rw [hfin.out, hTX.out]
          exact ⟨rfl, hg0.t (gr_bld hgj hb3 hx3.out)⟩

end Go.Proofs.YtcglkjpfnnehhaaGreatDoor

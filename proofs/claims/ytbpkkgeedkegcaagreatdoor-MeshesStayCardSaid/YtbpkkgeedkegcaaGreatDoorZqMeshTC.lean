/- Contracts of functions that this seat's laws reach, each: what one call returns and what it leaves in memory; no condition beyond each theorem's own hypotheses. -/
import Derived.Test.YtbpkkgeedkegcaaGreatDoorZqMeshCE
import Derived.Test.YtbpkkgeedkegcaaGreatDoorZqNestCat
import Derived.Test.YtbpkkgeedkegcaaGreatDoorZqMeshTB
set_option linter.unusedVariables false
set_option linter.unusedSimpArgs false
namespace Go.Proofs.YtbpkkgeedkegcaaGreatDoor
open Go.RowKit Go.Bl

set_option maxHeartbeats 800000 in
set_option maxRecDepth 100000 in
theorem growV3_any (n : Nat) (w : World) (h0 : 0 < n) (hn : n ≤ 1000000) :
    Calls Tryz.prog 77 #[.slice none 0 0, .int .i64 n] w fun e w' => ∃ G, e = .returned (.slice (some ⟨w.heap.size, 0, none⟩) 0 G) ∧ Own w' w.heap.size 47 (some ⟨w.heap.size, 0, none⟩) G ([] : List V3) ∧ w.grownBy w' none := by
  obtain ⟨i0, hi, hz, h1, h2⟩ := info_parts info_v3
  obtain ⟨G, w2, hrun, hown, hg2, hG, hG2⟩ := run_growNil (P := Tryz.prog) (α := V3) w 26 3 47 i0 _ .i64 Tryz.underlying26 Tryz.underlying3 hi hz h1 rfl n h0 (by rw [h2]; omega) (by omega)
  go_enter Tryz.func77, Tryz.ntmps77
  go_wp2_with (at_builtin; refine Lib.wpList_append_run _ rfl _ _ _ _ rfl _ _ rfl rfl _ _ (hrun _) ?_)
  go_ret
  exact ⟨G, rfl, hown, hg2⟩

set_option maxHeartbeats 2000000 in
set_option maxRecDepth 100000 in
theorem concatV3_any (A : Option Addr) (n c : Nat) (rs : List RawS) (ls : List (List V3)) (w : World) (hA : Sl w 0 A rs) (hn : n = rs.length) (hr : Heads w rs ls) (hsum : (flatK ls ls.length).length ≤ 1000000) (h0 : 0 < (flatK ls ls.length).length) :
    Calls Tryz.prog 49 #[.slice A n c] w fun e w' => ∃ A' c', e = .returned (.slice A' (flatK ls ls.length).length c') ∧ Own w' w.heap.size 47 A' c' (flatK ls ls.length) ∧ w.grownBy w' none := by
  subst hn
  have hm := hA.1
  unfold maxLen at hm
  have hlen := hr.len
  obtain ⟨i0, hi, hz, h1, h2⟩ := info_parts info_v3
  have hle := hide (flatK_le ls)
  replace hlen := hide hlen
  go_enter Tryz.func49, Tryz.ntmps49
  go_wp2_with fail
  go_loopw [3, 11] (fun s i wr => ∃ k : Nat, k ≤ rs.length ∧ i = .int .i64 k ∧ s = .int .i64 ((flatK ls k).length : Nat) ∧ w.grownBy wr none) (fun _ i _ => rs.length - (intOf i).toNat)
  case atStart => exact ⟨0, Nat.zero_le _, rfl, rfl, World.grownBy.refl _ _⟩
  case round =>
    obtain ⟨k, hk, rfl, rfl, hg⟩ := hrel
    have hfk := hle.out k
    by_cases hlt : k < rs.length
    · have hlt2 : k < ls.length := by rw [← hlen.out]; exact hlt
      obtain ⟨e1, ⟨ad, e2⟩, hsl⟩ := hr.get k hlt hlt2
      obtain ⟨g, o, cx, rfl, hb0, hb1, rfl, hc⟩ := (hA.pure hg).at_ (by decide) hlt
      have c0 : wr.cell? ⟨g, o + k, none⟩ = some (.slice (some ad) ls[k].length rs[k].c) := by have := hc 0 _ rfl; rw [show Enc.sz RawS = 1 from rfl, Nat.mul_one, e2, e1] at this; exact this
      clear hc e1 e2
      have hfs := congrArg List.length (flatK_snoc hlt2)
      rw [List.length_append] at hfs
      have hfk1 := hle.out (k + 1)
      rw [hfs] at hfk1
      replace hfs := hide hfs
      go_wp2_with fail
      (go_roundw; (case rel => exact ⟨k + 1, by omega, by go_num, by rw [hfs.out]; go_num, (by repeat (first | exact World.grownBy.refl _ _ | assumption | refine gr_alloc ?_ _ | (apply gr_tail; assumption) | refine gr_drewN ?_ _ | refine gr_drew ?_))⟩); (case measure => simp [intOf]; omega))
    · have he : Hid (flatK ls k = flatK ls ls.length) := by rw [Hid, show k = ls.length by have := hlen.out; omega]
      rw [he.out]
      go_wp2_with fail
      refine (growV3_any (flatK ls ls.length).length _ h0 hsum).mono ?_
      rintro e w2 ⟨G, rfl, hown, hg2⟩
      have hgw : w.grownBy w2 none := (by repeat (first | exact World.grownBy.refl _ _ | assumption | refine gr_alloc ?_ _ | (apply gr_tail; assumption) | refine gr_drewN ?_ _ | refine gr_drew ?_))
      have hown := hown.lower hg.size
      clear hg2 hg he hfk
      rename World => wq
      go_wp2_with fail
      go_loopw [6, 27] (fun s i wr => ∃ (k : Nat) (A' : Option Addr) (c' : Nat), k ≤ rs.length ∧ i = .int .i64 k ∧ s = .slice A' (flatK ls k).length c' ∧ Own wr w.heap.size 47 A' c' (flatK ls k) ∧ w.grownBy wr none) (fun _ i _ => rs.length - (intOf i).toNat)
      case atStart => exact ⟨0, _, _, Nat.zero_le _, rfl, rfl, hown, hgw⟩
      case round =>
        obtain ⟨k, A', c', hk, rfl, rfl, hown, hg⟩ := hrel
        by_cases hlt : k < rs.length
        · have hlt2 : k < ls.length := by rw [← hlen.out]; exact hlt
          obtain ⟨e1, ⟨ad, e2⟩, hsl⟩ := hr.get k hlt hlt2
          obtain ⟨g, o, cx, rfl, hb0, hb1, rfl, hc⟩ := (hA.pure hg).at_ (by decide) hlt
          have c0 : wr.cell? ⟨g, o + k, none⟩ = some (.slice (some ad) ls[k].length rs[k].c) := by have := hc 0 _ rfl; rw [show Enc.sz RawS = 1 from rfl, Nat.mul_one, e2, e1] at this; exact this
          rw [e2] at hsl
          clear hc e1 e2
          have hfs := congrArg List.length (flatK_snoc hlt2)
          rw [List.length_append] at hfs
          have hfk1 := hle.out (k + 1)
          rw [hfs] at hfk1
          replace hfs := hide hfs
          have hsn := hide (flatK_snoc hlt2)
          go_wp2_with (at_builtin; refine wpList_push (α := V3) _ rfl (.tmp 31) (.tmp 32) _ rfl w.heap.size 47 i0 _ 24 Tryz.underlying26 hi hz h1 h2 rfl _ _ _ (flatK ls k) rfl rfl (by exact hown) 0 ad _ _ ls[k] rfl rfl (by exact hsl.pure hg) ?c2 ?c3 ?c4 ?_)
          case c2 => omega
          case c3 => unfold maxLen; omega
          case c4 => exact hg.size
          intro A2 c2 w3 hown3 hup
          rw [← hsn.out] at hown3
          have hl3 : Hid ((flatK ls k).length + ls[k].length = (flatK ls (k + 1)).length) := by rw [Hid, hsn.out, List.length_append]
          go_wp2
          (go_roundw; (case rel => exact ⟨k + 1, A2, c2, by omega, by go_num, by rw [← hl3.out], hown3, hup.gr (Nat.le_refl _) hg⟩); (case measure => simp [intOf]; omega))
        · have he : Hid (flatK ls k = flatK ls ls.length) := by rw [Hid, show k = ls.length by have := hlen.out; omega]
          rw [he.out] at hown
          go_wp2
          go_ret
          exact ⟨A', c', by rw [he.out]; exact rfl, hown, hg⟩

def joinE (m n : MeshV) : Int := if meshF m ≠ 0 then meshF m else if meshF n ≠ 0 then meshF n else meshF (joinM m n)

def joinR (m n : MeshV) : MeshV := if meshF m ≠ 0 ∨ meshF n ≠ 0 then ⟨[], []⟩ else okM (joinM m n)

end Go.Proofs.YtbpkkgeedkegcaaGreatDoor

namespace Go.Proofs.YtbpkkgeedkegcaaGreatDoor
open Go.RowKit Go.Bl

set_option maxHeartbeats 4000000 in
set_option maxRecDepth 100000 in
theorem joinedT_any (A : Option Addr) (c : Nat) (vs : List V3) (B : Option Addr) (d : Nat) (fs : List Fc) (A2 : Option Addr) (c2 : Nat) (vs2 : List V3) (B2 : Option Addr) (d2 : Nat) (fs2 : List Fc) (w : World) (h1 : Sl w 0 A vs) (h2 : Sl w 0 B fs) (h3 : Sl w 0 A2 vs2) (h4 : Sl w 0 B2 fs2) (hM1 : meshF ⟨vs, fs⟩ = 0) (hM2 : meshF ⟨vs2, fs2⟩ = 0) :
    Calls Tryz.prog 20 #[.agg #[.slice A vs.length c, .slice B fs.length d], .agg #[.slice A2 vs2.length c2, .slice B2 fs2.length d2]] w (SMeshT w.heap.size (okM (joinM ⟨vs, fs⟩ ⟨vs2, fs2⟩)) (meshF (joinM ⟨vs, fs⟩ ⟨vs2, fs2⟩)) w) := by
  obtain ⟨-, hvl, hfl, -, hv1⟩ := right_bd hM1
  obtain ⟨-, hvl2, hfl2, -, hv2⟩ := right_bd hM2
  have hin2 := right_in hM2
  replace hv1 := List.length_pos_iff.2 hv1
  replace hv2 := List.length_pos_iff.2 hv2
  have hC1 := fun wx (hx : w.grownBy wx none) => checkMesh_any A c vs B d fs wx ((h1.mono (Nat.zero_le _)).pure hx) ((h2.mono (Nat.zero_le _)).pure hx)
  have hC2 := fun wx (hx : w.grownBy wx none) => checkMesh_any A2 c2 vs2 B2 d2 fs2 wx ((h3.mono (Nat.zero_le _)).pure hx) ((h4.mono (Nat.zero_le _)).pure hx)
  rw [hM1] at hC1
  rw [hM2] at hC2
  clear hM1 hM2
  replace hC1 := hide hC1
  replace hC2 := hide hC2
  obtain ⟨W, hW⟩ : ∃ W, W = ((w.alloc (.cells #[.slice A vs.length c, .slice B fs.length d] 29)).alloc (.cells #[.slice A2 vs2.length c2, .slice B2 fs2.length d2] 29)).alloc (.cells #[.slice none 0 0, .slice none 0 0] 29) := ⟨_, rfl⟩
  have hWs : w.heap.size + 1 + 1 < W.heap.size := by rw [hW]; simp
  have hgW : w.grownBy W none := by rw [hW]; exact (by repeat (first | exact World.grownBy.refl _ _ | assumption | refine gr_alloc ?_ _ | (apply gr_tail; assumption) | refine gr_drewN ?_ _ | refine gr_drew ?_))
  have b0 : W.cell? ⟨w.heap.size, 0, none⟩ = some (.slice A vs.length c) := by rw [hW]; go_simp
  have b1 : W.cell? ⟨w.heap.size, 1, none⟩ = some (.slice B fs.length d) := by rw [hW]; go_simp
  have b2 : W.cell? ⟨w.heap.size + 1, 0, none⟩ = some (.slice A2 vs2.length c2) := by rw [hW]; go_simp
  have b3 : W.cell? ⟨w.heap.size + 1, 1, none⟩ = some (.slice B2 fs2.length d2) := by rw [hW]; go_simp
  have q0 : Cell W (w.heap.size + 1 + 1) 0 (.slice none 0 0) := by rw [hW]; exact ⟨by go_simp, by go_simp⟩
  have q1 : Cell W (w.heap.size + 1 + 1) 1 (.slice none 0 0) := by rw [hW]; exact ⟨by go_simp, by go_simp⟩
  replace hW := hide hW.symm
  replace hWs := hide hWs
  replace q0 := hide q0
  replace q1 := hide q1
  replace hin2 := hide hin2
  go_enter Tryz.func20, Tryz.ntmps20
  go_upto_region 1 with fail
  rw [hW.out]
  go_wp2_with fail
  obtain ⟨W', hW'⟩ : ∃ x, x = W.alloc (.cells #[.slice A vs.length c, .slice B fs.length d, .slice A2 vs2.length c2, .slice B2 fs2.length d2] 29) := ⟨_, rfl⟩
  have hgW' : W.grownBy W' none := by rw [hW']; exact gr_alloc (World.grownBy.refl _ _) _
  have u0 : W'.cell? ⟨W.heap.size, 0, none⟩ = some (.slice A vs.length c) := by rw [hW']; go_simp
  have u1 : W'.cell? ⟨W.heap.size, 1, none⟩ = some (.slice B fs.length d) := by rw [hW']; go_simp
  have u2 : W'.cell? ⟨W.heap.size, 2, none⟩ = some (.slice A2 vs2.length c2) := by rw [hW']; go_simp
  have u3 : W'.cell? ⟨W.heap.size, 3, none⟩ = some (.slice B2 fs2.length d2) := by rw [hW']; go_simp
  rw [← hW']
  clear hW'
  refine wp_loop_rounds 3 ?_
  rw [rounds_succ]
  go_wp2_with fail
  refine (hC1.out _ (gr_alloc (gr_trans hgW hgW') _)).mono ?_
  rintro e wa ⟨rfl, hga⟩
  have hga := gr_trans (gr_alloc (World.grownBy.refl W' none) _) hga
  replace u2 := hga.k u2
  replace u3 := hga.k u3
  go_wp2_with fail
  rw [rounds_succ]
  go_wp2_with fail
  refine (hC2.out _ (gr_alloc (gr_trans (gr_trans hgW hgW') hga) _)).mono ?_
  rintro e wb ⟨rfl, hgb⟩
  have hgb := gr_trans (gr_alloc (World.grownBy.refl wa none) _) hgb
  have hgWb := gr_trans (gr_trans hgW' hga) hgb
  clear hga hgb u0 u1 u2 u3
  replace b0 := hgWb.k b0
  replace b1 := hgWb.k b1
  replace b2 := hgWb.k b2
  replace b3 := hgWb.k b3
  go_wp2_with fail
  rw [rounds_succ]
  go_upto_region 8 with fail
  have hgWw := gr_trans hgW hgWb
  replace q0 := hide (q0.out.gr hgWb (by simp))
  replace q1 := hide (q1.out.gr hgWb (by simp))
  replace hWs : Hid (w.heap.size + 1 + 1 < wb.heap.size) := Nat.lt_of_lt_of_le hWs.out hgWb.size
  replace hgW := hgWw
  clear hgWw hC1 hC2
  have hB : ∀ wx, wb.grownBy wx none → wx.cell? ⟨w.heap.size, 0, none⟩ = some (.slice A vs.length c) ∧ wx.cell? ⟨w.heap.size, 1, none⟩ = some (.slice B fs.length d) ∧ wx.cell? ⟨w.heap.size + 1, 0, none⟩ = some (.slice A2 vs2.length c2) ∧ wx.cell? ⟨w.heap.size + 1, 1, none⟩ = some (.slice B2 fs2.length d2) := fun wx hx => ⟨hx.k b0, hx.k b1, hx.k b2, hx.k b3⟩
  replace hB := hide hB
  obtain ⟨g1, o1, rfl, -, -, -⟩ := h1.v3 hv1
  obtain ⟨g2, o2, rfl, -, -, -⟩ := h3.v3 hv2
  have hfk : flatK [vs, vs2] [vs, vs2].length = vs ++ vs2 := by simp [flatK]
  have hfl : (vs ++ vs2).length = vs.length + vs2.length := List.length_append
  go_cut [9] from 28 to 37 (fun s9 wx => JnR wb vs vs2 fs s9 wx)
  case first =>
    refine wp_region_tree (fun wx => wb.grownBy wx none) [2, 1, 2, 1, 0, 0, 2, 1, 0, 2, 0, 0] (.bl 0 (.bl 1 (.bl 2 (.bl 3 (.bl 6 (.bl 7 (.alt (.ef 4 (.alt (.ef 5 (.alt (.ef 8 (.bl 9 (.ef 10 (.ef 11 .done)))) (.ef 10 (.ef 8 (.bl 9 (.ef 11 .done)))))) (.ef 10 (.ef 5 (.ef 8 (.bl 9 (.ef 11 .done))))))) (.ef 10 (.ef 4 (.ef 5 (.ef 8 (.bl 9 (.ef 11 .done))))))))))))) (by kernel_rfl) (by kernel_rfl) (gr_drew (World.grownBy.refl _ _)) ?_
    obtain ⟨w1, hw1⟩ : ∃ x, x = (wb).drew := ⟨_, rfl⟩
    rw [← hw1]
    have hgw1 : (wb).grownBy w1 none := by rw [hw1]; exact gr_drew (World.grownBy.refl _ _)
    clear hw1
    refine tree_p rfl rfl rfl rfl _ rfl (by simp) (fun K hK => ?_)
    apply Exists.intro
    refine ⟨fun wq K' hK' => ?_, ?_⟩
    · go_wp2_with fail
      exact hK'
    go_simp
    refine hK _ ?_
    clear hK K
    refine tree_b rfl rfl rfl rfl _ rfl (by simp) (fun K hK => ?_)
    apply Exists.intro
    refine ⟨fun wq hq K' hK' => ?_, ?_⟩
    · obtain ⟨c0, c1, c2, c3⟩ := hB.out wq hq
      go_wp2_with fail
      exact hK'
    go_simp
    refine hK _ ?_
    clear hK K
    refine tree_p rfl rfl rfl rfl _ rfl (by simp) (fun K hK => ?_)
    apply Exists.intro
    refine ⟨fun wq K' hK' => ?_, ?_⟩
    · go_wp2_with fail
      exact hK'
    go_simp
    refine hK _ ?_
    clear hK K
    refine tree_b rfl rfl rfl rfl _ rfl (by simp) (fun K hK => ?_)
    apply Exists.intro
    refine ⟨fun wq hq K' hK' => ?_, ?_⟩
    · obtain ⟨c0, c1, c2, c3⟩ := hB.out wq hq
      go_wp2_with fail
      exact hK'
    go_simp
    refine hK _ ?_
    clear hK K
    refine tree_p rfl rfl rfl rfl _ rfl (by simp) (fun K hK => ?_)
    apply Exists.intro
    refine ⟨fun wq K' hK' => ?_, ?_⟩
    · go_wp2_with fail
      exact hK'
    go_simp
    refine hK _ ?_
    clear hK K
    refine tree_b rfl rfl rfl rfl _ rfl (by simp) (fun K hK => ?_)
    apply Exists.intro
    refine ⟨fun wq hq K' hK' => ?_, ?_⟩
    · obtain ⟨c0, c1, c2, c3⟩ := hB.out wq hq
      go_wp2_with fail
      exact hK'
    go_simp
    refine hK _ ?_
    clear hK K
    refine tree_alt ?_ ?_
    · refine tree_e rfl rfl (fun K hK => ?_)
      go_wp2_with fail
      try go_simp
      refine hK _ _ (gr_alloc (gr_trans hgw1 (World.grownBy.refl _ _)) _) ?_
      clear hK K
      obtain ⟨w4, hw4⟩ : ∃ x, x = (w1).alloc (.cells [.slice (some ⟨g1, o1, none⟩) vs.length c, .slice (some ⟨g2, o2, none⟩) vs2.length c2].toArray 26) := ⟨_, rfl⟩
      have hg4 : (w1).grownBy w4 none := by rw [hw4]; exact gr_alloc (World.grownBy.refl _ _) _
      have hb4 : Box w4 (w1).heap.size 26 [.slice (some ⟨g1, o1, none⟩) vs.length c, .slice (some ⟨g2, o2, none⟩) vs2.length c2] := by rw [hw4]; exact Box.new _ _ _
      rw [← hw4]
      clear hw4
      have hw4 : w.grownBy w4 none := gr_trans hgW (gr_trans hgw1 hg4)
      have hsl4 := hb4.sl (l := [(⟨some ⟨g1, o1, none⟩, vs.length, c⟩ : RawS), ⟨some ⟨g2, o2, none⟩, vs2.length, c2⟩]) ⟨_, _, rfl, rfl, _, [], rfl, rfl, rfl⟩ (Nat.zero_le _) (by simp [maxLen])
      have hhd4 : Heads w4 [(⟨some ⟨g1, o1, none⟩, vs.length, c⟩ : RawS), ⟨some ⟨g2, o2, none⟩, vs2.length, c2⟩] [vs, vs2] := .cons ⟨rfl, ⟨_, rfl⟩, h1.pure hw4⟩ (.cons ⟨rfl, ⟨_, rfl⟩, h3.pure hw4⟩ .nil)
      refine tree_alt ?_ ?_
      · refine tree_e rfl rfl (fun K hK => ?_)
        have hc5 := concatV3_any _ 2 2 _ [vs, vs2] w4 (hsl4.pure (World.grownBy.refl _ _)) rfl (hhd4.pure (World.grownBy.refl _ _)) (by rw [hfk, hfl]; omega) (by rw [hfk, hfl]; omega)
        rw [hfk, hfl] at hc5
        replace hc5 := hide hc5
        go_wp2_with fail
        refine hc5.out.mono ?_
        rintro e w5 ⟨A5, c5, rfl, ho5, hg5⟩
        have ho5 := ho5.lower (show wb.heap.size ≤ (w4).heap.size from (gr_trans hgw1 hg4).size)
        have hW5 : wb.grownBy w5 none := gr_trans (gr_trans hgw1 hg4) hg5
        go_wp2_with fail
        try go_simp
        refine hK _ _ (hW5) ?_
        clear hK K
        refine tree_alt ?_ ?_
        · refine tree_e0 (by kernel_rfl) rfl rfl (fun K hK => ?_)
          go_wp2_with fail
          refine (cloneFc_any B d fs w5 (h2.pure (gr_trans hgW (gr_trans hgw1 (gr_trans hg4 hg5)))) (by omega)).mono ?_
          rintro e w8 ⟨B8, d8, rfl, ho8, hg8⟩
          have ho8 := ho8.lower (show wb.heap.size ≤ (w5).heap.size from (gr_trans hgw1 (gr_trans hg4 hg5)).size)
          go_wp2_with fail
          try go_simp
          refine hK _ _ trivial ?_
          clear hK K
          refine tree_p rfl rfl rfl rfl _ rfl (by simp) (fun K hK => ?_)
          apply Exists.intro
          refine ⟨fun wq K' hK' => ?_, ?_⟩
          · go_wp2_with fail
            exact hK'
          go_simp
          refine hK _ ?_
          clear hK K
          refine tree_e rfl rfl (fun K hK => ?_)
          go_wp2_with fail
          try go_simp
          refine hK _ _ (gr_alloc (gr_trans hgw1 (gr_trans (gr_trans hg4 hg5) hg8)) _) ?_
          clear hK K
          obtain ⟨w10, hw10⟩ : ∃ x, x = (w8).alloc (.cells [.slice none 0 0, .slice none 0 0].toArray 29) := ⟨_, rfl⟩
          have hg10 : (w8).grownBy w10 none := by rw [hw10]; exact gr_alloc (World.grownBy.refl _ _) _
          have hb10 : Box w10 (w8).heap.size 29 [.slice none 0 0, .slice none 0 0] := by rw [hw10]; exact Box.new _ _ _
          rw [← hw10]
          clear hw10
          have hl10 : wb.heap.size ≤ (w8).heap.size := (gr_trans hgw1 (gr_trans (gr_trans hg4 hg5) hg8)).size
          refine tree_e0 (by kernel_rfl) rfl rfl (fun K hK => ?_)
          have hb11 := hb10.pure (w' := w10) (World.grownBy.refl _ _)
          obtain ⟨x0, y0⟩ := hb11.c 0 rfl
          obtain ⟨x1, y1⟩ := hb11.c 1 rfl
          have hF := JnR.fin (la := vs) (lb := vs2) (lf := fs) hl10 hb11 (ho5.pure (w' := w10) (gr_trans hg8 hg10)) (ho8.pure (w' := w10) hg10) (gr_trans hgw1 (gr_trans (gr_trans (gr_trans hg4 hg5) hg8) hg10))
          replace hF := hide hF
          go_wp2_with fail
          try go_simp
          refine hK _ _ trivial ?_
          clear hK K
          refine tree_done ?_
          go_wp2_with fail
          go_meet
          exact hF.out
        · refine tree_e rfl rfl (fun K hK => ?_)
          go_wp2_with fail
          try go_simp
          refine hK _ _ (gr_alloc (gr_trans hgw1 (gr_trans hg4 hg5)) _) ?_
          clear hK K
          obtain ⟨w10, hw10⟩ : ∃ x, x = (w5).alloc (.cells [.slice none 0 0, .slice none 0 0].toArray 29) := ⟨_, rfl⟩
          have hg10 : (w5).grownBy w10 none := by rw [hw10]; exact gr_alloc (World.grownBy.refl _ _) _
          have hb10 : Box w10 (w5).heap.size 29 [.slice none 0 0, .slice none 0 0] := by rw [hw10]; exact Box.new _ _ _
          rw [← hw10]
          clear hw10
          have hl10 : wb.heap.size ≤ (w5).heap.size := (gr_trans hgw1 (gr_trans hg4 hg5)).size
          refine tree_e0 (by kernel_rfl) rfl rfl (fun K hK => ?_)
          go_wp2_with fail
          refine (cloneFc_any B d fs w10 (h2.pure (gr_trans hgW (gr_trans hgw1 (gr_trans (gr_trans hg4 hg5) hg10)))) (by omega)).mono ?_
          rintro e w8 ⟨B8, d8, rfl, ho8, hg8⟩
          have ho8 := ho8.lower (show wb.heap.size ≤ (w10).heap.size from (gr_trans hgw1 (gr_trans (gr_trans hg4 hg5) hg10)).size)
          go_wp2_with fail
          try go_simp
          refine hK _ _ trivial ?_
          clear hK K
          refine tree_p rfl rfl rfl rfl _ rfl (by simp) (fun K hK => ?_)
          apply Exists.intro
          refine ⟨fun wq K' hK' => ?_, ?_⟩
          · go_wp2_with fail
            exact hK'
          go_simp
          refine hK _ ?_
          clear hK K
          refine tree_e0 (by kernel_rfl) rfl rfl (fun K hK => ?_)
          have hb11 := hb10.pure (w' := w8) hg8
          obtain ⟨x0, y0⟩ := hb11.c 0 rfl
          obtain ⟨x1, y1⟩ := hb11.c 1 rfl
          have hF := JnR.fin (la := vs) (lb := vs2) (lf := fs) hl10 hb11 (ho5.pure (w' := w8) (gr_trans hg10 hg8)) (ho8.pure (w' := w8) (World.grownBy.refl _ _)) (gr_trans hgw1 (gr_trans (gr_trans (gr_trans hg4 hg5) hg10) hg8))
          replace hF := hide hF
          go_wp2_with fail
          try go_simp
          refine hK _ _ trivial ?_
          clear hK K
          refine tree_done ?_
          go_wp2_with fail
          go_meet
          exact hF.out
      · refine tree_e rfl rfl (fun K hK => ?_)
        go_wp2_with fail
        try go_simp
        refine hK _ _ (gr_alloc (gr_trans hgw1 hg4) _) ?_
        clear hK K
        obtain ⟨w10, hw10⟩ : ∃ x, x = (w4).alloc (.cells [.slice none 0 0, .slice none 0 0].toArray 29) := ⟨_, rfl⟩
        have hg10 : (w4).grownBy w10 none := by rw [hw10]; exact gr_alloc (World.grownBy.refl _ _) _
        have hb10 : Box w10 (w4).heap.size 29 [.slice none 0 0, .slice none 0 0] := by rw [hw10]; exact Box.new _ _ _
        rw [← hw10]
        clear hw10
        have hl10 : wb.heap.size ≤ (w4).heap.size := (gr_trans hgw1 hg4).size
        refine tree_e rfl rfl (fun K hK => ?_)
        have hc5 := concatV3_any _ 2 2 _ [vs, vs2] w10 (hsl4.pure hg10) rfl (hhd4.pure hg10) (by rw [hfk, hfl]; omega) (by rw [hfk, hfl]; omega)
        rw [hfk, hfl] at hc5
        replace hc5 := hide hc5
        go_wp2_with fail
        refine hc5.out.mono ?_
        rintro e w5 ⟨A5, c5, rfl, ho5, hg5⟩
        have ho5 := ho5.lower (show wb.heap.size ≤ (w10).heap.size from (gr_trans hgw1 (gr_trans hg4 hg10)).size)
        have hW5 : wb.grownBy w5 none := gr_trans (gr_trans hgw1 (gr_trans hg4 hg10)) hg5
        go_wp2_with fail
        try go_simp
        refine hK _ _ (hW5) ?_
        clear hK K
        refine tree_e0 (by kernel_rfl) rfl rfl (fun K hK => ?_)
        go_wp2_with fail
        refine (cloneFc_any B d fs w5 (h2.pure (gr_trans hgW (gr_trans hgw1 (gr_trans (gr_trans hg4 hg10) hg5)))) (by omega)).mono ?_
        rintro e w8 ⟨B8, d8, rfl, ho8, hg8⟩
        have ho8 := ho8.lower (show wb.heap.size ≤ (w5).heap.size from (gr_trans hgw1 (gr_trans (gr_trans hg4 hg10) hg5)).size)
        go_wp2_with fail
        try go_simp
        refine hK _ _ trivial ?_
        clear hK K
        refine tree_p rfl rfl rfl rfl _ rfl (by simp) (fun K hK => ?_)
        apply Exists.intro
        refine ⟨fun wq K' hK' => ?_, ?_⟩
        · go_wp2_with fail
          exact hK'
        go_simp
        refine hK _ ?_
        clear hK K
        refine tree_e0 (by kernel_rfl) rfl rfl (fun K hK => ?_)
        have hb11 := hb10.pure (w' := w8) (gr_trans hg5 hg8)
        obtain ⟨x0, y0⟩ := hb11.c 0 rfl
        obtain ⟨x1, y1⟩ := hb11.c 1 rfl
        have hF := JnR.fin (la := vs) (lb := vs2) (lf := fs) hl10 hb11 (ho5.pure (w' := w8) hg8) (ho8.pure (w' := w8) (World.grownBy.refl _ _)) (gr_trans hgw1 (gr_trans (gr_trans (gr_trans hg4 hg10) hg5) hg8))
        replace hF := hide hF
        go_wp2_with fail
        try go_simp
        refine hK _ _ trivial ?_
        clear hK K
        refine tree_done ?_
        go_wp2_with fail
        go_meet
        exact hF.out
    · refine tree_e rfl rfl (fun K hK => ?_)
      go_wp2_with fail
      try go_simp
      refine hK _ _ (gr_alloc (gr_trans hgw1 (World.grownBy.refl _ _)) _) ?_
      clear hK K
      obtain ⟨w10, hw10⟩ : ∃ x, x = (w1).alloc (.cells [.slice none 0 0, .slice none 0 0].toArray 29) := ⟨_, rfl⟩
      have hg10 : (w1).grownBy w10 none := by rw [hw10]; exact gr_alloc (World.grownBy.refl _ _) _
      have hb10 : Box w10 (w1).heap.size 29 [.slice none 0 0, .slice none 0 0] := by rw [hw10]; exact Box.new _ _ _
      rw [← hw10]
      clear hw10
      have hl10 : wb.heap.size ≤ (w1).heap.size := (gr_trans hgw1 (World.grownBy.refl _ _)).size
      refine tree_e rfl rfl (fun K hK => ?_)
      go_wp2_with fail
      try go_simp
      refine hK _ _ (gr_alloc (gr_trans hgw1 hg10) _) ?_
      clear hK K
      obtain ⟨w4, hw4⟩ : ∃ x, x = (w10).alloc (.cells [.slice (some ⟨g1, o1, none⟩) vs.length c, .slice (some ⟨g2, o2, none⟩) vs2.length c2].toArray 26) := ⟨_, rfl⟩
      have hg4 : (w10).grownBy w4 none := by rw [hw4]; exact gr_alloc (World.grownBy.refl _ _) _
      have hb4 : Box w4 (w10).heap.size 26 [.slice (some ⟨g1, o1, none⟩) vs.length c, .slice (some ⟨g2, o2, none⟩) vs2.length c2] := by rw [hw4]; exact Box.new _ _ _
      rw [← hw4]
      clear hw4
      have hw4 : w.grownBy w4 none := gr_trans hgW (gr_trans hgw1 (gr_trans hg10 hg4))
      have hsl4 := hb4.sl (l := [(⟨some ⟨g1, o1, none⟩, vs.length, c⟩ : RawS), ⟨some ⟨g2, o2, none⟩, vs2.length, c2⟩]) ⟨_, _, rfl, rfl, _, [], rfl, rfl, rfl⟩ (Nat.zero_le _) (by simp [maxLen])
      have hhd4 : Heads w4 [(⟨some ⟨g1, o1, none⟩, vs.length, c⟩ : RawS), ⟨some ⟨g2, o2, none⟩, vs2.length, c2⟩] [vs, vs2] := .cons ⟨rfl, ⟨_, rfl⟩, h1.pure hw4⟩ (.cons ⟨rfl, ⟨_, rfl⟩, h3.pure hw4⟩ .nil)
      refine tree_e rfl rfl (fun K hK => ?_)
      have hc5 := concatV3_any _ 2 2 _ [vs, vs2] w4 (hsl4.pure (World.grownBy.refl _ _)) rfl (hhd4.pure (World.grownBy.refl _ _)) (by rw [hfk, hfl]; omega) (by rw [hfk, hfl]; omega)
      rw [hfk, hfl] at hc5
      replace hc5 := hide hc5
      go_wp2_with fail
      refine hc5.out.mono ?_
      rintro e w5 ⟨A5, c5, rfl, ho5, hg5⟩
      have ho5 := ho5.lower (show wb.heap.size ≤ (w4).heap.size from (gr_trans hgw1 (gr_trans hg10 hg4)).size)
      have hW5 : wb.grownBy w5 none := gr_trans (gr_trans hgw1 (gr_trans hg10 hg4)) hg5
      go_wp2_with fail
      try go_simp
      refine hK _ _ (hW5) ?_
      clear hK K
      refine tree_e0 (by kernel_rfl) rfl rfl (fun K hK => ?_)
      go_wp2_with fail
      refine (cloneFc_any B d fs w5 (h2.pure (gr_trans hgW (gr_trans hgw1 (gr_trans (gr_trans hg10 hg4) hg5)))) (by omega)).mono ?_
      rintro e w8 ⟨B8, d8, rfl, ho8, hg8⟩
      have ho8 := ho8.lower (show wb.heap.size ≤ (w5).heap.size from (gr_trans hgw1 (gr_trans (gr_trans hg10 hg4) hg5)).size)
      go_wp2_with fail
      try go_simp
      refine hK _ _ trivial ?_
      clear hK K
      refine tree_p rfl rfl rfl rfl _ rfl (by simp) (fun K hK => ?_)
      apply Exists.intro
      refine ⟨fun wq K' hK' => ?_, ?_⟩
      · go_wp2_with fail
        exact hK'
      go_simp
      refine hK _ ?_
      clear hK K
      refine tree_e0 (by kernel_rfl) rfl rfl (fun K hK => ?_)
      have hb11 := hb10.pure (w' := w8) (gr_trans (gr_trans hg4 hg5) hg8)
      obtain ⟨x0, y0⟩ := hb11.c 0 rfl
      obtain ⟨x1, y1⟩ := hb11.c 1 rfl
      have hF := JnR.fin (la := vs) (lb := vs2) (lf := fs) hl10 hb11 (ho5.pure (w' := w8) hg8) (ho8.pure (w' := w8) (World.grownBy.refl _ _)) (gr_trans hgw1 (gr_trans (gr_trans (gr_trans hg10 hg4) hg5) hg8))
      replace hF := hide hF
      go_wp2_with fail
      try go_simp
      refine hK _ _ trivial ?_
      clear hK K
      refine tree_done ?_
      go_wp2_with fail
      go_meet
      exact hF.out
  case rest =>
    obtain ⟨g, A5, c5, B8, d8, rfl, hgl, hb, ho5, ho8, hgw⟩ := hcut
    rename World => wc
    have hwW := gr_trans hgW hgw
    have c0 := hgw.k b0
    have c3 := hgw.k b3
    go_upto_if 45 with fail
    go_loopw [44] (fun i wr => ∃ (k : Nat) (B' : Option Addr) (d' : Nat), k ≤ fs2.length ∧ i = .int .i64 k ∧ Box wr g 29 [.slice A5 (vs.length + vs2.length) c5, .slice B' (fs.length + k) d'] ∧ Own wr wb.heap.size 47 A5 c5 (vs ++ vs2) ∧ Own wr wb.heap.size 54 B' d' (jnK vs.length fs fs2 k) ∧ wb.grownBy wr none) (fun i _ => fs2.length - (intOf i).toNat)
    case atStart => exact ⟨0, B8, d8, by omega, rfl, hb, ho5, by rw [jnK_zero]; exact ho8, hgw⟩
    case round =>
      obtain ⟨k, B', d', hk, rfl, hb, ho5, ho8, hg⟩ := hrel
      have hgt := hb.lt
      obtain ⟨y0, z0⟩ := hb.c 0 rfl
      obtain ⟨y1, z1⟩ := hb.c 1 rfl
      have hlen : Hid ((jnK vs.length fs fs2 k).length = fs.length + k) := jnK_len hk
      by_cases hlt : k < fs2.length
      · obtain ⟨gf, of, rfl, -, hbg, hcc⟩ := (h4.pure (gr_trans hgW hg)).fc (by omega)
        obtain ⟨x0, x1, x2⟩ := hcc k hlt
        clear hcc
        have hmem := List.getElem_mem hlt
        obtain ⟨⟨p1, p2⟩, ⟨p3, p4⟩, p5, p6⟩ := inF_bd (hin2.out _ hmem)
        have hsn : Hid (jnK vs.length fs fs2 (k + 1) = jnK vs.length fs fs2 k ++ [shF vs.length fs2[k]]) := jnK_snoc hlt
        generalize fs2[k] = f at *
        obtain ⟨fa, fb, fc⟩ := f
        simp only at x0 x1 x2 p1 p2 p3 p4 p5 p6
        replace ho8 := hide ho8
        replace ho5 := hide ho5
        have hq := gr_alloc (gr_alloc (World.grownBy.refl wr none) (.cells #[.int .i64 fa, .int .i64 fb, .int .i64 fc] 54)) (.cells #[.int .i64 (fa + vs.length), .int .i64 (fb + vs.length), .int .i64 (fc + vs.length)] 54)
        go_wp2_with (at_builtin; obtain ⟨i0, hi, hz, h1, h2⟩ := info_parts info_face; refine wpList_pushAt (α := Fc) _ rfl (.tmp 49) (.tmp 63) _ rfl wb.heap.size 54 i0 _ 24 Tryz.underlying27 hi hz h1 h2 rfl _ _ _ (jnK vs.length fs fs2 k) rfl ?c1 (by exact (ho8.out.pure hq)) 0 ⟨_, 0, none⟩ 1 1 [⟨_, _, _⟩] rfl rfl (by exact (sl_oneAt _ 0 _ _ _ _ (by first | rfl | simp) (Nat.zero_le _) rfl)) ?c2 ?c3 ?c4 ?_)
        case c1 => exact hlen.out.symm
        case c2 => rw [hlen.out]; simp; omega
        case c3 => rw [hlen.out]; simp [maxLen]; omega
        case c4 => have := hg.size; have := hq.size; omega
        intro B5 d5 w5 ho8' hG5
        have hbq := hb.pure hq
        have hoq := ho8.out.pure hq
        have hb5 := hbq.gr hG5.1 (hbq.ne_own hoq (by decide))
        have hg5 : wb.grownBy w5 none := gr_row (gr_trans hg hq) hG5.1 (fun x e => (hoq.blk_lt e).1)
        have ho5q := ho5.out.pure hq
        have ho55 := ho5q.ne hG5.1 (fun x hx => ho5q.ne_own hoq (by decide) hx)
        obtain ⟨y0, z0⟩ := hb5.c 0 rfl
        obtain ⟨y1, z1⟩ := hb5.c 1 rfl
        have hb6 := hide (hb5.set_ 1 (.slice B5 (fs.length + k + 1) d5) (by simp))
        have ho56 := hide (ho55.set_other (i := 1) (.slice B5 (fs.length + k + 1) d5) (hb5.ne_own ho55 (by decide)))
        rw [show ([⟨fa + vs.length, fb + vs.length, fc + vs.length⟩] : List Fc) = [shF vs.length ⟨fa, fb, fc⟩] from rfl, ← hsn.out] at ho8'
        have ho86 := hide (ho8'.set_other (i := 1) (.slice B5 (fs.length + k + 1) d5) (hb5.ne_own ho8' (by decide)))
        have hg6 := hide (gr_set hg5 (p := ⟨g, 1, none⟩) (.inr hgl) (.slice B5 (fs.length + k + 1) d5))
        rw [hlen.out]
        clear hb5 hbq hoq ho5q ho55 ho8' hG5 hq hb
        go_wp2_with fail
        (go_roundw; (case rel => exact ⟨k + 1, B5, d5, by omega, by go_num, hb6.out, ho56.out, ho86.out, hg6.out⟩); (case measure => simp [intOf]; omega))
      · have hkn : k = fs2.length := by omega
        subst hkn
        rw [jnK_all vs vs2 fs fs2] at ho8 hlen
        have hR := checkedT_any A5 c5 (vs ++ vs2) B' d' (joinM ⟨vs, fs⟩ ⟨vs2, fs2⟩).fs wr wb.heap.size ho5.sl ho8.sl (OpA.own ho5) (OpA.own ho8)
        rw [hlen.out, List.length_append] at hR
        replace hR := hide hR
        obtain ⟨m0, f0⟩ := q0.out.gr hg (by simp)
        obtain ⟨m1, f1⟩ := q1.out.gr hg (by simp)
        have hwr := gr_trans hgW hg
        clear ho8 ho5 hlen
        go_wp2_with fail
        refine hR.out.mono ?_
        rintro e w1 ⟨A9, c9, B9, d9, rfl, hs9, hf9, o1, o2, hg9⟩
        have hle := hWs.out
        obtain ⟨m0, f0⟩ := Cell.gr ⟨m0, f0⟩ hg9 (by simp)
        obtain ⟨m1, f1⟩ := Cell.gr ⟨m1, f1⟩ hg9 (by simp)
        have hgs := fun (v1 v2 : Value) => gr_set (gr_set (World.grownBy.refl w1 (some (w.heap.size + 1 + 1))) (p := ⟨w.heap.size + 1 + 1, 0, none⟩) (.inl rfl) v1) (p := ⟨w.heap.size + 1 + 1, 1, none⟩) (.inl rfl) v2
        have hk := fun v1 v2 => gr_row (gr_trans hwr hg9) (hgs v1 v2) (fun g e => by injection e; omega)
        replace hgs := hide hgs
        replace hk := hide hk
        rw [show (⟨vs ++ vs2, (joinM ⟨vs, fs⟩ ⟨vs2, fs2⟩).fs⟩ : MeshV) = joinM ⟨vs, fs⟩ ⟨vs2, fs2⟩ from rfl] at hs9 hf9 ⊢
        generalize joinM ⟨vs, fs⟩ ⟨vs2, fs2⟩ = J at *
        generalize meshF J = F at *
        generalize okM J = R at *
        go_wp2_with fail
        exact bodyPost_ret (v := .tuple #[.agg #[.slice A9 R.vs.length c9, .slice B9 R.fs.length d9], .int .i64 F]) (by simp [results, Tryz.results20, go_sem, m0, m1, f0, f1]) rfl ⟨A9, c9, B9, d9, rfl, (hs9.gr (hgs.out _ _) (fun g e => by injection e; omega)).mono (by omega), (hf9.gr (hgs.out _ _) (fun g e => by injection e; omega)).mono (by omega), (o1.gr (hgs.out _ _) (fun g e => by injection e; omega)).mono (by omega), (o2.gr (hgs.out _ _) (fun g e => by injection e; omega)).mono (by omega), hk.out _ _⟩

end Go.Proofs.YtbpkkgeedkegcaaGreatDoor

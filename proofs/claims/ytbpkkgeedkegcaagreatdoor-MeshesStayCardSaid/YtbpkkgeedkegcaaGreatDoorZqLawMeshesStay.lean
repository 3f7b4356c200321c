/- Contracts of functions that this seat's laws reach, each: what one call returns and what it leaves in memory; no condition beyond each theorem's own hypotheses. -/
import Derived.Test.YtbpkkgeedkegcaaGreatDoorZqReady
import Derived.Test.YtbpkkgeedkegcaaGreatDoorZqClosM
import Derived.Test.YtbpkkgeedkegcaaGreatDoorZqShellB
import Derived.Test.YtbpkkgeedkegcaaGreatDoorZqStayLaw
import Derived.Test.YtbpkkgeedkegcaaGreatDoorZqStayM
import Derived.Test.YtbpkkgeedkegcaaGreatDoorZqMeshTB
import Derived.Test.YtbpkkgeedkegcaaGreatDoorZqMeshTC
import Derived.Test.YtbpkkgeedkegcaaGreatDoorZqMeshTE
import Derived.Test.YtbpkkgeedkegcaaGreatDoorZqWeldData2
import Derived.Deep.DeepCutAuto
set_option linter.unusedVariables false
set_option linter.unusedSimpArgs false
namespace Go.Proofs.YtbpkkgeedkegcaaGreatDoor
open Go Go.RowKit Go.Bl

/-- a box that holds a mesh, its rows from lo on -/
def MBs (lo g : Nat) (m : MeshV) (w : World) : Prop := lo ≤ g ∧ ∃ (A : Option Addr) (c : Nat) (B : Option Addr) (d : Nat), w.cell? ⟨g, 0, none⟩ = some (.slice A m.vs.length c) ∧ w.cell? ⟨g, 1, none⟩ = some (.slice B m.fs.length d) ∧ Sl w lo A m.vs ∧ Sl w lo B m.fs

theorem MBs.pure {lo g : Nat} {m : MeshV} {w w' : World} (h : MBs lo g m w) (hg : w.grownBy w' none) : MBs lo g m w' :=
  let ⟨hl, A, c, B, d, h1, h2, h3, h4⟩ := h
  ⟨hl, A, c, B, d, hg.k h1, hg.k h2, h3.pure hg, h4.pure hg⟩
/-- a box that holds a mesh that may be spoiled -/
def MSp (lo g : Nat) (w : World) : Prop := ∃ (A : Option Addr) (n c : Nat) (B : Option Addr) (m d : Nat), w.cell? ⟨g, 0, none⟩ = some (.slice A n c) ∧ w.cell? ⟨g, 1, none⟩ = some (.slice B m d) ∧ RowI w lo A n 3 ∧ RowI w lo B m 3 ∧ n ≤ 100000 ∧ m ≤ 100000

theorem MSp.pure {lo g : Nat} {w w' : World} (h : MSp lo g w) (hg : w.grownBy w' none) : MSp lo g w' :=
  let ⟨A, n, c, B, m, d, h1, h2, h3, h4, h5, h6⟩ := h
  ⟨A, n, c, B, m, d, hg.k h1, hg.k h2, h3.gr hg, h4.gr hg, h5, h6⟩

theorem MSp.new {lo : Nat} {m : MeshV} {A : Option Addr} {c : Nat} {B : Option Addr} {d : Nat} {w : World} (h1 : Sl w lo A m.vs) (h2 : Sl w lo B m.fs) (o1 : OpA w lo A) (o2 : OpA w lo B) (hv : m.vs.length ≤ 100000) (hf : m.fs.length ≤ 100000) : MSp lo w.heap.size (w.alloc (.cells #[.slice A m.vs.length c, .slice B m.fs.length d] 29)) :=
  ⟨A, _, c, B, _, d, by go_simp, by go_simp, (RowI.v3 h1 o1).gr (gr_alloc (World.grownBy.refl _ _) _), (RowI.fc h2 o2).gr (gr_alloc (World.grownBy.refl _ _) _), hv, hf⟩

theorem turn_none {vs : List V3} {fs : List Fc} (hM : meshF ⟨vs, fs⟩ = 0) : turnR ⟨vs, fs⟩ 0 0 = (⟨vs.map (turnV 0 0), fs⟩, 0) := by
  have e : vs.map (turnV 0 0) = vs := by
    conv => rhs; rw [← List.map_id vs]
    exact List.map_congr_left fun v _ => rfl
  unfold turnR
  rw [if_pos hM, if_neg (by unfold outB; simp), if_neg (by unfold outB; simp)]
  show (okM ⟨vs.map (turnV 0 0), fs⟩, meshF ⟨vs.map (turnV 0 0), fs⟩) = _
  rw [e, hM, show okM ⟨vs, fs⟩ = ⟨vs, fs⟩ from if_pos hM]

theorem shellsI_eq2 (fs : List Fc) : shellsI fs fs.length = (shellsF fs).map gi := rfl

theorem shell_mem2 {fs : List Fc} {g : List Nat} (h : g ∈ shellsF fs) : g.length ≤ fs.length := by
  unfold shellsF shellsTo at h
  obtain ⟨i, -, rfl⟩ := List.mem_map.1 h
  exact nodup_bound (comp_nodup fs i) fun k hk => (mem_comp.1 hk).lt.2

theorem shellsF_len2 (fs : List Fc) : (shellsF fs).length ≤ fs.length := by have := shellsI_len fs fs.length; rw [shellsI_eq2] at this; simpa using this
/-- what the region of the copy leaves -/
def CPR (w2 : World) (lo : Nat) (vs : List V3) (fs : List Fc) (s5 : Value) (wx : World) : Prop :=
  ∃ x5 : Nat, s5 = .pointer (some ⟨x5, 0, none⟩) ∧ MBs lo x5 ⟨vs, fs⟩ wx ∧ w2.grownBy wx none

set_option maxHeartbeats 4000000 in
set_option maxRecDepth 100000 in
theorem meshesStay_law (A : Option Addr) (n c : Nat) (L : List Int) (w : World) (hL : Sl w 0 A L) (hn : L.length = n) :
    Calls Tryz.prog 5 #[.slice A n c] w fun e w' => e = .returned (.bool true) ∧ w.grownBy w' none := by
  have hs0 := strm_new (c := c) 25 hL hn
  have hg0 := gr_alloc (World.grownBy.refl w none) (.cells #[.slice A n c, .int .i64 0] 25)
  go_enter Tryz.func5, Tryz.ntmps5
  go_wp2_with fail
  refine (closedMesh_any _ 0 _ hs0 (by omega)).mono ?_
  rintro e w1 ⟨A1, c1, vs, B1, d1, fs, rfl, hl, hf, ho1, hM, hvl, hfl, hcl⟩
  replace hg0 := gr_new hg0 ho1.1 (Nat.le_refl _)
  replace hl := hl.mono (Nat.zero_le _)
  replace hf := hf.mono (Nat.zero_le _)
  clear ho1 hs0
  have h2f := closed_two hM hcl
  have hJo := join_ok hM (by omega) (by omega)
  obtain ⟨hP1, pm, hP2, hP3, hP4⟩ := part_two hM h2f
  obtain ⟨-, hW2, hW3, -, -, hW4⟩ := weld_once hM
  have hTu := fun A c B d W h1 h2 => turnedT_any A c vs B d fs 0 0 W h1 h2
  rw [turn_none hM] at hTu
  have hJn := fun A c B d A2 c2 B2 d2 W h1 h2 h3 h4 => joinedT_any A c vs B d fs A2 c2 vs B2 d2 fs W h1 h2 h3 h4 hM hM
  rw [show okM (joinM ⟨vs, fs⟩ ⟨vs, fs⟩) = joinM ⟨vs, fs⟩ ⟨vs, fs⟩ from if_pos hJo, hJo] at hJn
  have hPa := fun F e0 A c B d W h1 h2 h3 => partT_any A c vs B d fs F e0 [(fs.length : Int) - 1, 0] W h1 h2 h3 hM (by simp) (by simp)
  rw [hP1, hP2, show ([(fs.length : Int) - 1, 0] : List Int).length = 2 from rfl] at hPa
  have hWd := fun A c B d W h1 h2 => weldedT_any A c vs B d fs W h1 h2 hM
  have hSh := fun A c B d W h1 h2 => meshShells_any A c vs B d fs W h1 h2 hM
  rw [shellsI_eq2] at hSh
  have hmem : Hid (∀ x ∈ (shellsF fs).map gi, x.length ≤ 100000) := fun x hx => by
    obtain ⟨g, hg, rfl⟩ := List.mem_map.1 hx
    rw [gi_len]
    have := (shell_mem2 hg)
    omega
  have hSn := shellsF_len2 fs
  have hXv : (okM (weldM vs fs)).vs.length ≤ 100 ∧ (okM (weldM vs fs)).fs.length ≤ 100 := by
    unfold okM
    split
    · exact ⟨Nat.le_trans (keepTo_len _ _ _) hvl, by rw [hW4]; exact hfl⟩
    · simp
  have hE : meshF (weldM vs fs) = 0 ∨ meshF (weldM vs fs) = 6 := by
    have h := weld_once hM
    rw [← h.1]; exact h.2.1
  have hJv : (joinM ⟨vs, fs⟩ ⟨vs, fs⟩).vs.length ≤ 200 ∧ (joinM ⟨vs, fs⟩ ⟨vs, fs⟩).fs.length ≤ 200 := by
    unfold joinM
    simp only [List.length_append, List.length_map]
    omega
  have hTv : (vs.map (turnV 0 0)).length ≤ 100 := by rw [List.length_map]; exact hvl
  simp only at hTu hJn hPa hWd
  unfold SMeshT at hTu hJn hPa hWd
  have hSm := fun A c B d A2 c2 B2 d2 w => sameMesh_any A c vs B d fs A2 c2 B2 d2 w
  clear hW2 hW3 hW4 hP1 hP2 hJo hM hcl
  generalize vs.map (turnV 0 0) = ta at *
  generalize meshF (weldM vs fs) = E at *
  generalize okM (weldM vs fs) = X at *
  generalize joinM ⟨vs, fs⟩ ⟨vs, fs⟩ = J at *
  generalize shellsF fs = SH at *
  obtain ⟨xv, xf⟩ := X
  obtain ⟨jv, jf⟩ := J
  obtain ⟨pv, pf⟩ := pm
  simp only at hTu hJn hPa hWd hXv hJv hP3 hP4
  have hP5 : pf.length ≤ 2 := by omega
  clear hP4
  replace hTu := hide hTu
  replace hJn := hide hJn
  replace hPa := hide hPa
  replace hWd := hide hWd
  replace hSh := hide hSh
  replace hSm := hide hSm
  replace hE := hide hE
  obtain ⟨w2, hw2⟩ : ∃ W, W = w1.alloc (.cells #[.slice A1 vs.length c1, .slice B1 fs.length d1] 29) := ⟨_, rfl⟩
  have hgW : w1.grownBy w2 none := by rw [hw2]; exact (by repeat (first | exact World.grownBy.refl _ _ | assumption | refine gr_alloc ?_ _ | (apply gr_tail; assumption) | refine gr_drewN ?_ _ | refine gr_drew ?_))
  have hB : ∀ wx, w2.grownBy wx none → wx.cell? ⟨w1.heap.size, 0, none⟩ = some (.slice A1 vs.length c1) ∧ wx.cell? ⟨w1.heap.size, 1, none⟩ = some (.slice B1 fs.length d1) ∧ Sl wx 0 A1 vs ∧ Sl wx 0 B1 fs := fun wx h => ⟨h.k (by rw [hw2]; go_simp), h.k (by rw [hw2]; go_simp), (hl.pure hgW).pure h, (hf.pure hgW).pure h⟩
  replace hB := hide hB
  replace hg0 := gr_trans hg0 hgW
  clear hl hf hgW
  go_upto_region 3 with fail
  rw [← hw2]
  clear hw2
  generalize w1.heap.size = x4 at *
  clear w1
  go_cut [5] from 26 to 32 (fun s5 wx => CPR w2 0 vs fs s5 wx)
  case first =>
    clear hg0 hTu hJn hPa hWd hSh hSm hE hmem
    refine wp_region_tree (fun wx => w2.grownBy wx none) [2, 1, 0, 2, 1, 0, 2, 0, 0] (.bl 0 (.bl 1 (.bl 3 (.bl 4 (.alt (.ef 2 (.alt (.ef 5 (.bl 6 (.ef 7 (.ef 8 .done)))) (.ef 7 (.ef 5 (.bl 6 (.ef 8 .done)))))) (.ef 7 (.ef 2 (.ef 5 (.bl 6 (.ef 8 .done)))))))))) (by kernel_rfl) (by kernel_rfl) (gr_drew (World.grownBy.refl _ _)) ?_
    obtain ⟨W1, hW1⟩ : ∃ x, x = (w2).drew := ⟨_, rfl⟩
    rw [← hW1]
    have hgW1 : (w2).grownBy W1 none := by rw [hW1]; exact gr_drew (World.grownBy.refl _ _)
    clear hW1
    refine tree_p rfl rfl rfl rfl _ rfl (by simp) (fun K hK => ?_)
    apply Exists.intro
    refine ⟨fun wq K' hK' => ?_, ?_⟩
    · go_wp2_with fail
      exact hK'
    go_simp
    refine hK _ ?_
    clear hK K
    refine tree_b rfl rfl rfl rfl _ rfl (by simp) (fun K hK => ?_)
    apply Exists.intro
    refine ⟨fun wq hq K' hK' => ?_, ?_⟩
    · obtain ⟨q0, q1, -, -⟩ := hB.out wq hq
      go_wp2_with fail
      exact hK'
    go_simp
    refine hK _ ?_
    clear hK K
    refine tree_p rfl rfl rfl rfl _ rfl (by simp) (fun K hK => ?_)
    apply Exists.intro
    refine ⟨fun wq K' hK' => ?_, ?_⟩
    · go_wp2_with fail
      exact hK'
    go_simp
    refine hK _ ?_
    clear hK K
    refine tree_b rfl rfl rfl rfl _ rfl (by simp) (fun K hK => ?_)
    apply Exists.intro
    refine ⟨fun wq hq K' hK' => ?_, ?_⟩
    · obtain ⟨q0, q1, -, -⟩ := hB.out wq hq
      go_wp2_with fail
      exact hK'
    go_simp
    refine hK _ ?_
    clear hK K
    refine tree_alt ?_ ?_
    · refine tree_e rfl rfl (fun K hK => ?_)
      go_wp2_with fail
      refine (cloneV3_any A1 c1 vs W1 (hB.out W1 (gr_trans hgW1 (World.grownBy.refl _ _))).2.2.1 (by omega)).mono ?_
      rintro e w3 ⟨A3, c3, rfl, ho3, hg2⟩
      replace ho3 := ho3.lower (Nat.zero_le _)
      go_wp2_with fail
      try go_simp
      refine hK _ _ ((gr_trans hgW1 (gr_trans (World.grownBy.refl _ _) hg2))) ?_
      clear hK K
      refine tree_alt ?_ ?_
      · refine tree_e0 (by kernel_rfl) rfl rfl (fun K hK => ?_)
        go_wp2_with fail
        refine (cloneFc_any B1 d1 fs w3 (hB.out w3 (gr_trans hgW1 hg2)).2.2.2 (by omega)).mono ?_
        rintro e w5 ⟨B5, d5, rfl, ho5, hg5⟩
        replace ho5 := ho5.lower (Nat.zero_le _)
        go_wp2_with fail
        try go_simp
        refine hK _ _ trivial ?_
        clear hK K
        refine tree_p rfl rfl rfl rfl _ rfl (by simp) (fun K hK => ?_)
        apply Exists.intro
        refine ⟨fun wq K' hK' => ?_, ?_⟩
        · go_wp2_with fail
          exact hK'
        go_simp
        refine hK _ ?_
        clear hK K
        refine tree_e rfl rfl (fun K hK => ?_)
        go_wp2_with fail
        try go_simp
        refine hK _ _ (gr_alloc (gr_trans hgW1 (gr_trans hg2 hg5)) _) ?_
        clear hK K
        obtain ⟨w8, hw8⟩ : ∃ x, x = (w5).alloc (.cells #[.slice none 0 0, .slice none 0 0] 29) := ⟨_, rfl⟩
        have hg7 : (w5).grownBy w8 none := by rw [hw8]; exact gr_alloc (World.grownBy.refl _ _) _
        have hb8 : Box w8 (w5).heap.size 29 [.slice none 0 0, .slice none 0 0] := by rw [hw8]; exact Box.new _ _ _
        rw [← hw8]
        clear hw8
        obtain ⟨x8, hx8⟩ : ∃ x, x = (w5).heap.size := ⟨_, rfl⟩
        rw [← hx8] at hb8 ⊢
        have hxl8 : w2.heap.size ≤ x8 := by rw [hx8]; exact (gr_trans hgW1 (gr_trans hg2 hg5)).size
        clear hx8
        refine tree_e0 (by kernel_rfl) rfl rfl (fun K hK => ?_)
        have hbx := hb8.pure (w' := w8) (World.grownBy.refl _ _)
        obtain ⟨y0, z0⟩ := hbx.c 0 rfl
        obtain ⟨y1, z1⟩ := hbx.c 1 rfl
        have hF : CPR w2 0 vs fs (.pointer (some ⟨x8, 0, none⟩)) (((w8).setCell ⟨x8, 0, none⟩ (.slice A3 vs.length c3)).setCell ⟨x8, 1, none⟩ (.slice B5 fs.length d5)) := by
          have hgf : w2.grownBy (((w8).setCell ⟨x8, 0, none⟩ (.slice A3 vs.length c3)).setCell ⟨x8, 1, none⟩ (.slice B5 fs.length d5)) none := gr_set (gr_set (gr_trans hgW1 (gr_trans (gr_trans hg2 hg5) hg7)) (.inr hxl8) _) (.inr hxl8) _
          have ha := ho3.pure (w' := w8) (gr_trans hg5 hg7)
          have hb := ho5.pure (w' := w8) hg7
          have hbx2 := hbx.set_ 0 (.slice A3 vs.length c3) (by simp)
          have ha2 := ha.set_other (i := 0) (.slice A3 vs.length c3) (hbx.ne_own ha (by decide))
          have hb2 := hb.set_other (i := 0) (.slice A3 vs.length c3) (hbx.ne_own hb (by decide))
          exact ⟨x8, rfl, ⟨Nat.zero_le _, A3, c3, B5, d5, by go_simp, by go_simp, (ha2.set_other (i := 1) _ (hbx2.ne_own ha2 (by decide))).sl, (hb2.set_other (i := 1) _ (hbx2.ne_own hb2 (by decide))).sl⟩, hgf⟩
        replace hF := hide hF
        go_wp2_with fail
        try go_simp
        refine hK _ _ trivial ?_
        clear hK K
        refine tree_done ?_
        go_wp2_with fail
        go_meet
        exact hF.out
      · refine tree_e rfl rfl (fun K hK => ?_)
        go_wp2_with fail
        try go_simp
        refine hK _ _ (gr_alloc (gr_trans hgW1 hg2) _) ?_
        clear hK K
        obtain ⟨w8, hw8⟩ : ∃ x, x = (w3).alloc (.cells #[.slice none 0 0, .slice none 0 0] 29) := ⟨_, rfl⟩
        have hg7 : (w3).grownBy w8 none := by rw [hw8]; exact gr_alloc (World.grownBy.refl _ _) _
        have hb8 : Box w8 (w3).heap.size 29 [.slice none 0 0, .slice none 0 0] := by rw [hw8]; exact Box.new _ _ _
        rw [← hw8]
        clear hw8
        obtain ⟨x8, hx8⟩ : ∃ x, x = (w3).heap.size := ⟨_, rfl⟩
        rw [← hx8] at hb8 ⊢
        have hxl8 : w2.heap.size ≤ x8 := by rw [hx8]; exact (gr_trans hgW1 hg2).size
        clear hx8
        refine tree_e0 (by kernel_rfl) rfl rfl (fun K hK => ?_)
        go_wp2_with fail
        refine (cloneFc_any B1 d1 fs w8 (hB.out w8 (gr_trans hgW1 (gr_trans hg2 hg7))).2.2.2 (by omega)).mono ?_
        rintro e w5 ⟨B5, d5, rfl, ho5, hg5⟩
        replace ho5 := ho5.lower (Nat.zero_le _)
        go_wp2_with fail
        try go_simp
        refine hK _ _ trivial ?_
        clear hK K
        refine tree_p rfl rfl rfl rfl _ rfl (by simp) (fun K hK => ?_)
        apply Exists.intro
        refine ⟨fun wq K' hK' => ?_, ?_⟩
        · go_wp2_with fail
          exact hK'
        go_simp
        refine hK _ ?_
        clear hK K
        refine tree_e0 (by kernel_rfl) rfl rfl (fun K hK => ?_)
        have hbx := hb8.pure (w' := w5) hg5
        obtain ⟨y0, z0⟩ := hbx.c 0 rfl
        obtain ⟨y1, z1⟩ := hbx.c 1 rfl
        have hF : CPR w2 0 vs fs (.pointer (some ⟨x8, 0, none⟩)) (((w5).setCell ⟨x8, 0, none⟩ (.slice A3 vs.length c3)).setCell ⟨x8, 1, none⟩ (.slice B5 fs.length d5)) := by
          have hgf : w2.grownBy (((w5).setCell ⟨x8, 0, none⟩ (.slice A3 vs.length c3)).setCell ⟨x8, 1, none⟩ (.slice B5 fs.length d5)) none := gr_set (gr_set (gr_trans hgW1 (gr_trans (gr_trans hg2 hg7) hg5)) (.inr hxl8) _) (.inr hxl8) _
          have ha := ho3.pure (w' := w5) (gr_trans hg7 hg5)
          have hb := ho5.pure (w' := w5) (World.grownBy.refl _ _)
          have hbx2 := hbx.set_ 0 (.slice A3 vs.length c3) (by simp)
          have ha2 := ha.set_other (i := 0) (.slice A3 vs.length c3) (hbx.ne_own ha (by decide))
          have hb2 := hb.set_other (i := 0) (.slice A3 vs.length c3) (hbx.ne_own hb (by decide))
          exact ⟨x8, rfl, ⟨Nat.zero_le _, A3, c3, B5, d5, by go_simp, by go_simp, (ha2.set_other (i := 1) _ (hbx2.ne_own ha2 (by decide))).sl, (hb2.set_other (i := 1) _ (hbx2.ne_own hb2 (by decide))).sl⟩, hgf⟩
        replace hF := hide hF
        go_wp2_with fail
        try go_simp
        refine hK _ _ trivial ?_
        clear hK K
        refine tree_done ?_
        go_wp2_with fail
        go_meet
        exact hF.out
    · refine tree_e rfl rfl (fun K hK => ?_)
      go_wp2_with fail
      try go_simp
      refine hK _ _ (gr_alloc (gr_trans hgW1 (World.grownBy.refl _ _)) _) ?_
      clear hK K
      obtain ⟨w8, hw8⟩ : ∃ x, x = (W1).alloc (.cells #[.slice none 0 0, .slice none 0 0] 29) := ⟨_, rfl⟩
      have hg7 : (W1).grownBy w8 none := by rw [hw8]; exact gr_alloc (World.grownBy.refl _ _) _
      have hb8 : Box w8 (W1).heap.size 29 [.slice none 0 0, .slice none 0 0] := by rw [hw8]; exact Box.new _ _ _
      rw [← hw8]
      clear hw8
      obtain ⟨x8, hx8⟩ : ∃ x, x = (W1).heap.size := ⟨_, rfl⟩
      rw [← hx8] at hb8 ⊢
      have hxl8 : w2.heap.size ≤ x8 := by rw [hx8]; exact (gr_trans hgW1 (World.grownBy.refl _ _)).size
      clear hx8
      refine tree_e rfl rfl (fun K hK => ?_)
      go_wp2_with fail
      refine (cloneV3_any A1 c1 vs w8 (hB.out w8 (gr_trans hgW1 hg7)).2.2.1 (by omega)).mono ?_
      rintro e w3 ⟨A3, c3, rfl, ho3, hg2⟩
      replace ho3 := ho3.lower (Nat.zero_le _)
      go_wp2_with fail
      try go_simp
      refine hK _ _ ((gr_trans hgW1 (gr_trans hg7 hg2))) ?_
      clear hK K
      refine tree_e0 (by kernel_rfl) rfl rfl (fun K hK => ?_)
      go_wp2_with fail
      refine (cloneFc_any B1 d1 fs w3 (hB.out w3 (gr_trans hgW1 (gr_trans hg7 hg2))).2.2.2 (by omega)).mono ?_
      rintro e w5 ⟨B5, d5, rfl, ho5, hg5⟩
      replace ho5 := ho5.lower (Nat.zero_le _)
      go_wp2_with fail
      try go_simp
      refine hK _ _ trivial ?_
      clear hK K
      refine tree_p rfl rfl rfl rfl _ rfl (by simp) (fun K hK => ?_)
      apply Exists.intro
      refine ⟨fun wq K' hK' => ?_, ?_⟩
      · go_wp2_with fail
        exact hK'
      go_simp
      refine hK _ ?_
      clear hK K
      refine tree_e0 (by kernel_rfl) rfl rfl (fun K hK => ?_)
      have hbx := hb8.pure (w' := w5) (gr_trans hg2 hg5)
      obtain ⟨y0, z0⟩ := hbx.c 0 rfl
      obtain ⟨y1, z1⟩ := hbx.c 1 rfl
      have hF : CPR w2 0 vs fs (.pointer (some ⟨x8, 0, none⟩)) (((w5).setCell ⟨x8, 0, none⟩ (.slice A3 vs.length c3)).setCell ⟨x8, 1, none⟩ (.slice B5 fs.length d5)) := by
        have hgf : w2.grownBy (((w5).setCell ⟨x8, 0, none⟩ (.slice A3 vs.length c3)).setCell ⟨x8, 1, none⟩ (.slice B5 fs.length d5)) none := gr_set (gr_set (gr_trans hgW1 (gr_trans (gr_trans hg7 hg2) hg5)) (.inr hxl8) _) (.inr hxl8) _
        have ha := ho3.pure (w' := w5) hg5
        have hb := ho5.pure (w' := w5) (World.grownBy.refl _ _)
        have hbx2 := hbx.set_ 0 (.slice A3 vs.length c3) (by simp)
        have ha2 := ha.set_other (i := 0) (.slice A3 vs.length c3) (hbx.ne_own ha (by decide))
        have hb2 := hb.set_other (i := 0) (.slice A3 vs.length c3) (hbx.ne_own hb (by decide))
        exact ⟨x8, rfl, ⟨Nat.zero_le _, A3, c3, B5, d5, by go_simp, by go_simp, (ha2.set_other (i := 1) _ (hbx2.ne_own ha2 (by decide))).sl, (hb2.set_other (i := 1) _ (hbx2.ne_own hb2 (by decide))).sl⟩, hgf⟩
      replace hF := hide hF
      go_wp2_with fail
      try go_simp
      refine hK _ _ trivial ?_
      clear hK K
      refine tree_done ?_
      go_wp2_with fail
      go_meet
      exact hF.out
  case rest =>
  obtain ⟨x5, rfl, h5, hg3⟩ := hcut
  replace hg0 := gr_trans hg0 hg3
  obtain ⟨e0, e1, e2, e3⟩ := hB.out wc hg3
  obtain ⟨W4, hw4⟩ : ∃ W, W = wc.alloc (.cells #[.int .i64 ((fs.length : Int) - 1), .int .i64 0] 3) := ⟨_, rfl⟩
  have hgW : wc.grownBy W4 none := by rw [hw4]; exact (by repeat (first | exact World.grownBy.refl _ _ | assumption | refine gr_alloc ?_ _ | (apply gr_tail; assumption) | refine gr_drewN ?_ _ | refine gr_drew ?_))
  have hsL : Sl W4 0 (some ⟨wc.heap.size, 0, none⟩) [(fs.length : Int) - 1, 0] := by rw [hw4]; exact sl_intsAt wc 0 3 [(fs.length : Int) - 1, 0] _ rfl (Nat.zero_le _) (by simp [maxLen])
  have hB4 : ∀ wx, W4.grownBy wx none → wx.cell? ⟨x4, 0, none⟩ = some (.slice A1 vs.length c1) ∧ wx.cell? ⟨x4, 1, none⟩ = some (.slice B1 fs.length d1) ∧ Sl wx 0 A1 vs ∧ Sl wx 0 B1 fs ∧ Sl wx 0 (some ⟨wc.heap.size, 0, none⟩) [(fs.length : Int) - 1, 0] ∧ MBs 0 x5 ⟨vs, fs⟩ wx := fun wx h => ⟨h.k (hgW.k e0), h.k (hgW.k e1), (e2.pure hgW).pure h, (e3.pure hgW).pure h, hsL.pure h, (h5.pure hgW).pure h⟩
  replace hB4 := hide hB4
  replace hg0 := gr_trans hg0 hgW
  clear hgW hsL h5 hg3 hB
  go_upto_region 5 with fail
  rw [← hw4]
  clear hw4
  generalize wc.heap.size = x6 at *
  clear e0 e1 e2 e3 wc
  obtain ⟨lo, hlo0⟩ : ∃ x, x = W4.heap.size := ⟨_, rfl⟩
  have hlo : W4.heap.size ≤ lo := by omega
  have hlo2 : lo ≤ W4.heap.size := by omega
  clear hlo0
  -- turned
  obtain ⟨e0, e1, e2, e3, e4, e5⟩ := hB4.out W4 (World.grownBy.refl _ _)
  go_wp2_with fail
  refine (hTu.out _ _ _ _ _ e2 e3).mono ?_
  rintro e w5 ⟨A5, c5, B5, d5, rfl, sa, sb, oa, ob, g5⟩
  have h7 := MSp.new (c := c5) (d := d5) (m := ⟨ta, fs⟩) (sa.mono hlo2) (sb.mono hlo2) (oa.mono hlo2) (ob.mono hlo2) (by simp only; omega) (by simp only; omega)
  have g6 := gr_trans g5 (gr_alloc (World.grownBy.refl w5 none) (.cells #[.slice A5 ta.length c5, .slice B5 fs.length d5] 29))
  clear e0 e1 e2 e3 e4 e5 sa sb oa ob g5 hTu
  go_upto_region 6 with fail
  try simp only at h7
  generalize w5.heap.size = x7 at *
  generalize w5.alloc (.cells #[.slice A5 ta.length c5, .slice B5 fs.length d5] 29) = w6 at *
  -- joined
  obtain ⟨e0, e1, e2, e3, e4, e5⟩ := hB4.out w6 g6
  have hl6 : lo ≤ w6.heap.size := Nat.le_trans hlo2 g6.size
  go_wp2_with fail
  refine (hJn.out _ _ _ _ _ _ _ _ _ e2 e3 e2 e3).mono ?_
  rintro e w7 ⟨A7, c7, B7, d7, rfl, sa, sb, oa, ob, g7⟩
  have h9 := MSp.new (c := c7) (d := d7) (m := ⟨jv, jf⟩) (sa.mono hl6) (sb.mono hl6) (oa.mono hl6) (ob.mono hl6) (by simp only; omega) (by simp only; omega)
  have g8 := gr_trans g7 (gr_alloc (World.grownBy.refl w7 none) (.cells #[.slice A7 jv.length c7, .slice B7 jf.length d7] 29))
  replace h7 := h7.pure g8
  replace g8 := gr_trans g6 g8
  clear e0 e1 e2 e3 e4 e5 sa sb oa ob g7 hJn g6
  go_upto_region 7 with fail
  try simp only at h9
  generalize w7.heap.size = x9 at *
  generalize w7.alloc (.cells #[.slice A7 jv.length c7, .slice B7 jf.length d7] 29) = w8 at *
  -- a part
  obtain ⟨e0, e1, e2, e3, e4, e5⟩ := hB4.out w8 g8
  have hl8 : lo ≤ w8.heap.size := Nat.le_trans hlo2 g8.size
  go_wp2_with fail
  refine (hPa.out _ _ _ _ _ _ _ e2 e3 e4).mono ?_
  rintro e w9 ⟨A9, c9, B9, d9, rfl, sa, sb, oa, ob, g9⟩
  have h11 := MSp.new (c := c9) (d := d9) (m := ⟨pv, pf⟩) (sa.mono hl8) (sb.mono hl8) (oa.mono hl8) (ob.mono hl8) (by simp only; omega) (by simp only; omega)
  have g10 := gr_trans g9 (gr_alloc (World.grownBy.refl w9 none) (.cells #[.slice A9 pv.length c9, .slice B9 pf.length d9] 29))
  replace h7 := h7.pure g10
  replace h9 := h9.pure g10
  replace g10 := gr_trans g8 g10
  clear e0 e1 e2 e3 e4 e5 sa sb oa ob g9 hPa g8
  go_upto_region 8 with fail
  try simp only at h11
  generalize w9.heap.size = x11 at *
  generalize w9.alloc (.cells #[.slice A9 pv.length c9, .slice B9 pf.length d9] 29) = w10 at *
  -- shells
  obtain ⟨e0, e1, e2, e3, e4, e5⟩ := hB4.out w10 g10
  have hl10 : lo ≤ w10.heap.size := Nat.le_trans hlo2 g10.size
  go_wp2_with fail
  refine (hSh.out _ _ _ _ _ e2 e3).mono ?_
  rintro e w11 ⟨O, co, rfl, hO, g11⟩
  have hR := RowsI.of (hO.lower hl10) hmem.out
  have hlS : Hid ((SH.map gi).length = SH.length) := List.length_map _
  rw [hlS.out] at hR ⊢
  replace h7 := h7.pure g11
  replace h9 := h9.pure g11
  replace h11 := h11.pure g11
  replace g11 := gr_trans g10 g11
  clear e0 e1 e2 e3 e4 e5 hSh g10 hO hmem
  -- welded
  obtain ⟨e0, e1, e2, e3, e4, e5⟩ := hB4.out w11 g11
  have hl11 : lo ≤ w11.heap.size := Nat.le_trans hlo2 g11.size
  go_wp2_with fail
  refine (hWd.out _ _ _ _ _ e2 e3).mono ?_
  rintro e w12 ⟨A12, c12, B12, d12, rfl, sa, sb, oa, ob, g12⟩
  have h15 := MSp.new (c := c12) (d := d12) (m := ⟨xv, xf⟩) (sa.mono hl11) (sb.mono hl11) (oa.mono hl11) (ob.mono hl11) (by simp only; omega) (by simp only; omega)
  have g13 := gr_trans g12 (gr_alloc (World.grownBy.refl w12 none) (.cells #[.slice A12 xv.length c12, .slice B12 xf.length d12] 29))
  replace h7 := h7.pure g13
  replace h9 := h9.pure g13
  replace h11 := h11.pure g13
  replace hR := hR.spd ((Spd.refl _).gr g13)
  replace g13 := gr_trans g11 g13
  clear e0 e1 e2 e3 e4 e5 sa sb oa ob g12 hWd g11
  go_upto_region 10 with fail
  try simp only at h15
  generalize w12.heap.size = x15 at *
  generalize w12.alloc (.cells #[.slice A12 xv.length c12, .slice B12 xf.length d12] 29) = w13 at *
  obtain ⟨Aa, na, ca, Ba, ma, da, pa, qa, ra, sa, ua, va⟩ := h7
  obtain ⟨Ab, nb, cb, Bb, mb, db, pb, qb, rb, sb, ub, vb⟩ := h9
  obtain ⟨Ac, nc, cc, Bc, mc, dc, pc, qc, rc, sc, uc, vc⟩ := h11
  obtain ⟨Ad, nd, cd, Bd, md, dd, pd, qd, rd, sd, ud, vd⟩ := h15
  rcases hE.out with rfl | rfl
  · clear hE
    go_upto_region 13 with fail
    have gq := gr_alloc (World.grownBy.refl w13 none) (.cells #[.slice Aa na ca, .slice Ba ma da, .slice Ab nb cb, .slice Bb mb db, .slice Ac nc cc, .slice Bc mc dc, .slice Ad nd cd, .slice Bd md dd] 29)
    have y0 : (w13.alloc (.cells #[.slice Aa na ca, .slice Ba ma da, .slice Ab nb cb, .slice Bb mb db, .slice Ac nc cc, .slice Bc mc dc, .slice Ad nd cd, .slice Bd md dd] 29)).cell? ⟨w13.heap.size, 0, none⟩ = some (.slice Aa na ca) := by go_simp
    have y1 : (w13.alloc (.cells #[.slice Aa na ca, .slice Ba ma da, .slice Ab nb cb, .slice Bb mb db, .slice Ac nc cc, .slice Bc mc dc, .slice Ad nd cd, .slice Bd md dd] 29)).cell? ⟨w13.heap.size, 1, none⟩ = some (.slice Ba ma da) := by go_simp
    have y2 : (w13.alloc (.cells #[.slice Aa na ca, .slice Ba ma da, .slice Ab nb cb, .slice Bb mb db, .slice Ac nc cc, .slice Bc mc dc, .slice Ad nd cd, .slice Bd md dd] 29)).cell? ⟨w13.heap.size, 2, none⟩ = some (.slice Ab nb cb) := by go_simp
    have y3 : (w13.alloc (.cells #[.slice Aa na ca, .slice Ba ma da, .slice Ab nb cb, .slice Bb mb db, .slice Ac nc cc, .slice Bc mc dc, .slice Ad nd cd, .slice Bd md dd] 29)).cell? ⟨w13.heap.size, 3, none⟩ = some (.slice Bb mb db) := by go_simp
    have y4 : (w13.alloc (.cells #[.slice Aa na ca, .slice Ba ma da, .slice Ab nb cb, .slice Bb mb db, .slice Ac nc cc, .slice Bc mc dc, .slice Ad nd cd, .slice Bd md dd] 29)).cell? ⟨w13.heap.size, 4, none⟩ = some (.slice Ac nc cc) := by go_simp
    have y5 : (w13.alloc (.cells #[.slice Aa na ca, .slice Ba ma da, .slice Ab nb cb, .slice Bb mb db, .slice Ac nc cc, .slice Bc mc dc, .slice Ad nd cd, .slice Bd md dd] 29)).cell? ⟨w13.heap.size, 5, none⟩ = some (.slice Bc mc dc) := by go_simp
    have y6 : (w13.alloc (.cells #[.slice Aa na ca, .slice Ba ma da, .slice Ab nb cb, .slice Bb mb db, .slice Ac nc cc, .slice Bc mc dc, .slice Ad nd cd, .slice Bd md dd] 29)).cell? ⟨w13.heap.size, 6, none⟩ = some (.slice Ad nd cd) := by go_simp
    have y7 : (w13.alloc (.cells #[.slice Aa na ca, .slice Ba ma da, .slice Ab nb cb, .slice Bb mb db, .slice Ac nc cc, .slice Bc mc dc, .slice Ad nd cd, .slice Bd md dd] 29)).cell? ⟨w13.heap.size, 7, none⟩ = some (.slice Bd md dd) := by go_simp
    replace ra := ra.gr gq
    replace sa := sa.gr gq
    replace rb := rb.gr gq
    replace sb := sb.gr gq
    replace rc := rc.gr gq
    replace sc := sc.gr gq
    replace rd := rd.gr gq
    replace sd := sd.gr gq
    replace hR := hR.spd ((Spd.refl _).gr gq)
    replace g13 := gr_trans g13 gq
    clear pa qa pb qb pc qc pd qd
    generalize w13.heap.size = x13 at *
    generalize w13.alloc (.cells #[.slice Aa na ca, .slice Ba ma da, .slice Ab nb cb, .slice Bb mb db, .slice Ac nc cc, .slice Bc mc dc, .slice Ad nd cd, .slice Bd md dd] 29) = w14 at *
    clear gq
    have hz := Spd.refl w14
    go_loopw [93] (fun i wr => ∃ k : Nat, k ≤ 4 ∧ i = .int .i64 k ∧ Spd w14 wr ∧ W4.grownBy wr none) (fun i _ => 4 - (intOf i).toNat)
    case atStart => exact ⟨0, by omega, rfl, hz, g13⟩
    case round =>
      clear hz g13
      obtain ⟨k, hk, rfl, hs, hgr⟩ := hrel
      obtain rfl | rfl | rfl | rfl | hk4 : k = 0 ∨ k = 1 ∨ k = 2 ∨ k = 3 ∨ 3 < k := by omega
      · have u0 := hs.sl y0
        have u1 := hs.sl y1
        go_wp2_with fail
        refine (spoilMesh_any _ _ _ _ _ _ lo W4 _ ((ra.spd hs).gr (gr_alloc (World.grownBy.refl _ _) _)) ((sa.spd hs).gr (gr_alloc (World.grownBy.refl _ _) _)) ua va hlo (gr_alloc hgr _)).mono ?_
        rintro e w25 ⟨rfl, hs2, hg2⟩
        have hs3 := (hs.gr (gr_alloc (World.grownBy.refl _ none) _)).trans hs2
        go_wp2_with fail
        go_roundw
        case rel => exact ⟨1, by omega, rfl, hs3, hg2⟩
        case measure => simp [intOf]
      · have u0 := hs.sl y2
        have u1 := hs.sl y3
        go_wp2_with fail
        refine (spoilMesh_any _ _ _ _ _ _ lo W4 _ ((rb.spd hs).gr (gr_alloc (World.grownBy.refl _ _) _)) ((sb.spd hs).gr (gr_alloc (World.grownBy.refl _ _) _)) ub vb hlo (gr_alloc hgr _)).mono ?_
        rintro e w25 ⟨rfl, hs2, hg2⟩
        have hs3 := (hs.gr (gr_alloc (World.grownBy.refl _ none) _)).trans hs2
        go_wp2_with fail
        go_roundw
        case rel => exact ⟨2, by omega, rfl, hs3, hg2⟩
        case measure => simp [intOf]
      · have u0 := hs.sl y4
        have u1 := hs.sl y5
        go_wp2_with fail
        refine (spoilMesh_any _ _ _ _ _ _ lo W4 _ ((rc.spd hs).gr (gr_alloc (World.grownBy.refl _ _) _)) ((sc.spd hs).gr (gr_alloc (World.grownBy.refl _ _) _)) uc vc hlo (gr_alloc hgr _)).mono ?_
        rintro e w25 ⟨rfl, hs2, hg2⟩
        have hs3 := (hs.gr (gr_alloc (World.grownBy.refl _ none) _)).trans hs2
        go_wp2_with fail
        go_roundw
        case rel => exact ⟨3, by omega, rfl, hs3, hg2⟩
        case measure => simp [intOf]
      · have u0 := hs.sl y6
        have u1 := hs.sl y7
        go_wp2_with fail
        refine (spoilMesh_any _ _ _ _ _ _ lo W4 _ ((rd.spd hs).gr (gr_alloc (World.grownBy.refl _ _) _)) ((sd.spd hs).gr (gr_alloc (World.grownBy.refl _ _) _)) ud vd hlo (gr_alloc hgr _)).mono ?_
        rintro e w25 ⟨rfl, hs2, hg2⟩
        have hs3 := (hs.gr (gr_alloc (World.grownBy.refl _ none) _)).trans hs2
        go_wp2_with fail
        go_roundw
        case rel => exact ⟨4, by omega, rfl, hs3, hg2⟩
        case measure => simp [intOf]
      · clear y0 y1 y2 y3 y4 y5 y6 y7 ra sa rb sb rc sc rd sd
        go_wp2_with fail
        go_loopw [102] (fun i wx => ∃ k : Nat, k ≤ SH.length ∧ i = .int .i64 k ∧ Spd w14 wx ∧ W4.grownBy wx none) (fun i _ => SH.length - (intOf i).toNat)
        case atStart => exact ⟨0, by omega, rfl, hs, hgr⟩
        case round =>
          clear hs hgr
          obtain ⟨k, hk, rfl, hs, hgr⟩ := hrel
          by_cases hlt : k < SH.length
          · obtain ⟨g, o, Bx, m, d, rfl, hc, hr, hm⟩ := (hR.spd hs) k hlt
            go_wp2_with fail
            refine (spoilInts2_any _ _ _ lo W4 _ hr hm hlo hgr).mono ?_
            rintro e w25 ⟨rfl, hs2, hg2⟩
            have hs3 := hs.trans hs2
            go_wp2_with fail
            (go_roundw; (case rel => exact ⟨k + 1, by omega, by go_num, hs3, hg2⟩); (case measure => simp [intOf]; omega))
          · obtain ⟨e0, e1, e2, e3, e4, -, Ae, ce, Be, de, f0, f1, f2, f3⟩ := hB4.out wr hgr
            simp only at f0 f1 f2 f3
            have hSm2 := hide (hSm.out A1 c1 B1 d1 Ae ce Be de wr e2 e3 f2 f3)
            go_wp2_with fail
            refine hSm2.out.mono ?_
            rintro e w26 ⟨rfl, hg6⟩
            have hgw := gr_trans hgr hg6
            have z1 := hg6.k e1
            have hEq := hide (equalInts_any (some ⟨x6, 0, none⟩) (some ⟨w26.heap.size, 0, none⟩) 2 2 [(fs.length : Int) - 1, 0] [(fs.length : Int) - 1, 0] (w26.alloc (.cells #[.int .i64 ((fs.length : Int) - 1), .int .i64 0] 3)) ((e4.pure hg6).pure (gr_alloc (World.grownBy.refl _ _) _)) (sl_intsAt w26 0 3 [(fs.length : Int) - 1, 0] _ rfl (Nat.zero_le _) (by simp [maxLen])))
            go_wp2_with fail
            refine hEq.out.mono ?_
            rintro e w27 ⟨rfl, hg7⟩
            rw [eqB_refl]
            clear hEq hSm2 e0 e1 e2 e3 e4 f0 f1 f2 f3 z1
            go_wp2_with fail
            refine (ready_any _).mono ?_
            rintro e w9 ⟨rfl, h1⟩
            go_wp2_with fail
            go_ret
            exact ⟨rfl, gr_trans hg0 (gr_trans hgw (gr_trans (gr_trans (gr_alloc (World.grownBy.refl w26 none) _) hg7) h1))⟩
  · clear hE
    go_upto_region 13 with fail
    have gq := gr_alloc (World.grownBy.refl w13 none) (.cells #[.slice Aa na ca, .slice Ba ma da, .slice Ab nb cb, .slice Bb mb db, .slice Ac nc cc, .slice Bc mc dc, .slice Ad nd cd, .slice Bd md dd] 29)
    have y0 : (w13.alloc (.cells #[.slice Aa na ca, .slice Ba ma da, .slice Ab nb cb, .slice Bb mb db, .slice Ac nc cc, .slice Bc mc dc, .slice Ad nd cd, .slice Bd md dd] 29)).cell? ⟨w13.heap.size, 0, none⟩ = some (.slice Aa na ca) := by go_simp
    have y1 : (w13.alloc (.cells #[.slice Aa na ca, .slice Ba ma da, .slice Ab nb cb, .slice Bb mb db, .slice Ac nc cc, .slice Bc mc dc, .slice Ad nd cd, .slice Bd md dd] 29)).cell? ⟨w13.heap.size, 1, none⟩ = some (.slice Ba ma da) := by go_simp
    have y2 : (w13.alloc (.cells #[.slice Aa na ca, .slice Ba ma da, .slice Ab nb cb, .slice Bb mb db, .slice Ac nc cc, .slice Bc mc dc, .slice Ad nd cd, .slice Bd md dd] 29)).cell? ⟨w13.heap.size, 2, none⟩ = some (.slice Ab nb cb) := by go_simp
    have y3 : (w13.alloc (.cells #[.slice Aa na ca, .slice Ba ma da, .slice Ab nb cb, .slice Bb mb db, .slice Ac nc cc, .slice Bc mc dc, .slice Ad nd cd, .slice Bd md dd] 29)).cell? ⟨w13.heap.size, 3, none⟩ = some (.slice Bb mb db) := by go_simp
    have y4 : (w13.alloc (.cells #[.slice Aa na ca, .slice Ba ma da, .slice Ab nb cb, .slice Bb mb db, .slice Ac nc cc, .slice Bc mc dc, .slice Ad nd cd, .slice Bd md dd] 29)).cell? ⟨w13.heap.size, 4, none⟩ = some (.slice Ac nc cc) := by go_simp
    have y5 : (w13.alloc (.cells #[.slice Aa na ca, .slice Ba ma da, .slice Ab nb cb, .slice Bb mb db, .slice Ac nc cc, .slice Bc mc dc, .slice Ad nd cd, .slice Bd md dd] 29)).cell? ⟨w13.heap.size, 5, none⟩ = some (.slice Bc mc dc) := by go_simp
    have y6 : (w13.alloc (.cells #[.slice Aa na ca, .slice Ba ma da, .slice Ab nb cb, .slice Bb mb db, .slice Ac nc cc, .slice Bc mc dc, .slice Ad nd cd, .slice Bd md dd] 29)).cell? ⟨w13.heap.size, 6, none⟩ = some (.slice Ad nd cd) := by go_simp
    have y7 : (w13.alloc (.cells #[.slice Aa na ca, .slice Ba ma da, .slice Ab nb cb, .slice Bb mb db, .slice Ac nc cc, .slice Bc mc dc, .slice Ad nd cd, .slice Bd md dd] 29)).cell? ⟨w13.heap.size, 7, none⟩ = some (.slice Bd md dd) := by go_simp
    replace ra := ra.gr gq
    replace sa := sa.gr gq
    replace rb := rb.gr gq
    replace sb := sb.gr gq
    replace rc := rc.gr gq
    replace sc := sc.gr gq
    replace rd := rd.gr gq
    replace sd := sd.gr gq
    replace hR := hR.spd ((Spd.refl _).gr gq)
    replace g13 := gr_trans g13 gq
    clear pa qa pb qb pc qc pd qd
    generalize w13.heap.size = x13 at *
    generalize w13.alloc (.cells #[.slice Aa na ca, .slice Ba ma da, .slice Ab nb cb, .slice Bb mb db, .slice Ac nc cc, .slice Bc mc dc, .slice Ad nd cd, .slice Bd md dd] 29) = w14 at *
    clear gq
    have hz := Spd.refl w14
    go_loopw [93] (fun i wr => ∃ k : Nat, k ≤ 4 ∧ i = .int .i64 k ∧ Spd w14 wr ∧ W4.grownBy wr none) (fun i _ => 4 - (intOf i).toNat)
    case atStart => exact ⟨0, by omega, rfl, hz, g13⟩
    case round =>
      clear hz g13
      obtain ⟨k, hk, rfl, hs, hgr⟩ := hrel
      obtain rfl | rfl | rfl | rfl | hk4 : k = 0 ∨ k = 1 ∨ k = 2 ∨ k = 3 ∨ 3 < k := by omega
      · have u0 := hs.sl y0
        have u1 := hs.sl y1
        go_wp2_with fail
        refine (spoilMesh_any _ _ _ _ _ _ lo W4 _ ((ra.spd hs).gr (gr_alloc (World.grownBy.refl _ _) _)) ((sa.spd hs).gr (gr_alloc (World.grownBy.refl _ _) _)) ua va hlo (gr_alloc hgr _)).mono ?_
        rintro e w25 ⟨rfl, hs2, hg2⟩
        have hs3 := (hs.gr (gr_alloc (World.grownBy.refl _ none) _)).trans hs2
        go_wp2_with fail
        go_roundw
        case rel => exact ⟨1, by omega, rfl, hs3, hg2⟩
        case measure => simp [intOf]
      · have u0 := hs.sl y2
        have u1 := hs.sl y3
        go_wp2_with fail
        refine (spoilMesh_any _ _ _ _ _ _ lo W4 _ ((rb.spd hs).gr (gr_alloc (World.grownBy.refl _ _) _)) ((sb.spd hs).gr (gr_alloc (World.grownBy.refl _ _) _)) ub vb hlo (gr_alloc hgr _)).mono ?_
        rintro e w25 ⟨rfl, hs2, hg2⟩
        have hs3 := (hs.gr (gr_alloc (World.grownBy.refl _ none) _)).trans hs2
        go_wp2_with fail
        go_roundw
        case rel => exact ⟨2, by omega, rfl, hs3, hg2⟩
        case measure => simp [intOf]
      · have u0 := hs.sl y4
        have u1 := hs.sl y5
        go_wp2_with fail
        refine (spoilMesh_any _ _ _ _ _ _ lo W4 _ ((rc.spd hs).gr (gr_alloc (World.grownBy.refl _ _) _)) ((sc.spd hs).gr (gr_alloc (World.grownBy.refl _ _) _)) uc vc hlo (gr_alloc hgr _)).mono ?_
        rintro e w25 ⟨rfl, hs2, hg2⟩
        have hs3 := (hs.gr (gr_alloc (World.grownBy.refl _ none) _)).trans hs2
        go_wp2_with fail
        go_roundw
        case rel => exact ⟨3, by omega, rfl, hs3, hg2⟩
        case measure => simp [intOf]
      · have u0 := hs.sl y6
        have u1 := hs.sl y7
        go_wp2_with fail
        refine (spoilMesh_any _ _ _ _ _ _ lo W4 _ ((rd.spd hs).gr (gr_alloc (World.grownBy.refl _ _) _)) ((sd.spd hs).gr (gr_alloc (World.grownBy.refl _ _) _)) ud vd hlo (gr_alloc hgr _)).mono ?_
        rintro e w25 ⟨rfl, hs2, hg2⟩
        have hs3 := (hs.gr (gr_alloc (World.grownBy.refl _ none) _)).trans hs2
        go_wp2_with fail
        go_roundw
        case rel => exact ⟨4, by omega, rfl, hs3, hg2⟩
        case measure => simp [intOf]
      · clear y0 y1 y2 y3 y4 y5 y6 y7 ra sa rb sb rc sc rd sd
        go_wp2_with fail
        go_loopw [102] (fun i wx => ∃ k : Nat, k ≤ SH.length ∧ i = .int .i64 k ∧ Spd w14 wx ∧ W4.grownBy wx none) (fun i _ => SH.length - (intOf i).toNat)
        case atStart => exact ⟨0, by omega, rfl, hs, hgr⟩
        case round =>
          clear hs hgr
          obtain ⟨k, hk, rfl, hs, hgr⟩ := hrel
          by_cases hlt : k < SH.length
          · obtain ⟨g, o, Bx, m, d, rfl, hc, hr, hm⟩ := (hR.spd hs) k hlt
            go_wp2_with fail
            refine (spoilInts2_any _ _ _ lo W4 _ hr hm hlo hgr).mono ?_
            rintro e w25 ⟨rfl, hs2, hg2⟩
            have hs3 := hs.trans hs2
            go_wp2_with fail
            (go_roundw; (case rel => exact ⟨k + 1, by omega, by go_num, hs3, hg2⟩); (case measure => simp [intOf]; omega))
          · obtain ⟨e0, e1, e2, e3, e4, -, Ae, ce, Be, de, f0, f1, f2, f3⟩ := hB4.out wr hgr
            simp only at f0 f1 f2 f3
            have hSm2 := hide (hSm.out A1 c1 B1 d1 Ae ce Be de wr e2 e3 f2 f3)
            go_wp2_with fail
            refine hSm2.out.mono ?_
            rintro e w26 ⟨rfl, hg6⟩
            have hgw := gr_trans hgr hg6
            have z1 := hg6.k e1
            have hEq := hide (equalInts_any (some ⟨x6, 0, none⟩) (some ⟨w26.heap.size, 0, none⟩) 2 2 [(fs.length : Int) - 1, 0] [(fs.length : Int) - 1, 0] (w26.alloc (.cells #[.int .i64 ((fs.length : Int) - 1), .int .i64 0] 3)) ((e4.pure hg6).pure (gr_alloc (World.grownBy.refl _ _) _)) (sl_intsAt w26 0 3 [(fs.length : Int) - 1, 0] _ rfl (Nat.zero_le _) (by simp [maxLen])))
            go_wp2_with fail
            refine hEq.out.mono ?_
            rintro e w27 ⟨rfl, hg7⟩
            rw [eqB_refl]
            clear hEq hSm2 e0 e1 e2 e3 e4 f0 f1 f2 f3 z1
            go_wp2_with fail
            refine (ready_any _).mono ?_
            rintro e w9 ⟨rfl, h1⟩
            go_wp2_with fail
            go_ret
            exact ⟨rfl, gr_trans hg0 (gr_trans hgw (gr_trans (gr_trans (gr_alloc (World.grownBy.refl w26 none) _) hg7) h1))⟩

end Go.Proofs.YtbpkkgeedkegcaaGreatDoor

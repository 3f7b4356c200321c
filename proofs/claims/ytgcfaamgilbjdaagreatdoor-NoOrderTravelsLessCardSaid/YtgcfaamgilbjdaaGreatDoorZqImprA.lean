/- Contracts of functions that this seat's laws reach, each: what one call returns and what it leaves in memory; no condition beyond each theorem's own hypotheses. -/
import Derived.Test.YtgcfaamgilbjdaaGreatDoorZqIdxP
import Derived.Test.YtgcfaamgilbjdaaGreatDoorZqGrS
import Derived.Test.YtgcfaamgilbjdaaGreatDoorZqTree
import Derived.Deep.LoopGhost
set_option linter.unusedVariables false
set_option linter.unusedSimpArgs false
namespace Go.Proofs.YtgcfaamgilbjdaaGreatDoor
open Go Go.RowKit Go.Bl

def swp (o : List Vis) (i j : Nat) (a b : Vis) : List Vis := (o.set i b).set j a

theorem swp_mem {o : List Vis} {i j : Nat} (hi : i < o.length) (hj : j < o.length) : ∀ v ∈ swp o i j o[i] o[j], v ∈ o := by
  intro v hv
  unfold swp at hv
  rcases List.mem_or_eq_of_mem_set hv with hv | rfl
  · rcases List.mem_or_eq_of_mem_set hv with hv | rfl
    · exact hv
    · exact List.getElem_mem _
  · exact List.getElem_mem _

theorem swp_len (o : List Vis) (i j : Nat) (a b : Vis) : (swp o i j a b).length = o.length := by simp [swp]

theorem swp_i {o : List Vis} {i j : Nat} (hi : i < o.length) (hij : i ≠ j) (a b : Vis) : (swp o i j a b)[i]'(by rw [swp_len]; exact hi) = b := by
  simp only [swp]
  rw [List.getElem_set_ne (fun e => hij e.symm)]
  simp

theorem swp_j {o : List Vis} {i j : Nat} (hj : j < o.length) (a b : Vis) : (swp o i j a b)[j]'(by rw [swp_len]; exact hj) = a := by simp [swp]

theorem swp_back {o : List Vis} {i j : Nat} (hi : i < o.length) (hj : j < o.length) (hij : i ≠ j) : swp (swp o i j o[i] o[j]) i j o[j] o[i] = o := by
  apply List.ext_getElem
  · simp [swp]
  · intro k h1 h2
    simp only [swp, List.getElem_set]
    split
    · rename_i e; subst e; rfl
    · split
      · rename_i e; subst e; rfl
      · rfl

theorem swp_back2 {o : List Vis} {i j : Nat} (hi : i < o.length) (hj : j < o.length) (hij : i ≠ j) {o2 : List Vis} (h : o2 = swp o i j o[i] o[j]) (hi2 : i < o2.length) (hj2 : j < o2.length) : swp o2 i j o2[i] o2[j] = o := by
  subst h
  have e1 := swp_i hi hij o[i] o[j]
  have e2 := swp_j (i := i) hj o[i] o[j]
  have e3 := swp_back hi hj hij
  simp only [e1, e2]
  exact e3

theorem Own.set_vis {w : World} {lo : Nat} {e : TypeId} {g c : Nat} {l : List Vis} (h : Own w lo e (some ⟨g, 0, none⟩) c l) {i : Nat} (hi : i < l.length) (v : Vis) :
    Own (((w.setCell ⟨g, i * 3, none⟩ (.int .i64 v.path)).setCell ⟨g, i * 3 + 1, none⟩ (.int .i64 v.start)).setCell ⟨g, i * 3 + 2, none⟩ (.bool v.back)) lo e (some ⟨g, 0, none⟩) c (l.set i v) := by
  have h1 := h.put hi (j := 0) (x := ⟨v.path, l[i].start, l[i].back⟩) (u := .int .i64 v.path) (by decide) (by rintro c1 rfl; rfl)
  have h2 := h1.put (i := i) (j := 1) (x := ⟨v.path, v.start, l[i].back⟩) (u := .int .i64 v.start) (by simpa using hi) (by decide) (by rintro c1 hc; simp at hc; rw [hc]; rfl)
  have h3 := h2.put (i := i) (j := 2) (x := v) (u := .bool v.back) (by simpa using hi) (by decide) (by rintro c1 hc; simp at hc; rw [hc]; rfl)
  simp only [List.set_set] at h3
  exact h3

theorem gr_three (w : World) (g a b c : Nat) (x y z : Value) : w.grownBy (((w.setCell ⟨g, a, none⟩ x).setCell ⟨g, b, none⟩ y).setCell ⟨g, c, none⟩ z) (some g) :=
  gr_set (gr_set (gr_set (World.grownBy.refl _ _) (p := ⟨g, a, none⟩) (.inl rfl) x) (p := ⟨g, b, none⟩) (.inl rfl) y) (p := ⟨g, c, none⟩) (.inl rfl) z

def SExch (lo : Nat) (w0 : World) (l : List PathV) (st : Pt) (A2 : Option Addr) (c2 : Nat) (o : List Vis) (e : Ending) (w' : World) : Prop :=
  (e = .returned (.bool false) ∧ Own w' lo 43 A2 c2 o ∧ w0.grownBy w' none) ∨
  ∃ o' : List Vis, e = .returned (.bool true) ∧ Own w' lo 43 A2 c2 o' ∧ w0.grownBy w' none ∧ o'.length = o.length ∧ o'.Perm o ∧ (travS l st o').2 < (travS l st o).2

set_option maxHeartbeats 1000000 in
set_option maxRecDepth 100000 in
theorem exchange_any (A : Option Addr) (c : Nat) (l : List PathV) (A2 : Option Addr) (c2 lo : Nat) (o : List Vis) (st : Pt) (w0 w : World) (hl : Sl w0 0 A l) (hw : w0.grownBy w none) (hlo : w0.heap.size ≤ lo) (ho : Own w lo 43 A2 c2 o) (hst : near st) (hv : ∀ v ∈ o, VisOk l v) (hn : o.length ≤ 200) :
    Calls Tryz.prog 26 #[.agg #[.int .i64 st.x, .int .i64 st.y], .slice A l.length c, .slice A2 o.length c2] w (SExch lo w0 l st A2 c2 o) := by
  have hTr := fun (o' : List Vis) (h1 : o'.length = o.length) (h2 : ∀ v ∈ o', v ∈ o) (wx : World) (h3 : w0.grownBy wx none) (h4 : Own wx lo 43 A2 c2 o') => travel_any A c l A2 c2 o' st wx (hl.pure h3) (h4.sl.mono (Nat.zero_le _)) hst (fun v hv' => hv v (h2 v hv')) (by omega)
  replace hTr := hide hTr
  replace hv := hide hv
  go_enter Tryz.func26, Tryz.ntmps26
  go_upto_region 1 with fail
  obtain ⟨w3, hw3⟩ : ∃ x, x = (w).alloc (.cells [.int .i64 st.x, .int .i64 st.y].toArray 28) := ⟨_, rfl⟩
  have hg3 : (w).grownBy w3 none := by rw [hw3]; exact gr_alloc (World.grownBy.refl _ _) _
  have hb3 : Box w3 (w).heap.size 28 [.int .i64 st.x, .int .i64 st.y] := by rw [hw3]; exact Box.new _ _ _
  have hxs3 := hb3.lt
  rw [← hw3]
  clear hw3
  obtain ⟨x3, hx3⟩ : ∃ x, x = (w).heap.size := ⟨_, rfl⟩
  rw [← hx3] at hb3 hxs3 ⊢
  have hxl3 : (w).heap.size ≤ x3 := by omega
  clear hx3
  obtain ⟨b0, _⟩ := hb3.c 0 rfl
  obtain ⟨b1, _⟩ := hb3.c 1 rfl
  have ho3 := ho.pure hg3
  replace hw := hw.t hg3
  clear ho hg3
  go_wp2_with fail
  refine (hTr.out o rfl (fun _ h => h) _ hw ho3).mono ?_
  rintro e w4 ⟨rfl, hg4⟩
  replace hb3 := hb3.pure hg4
  replace ho3 := ho3.pure hg4
  replace hw := hw.t hg4
  clear b0 b1 hg4
  obtain ⟨T, hT⟩ : ∃ T, (travS l st o).2 = T := ⟨_, rfl⟩
  rw [hT]
  replace hT := hide hT
  go_wp2_with fail
  go_loopw [16] (fun i wr => ∃ k : Nat, k ≤ o.length ∧ i = .int .i64 k ∧ Own wr lo 43 A2 c2 o ∧ w0.grownBy wr none ∧ Box wr x3 28 [.int .i64 st.x, .int .i64 st.y]) (fun i _ => o.length - (intOf i).toNat)
  case atStart => exact ⟨0, Nat.zero_le _, rfl, ho3, hw, hb3⟩
  case round =>
    clear ho3 hw hb3
    obtain ⟨i, hi, rfl, ho, hg, hb⟩ := hrel
    by_cases hil : i < o.length
    · obtain ⟨g, rfl, hgl, -⟩ := ho.shape (by omega)
      go_wp2_with fail
      obtain ⟨wa, rfl⟩ : ∃ x, x = wr := ⟨wr, rfl⟩
      go_loopw [9] (fun q wr => ∃ j : Nat, i < j ∧ j ≤ o.length ∧ q = .int .i64 j ∧ Own wr lo 43 (some ⟨g, 0, none⟩) c2 o ∧ w0.grownBy wr none ∧ Box wr x3 28 [.int .i64 st.x, .int .i64 st.y]) (fun q _ => o.length - (intOf q).toNat)
      case atStart => exact ⟨i + 1, by omega, by omega, by go_num, ho, hg, hb⟩
      case round =>
        clear ho hg hb
        obtain ⟨j, hij, hj, rfl, ho, hg, hb⟩ := hrel
        by_cases hjl : j < o.length
        · go_upto_region 8 with fail
          refine wp_region_tree (fun wx => Own wx lo 43 (some ⟨g, 0, none⟩) c2 o) [2, 2, 2, 2, 2, 2, 2, 1, 2, 2, 2, 1, 2, 0, 2, 0] (.bl 0 (.bl 1 (.bl 2 (.bl 3 (.bl 4 (.bl 5 (.bl 6 (.bl 7 (.bl 8 (.bl 9 (.bl 10 (.bl 11 (.bl 12 (.ef 13 (.bl 14 (.ef 15 .done)))))))))))))))) (by kernel_rfl) (by kernel_rfl) ((ho).pure (gr_drew (World.grownBy.refl _ _))) ?_
          obtain ⟨W1, hW1⟩ : ∃ x, x = (wr).drew := ⟨_, rfl⟩
          rw [← hW1]
          have hgW1 : (wr).grownBy W1 none := by rw [hW1]; exact gr_drew (World.grownBy.refl _ _)
          clear hW1
          refine tree_p rfl rfl rfl rfl _ rfl (by simp) (fun K hK => ?_)
          apply Exists.intro
          refine ⟨fun wq K' hK' => ?_, ?_⟩
          · go_wp2_with fail
            exact hK'
          go_simp
          refine hK _ ?_
          clear hK K
          refine tree_p rfl rfl rfl rfl _ rfl (by simp) (fun K hK => ?_)
          apply Exists.intro
          refine ⟨fun wq K' hK' => ?_, ?_⟩
          · go_wp2_with fail
            exact hK'
          go_simp
          refine hK _ ?_
          clear hK K
          refine tree_p rfl rfl rfl rfl _ rfl (by simp) (fun K hK => ?_)
          apply Exists.intro
          refine ⟨fun wq K' hK' => ?_, ?_⟩
          · go_wp2_with fail
            exact hK'
          go_simp
          refine hK _ ?_
          clear hK K
          refine tree_p rfl rfl rfl rfl _ rfl (by simp) (fun K hK => ?_)
          apply Exists.intro
          refine ⟨fun wq K' hK' => ?_, ?_⟩
          · go_wp2_with fail
            exact hK'
          go_simp
          refine hK _ ?_
          clear hK K
          refine tree_p rfl rfl rfl rfl _ rfl (by simp) (fun K hK => ?_)
          apply Exists.intro
          refine ⟨fun wq K' hK' => ?_, ?_⟩
          · go_wp2_with fail
            exact hK'
          go_simp
          refine hK _ ?_
          clear hK K
          refine tree_p rfl rfl rfl rfl _ rfl (by simp) (fun K hK => ?_)
          apply Exists.intro
          refine ⟨fun wq K' hK' => ?_, ?_⟩
          · go_wp2_with fail
            exact hK'
          go_simp
          refine hK _ ?_
          clear hK K
          refine tree_p rfl rfl rfl rfl _ rfl (by simp) (fun K hK => ?_)
          apply Exists.intro
          refine ⟨fun wq K' hK' => ?_, ?_⟩
          · go_wp2_with fail
            exact hK'
          go_simp
          refine hK _ ?_
          clear hK K
          refine tree_b rfl rfl rfl rfl _ rfl (by simp) (fun K hK => ?_)
          apply Exists.intro
          refine ⟨fun wq hq K' hK' => ?_, ?_⟩
          · obtain ⟨ci, rfl, hci⟩ := hq.cell_at (by decide) hil
            have ci0 : wq.cell? ⟨g, i * 3, none⟩ = some (.int .i64 (o)[i].path) := hci 0 _ rfl
            have ci1 : wq.cell? ⟨g, i * 3 + 1, none⟩ = some (.int .i64 (o)[i].start) := hci 1 _ rfl
            have ci2 : wq.cell? ⟨g, i * 3 + 2, none⟩ = some (.bool (o)[i].back) := hci 2 _ rfl
            obtain ⟨cj, rfl, hcj⟩ := hq.cell_at (by decide) hjl
            have cj0 : wq.cell? ⟨g, j * 3, none⟩ = some (.int .i64 (o)[j].path) := hcj 0 _ rfl
            have cj1 : wq.cell? ⟨g, j * 3 + 1, none⟩ = some (.int .i64 (o)[j].start) := hcj 1 _ rfl
            have cj2 : wq.cell? ⟨g, j * 3 + 2, none⟩ = some (.bool (o)[j].back) := hcj 2 _ rfl
            clear hci hcj
            go_wp2_with fail
            exact hK'
          go_simp
          refine hK _ ?_
          clear hK K
          refine tree_p rfl rfl rfl rfl _ rfl (by simp) (fun K hK => ?_)
          apply Exists.intro
          refine ⟨fun wq K' hK' => ?_, ?_⟩
          · go_wp2_with fail
            exact hK'
          go_simp
          refine hK _ ?_
          clear hK K
          refine tree_p rfl rfl rfl rfl _ rfl (by simp) (fun K hK => ?_)
          apply Exists.intro
          refine ⟨fun wq K' hK' => ?_, ?_⟩
          · go_wp2_with fail
            exact hK'
          go_simp
          refine hK _ ?_
          clear hK K
          refine tree_p rfl rfl rfl rfl _ rfl (by simp) (fun K hK => ?_)
          apply Exists.intro
          refine ⟨fun wq K' hK' => ?_, ?_⟩
          · go_wp2_with fail
            exact hK'
          go_simp
          refine hK _ ?_
          clear hK K
          refine tree_b rfl rfl rfl rfl _ rfl (by simp) (fun K hK => ?_)
          apply Exists.intro
          refine ⟨fun wq hq K' hK' => ?_, ?_⟩
          · obtain ⟨ci, rfl, hci⟩ := hq.cell_at (by decide) hil
            have ci0 : wq.cell? ⟨g, i * 3, none⟩ = some (.int .i64 (o)[i].path) := hci 0 _ rfl
            have ci1 : wq.cell? ⟨g, i * 3 + 1, none⟩ = some (.int .i64 (o)[i].start) := hci 1 _ rfl
            have ci2 : wq.cell? ⟨g, i * 3 + 2, none⟩ = some (.bool (o)[i].back) := hci 2 _ rfl
            obtain ⟨cj, rfl, hcj⟩ := hq.cell_at (by decide) hjl
            have cj0 : wq.cell? ⟨g, j * 3, none⟩ = some (.int .i64 (o)[j].path) := hcj 0 _ rfl
            have cj1 : wq.cell? ⟨g, j * 3 + 1, none⟩ = some (.int .i64 (o)[j].start) := hcj 1 _ rfl
            have cj2 : wq.cell? ⟨g, j * 3 + 2, none⟩ = some (.bool (o)[j].back) := hcj 2 _ rfl
            clear hci hcj
            go_wp2_with fail
            exact hK'
          go_simp
          refine hK _ ?_
          clear hK K
          refine tree_p rfl rfl rfl rfl _ rfl (by simp) (fun K hK => ?_)
          apply Exists.intro
          refine ⟨fun wq K' hK' => ?_, ?_⟩
          · go_wp2_with fail
            exact hK'
          go_simp
          refine hK _ ?_
          clear hK K
          refine tree_e0 (by kernel_rfl) rfl rfl (fun K hK => ?_)
          have hO1 := (ho).pure hgW1
          have hb1 := (hb).pure hgW1
          obtain ⟨ci, rfl, hci⟩ := hO1.cell_at (by decide) hil
          have ci0 := hci 0 _ rfl
          have ci1 := hci 1 _ rfl
          have ci2 := hci 2 _ rfl
          simp only [Enc.sz, Nat.add_zero] at ci0 ci1 ci2
          have fi0 := hO1.frozen (i * 3)
          have fi1 := hO1.frozen (i * 3 + 1)
          have fi2 := hO1.frozen (i * 3 + 2)
          clear hci
          go_wp2_with fail
          try go_simp
          refine hK _ _ trivial ?_
          clear hK K
          obtain ⟨v5, hvn⟩ : ∃ x, x = ((W1.setCell ⟨g, i * 3, none⟩ (.int .i64 (o)[j].path)).setCell ⟨g, i * 3 + 1, none⟩ (.int .i64 (o)[j].start)).setCell ⟨g, i * 3 + 2, none⟩ (.bool (o)[j].back) := ⟨_, rfl⟩
          have hOv : Own v5 lo 43 (some ⟨g, 0, none⟩) c2 ((o).set i (o)[j]) := by rw [hvn]; exact Own.set_vis hO1 hil _
          have hgv : W1.grownBy v5 (some g) := by rw [hvn]; exact gr_three _ _ _ _ _ _ _ _
          rw [← hvn]
          clear hvn ci0 ci1 ci2 fi0 fi1 fi2
          refine tree_p rfl rfl rfl rfl _ rfl (by simp) (fun K hK => ?_)
          apply Exists.intro
          refine ⟨fun wq K' hK' => ?_, ?_⟩
          · go_wp2_with fail
            exact hK'
          go_simp
          refine hK _ ?_
          clear hK K
          refine tree_e0 (by kernel_rfl) rfl rfl (fun K hK => ?_)
          have hj2 : j < ((o).set i (o)[j]).length := by rw [List.length_set]; exact hjl
          obtain ⟨cj, rfl, hcj⟩ := hOv.cell_at (by decide) hj2
          have cj0 := hcj 0 _ rfl
          have cj1 := hcj 1 _ rfl
          have cj2 := hcj 2 _ rfl
          simp only [Enc.sz, Nat.add_zero] at cj0 cj1 cj2
          have fj0 := hOv.frozen (j * 3)
          have fj1 := hOv.frozen (j * 3 + 1)
          have fj2 := hOv.frozen (j * 3 + 2)
          clear hcj
          go_wp2_with fail
          try go_simp
          refine hK _ _ trivial ?_
          clear hK K
          obtain ⟨u5, hun⟩ : ∃ x, x = ((v5.setCell ⟨g, j * 3, none⟩ (.int .i64 (o)[i].path)).setCell ⟨g, j * 3 + 1, none⟩ (.int .i64 (o)[i].start)).setCell ⟨g, j * 3 + 2, none⟩ (.bool (o)[i].back) := ⟨_, rfl⟩
          have hOu5 : Own u5 lo 43 (some ⟨g, 0, none⟩) c2 (swp o i j (o)[i] (o)[j]) := by rw [hun]; exact Own.set_vis hOv hj2 _
          have hgu : v5.grownBy u5 (some g) := by rw [hun]; exact gr_three _ _ _ _ _ _ _ _
          rw [← hun]
          have hgs5 : W1.grownBy u5 (some g) := gr_trans hgv hgu
          have hbu5 := hb1.gr hgs5 (fun e => hb1.ne_own hO1 (by decide) e)
          have hgu5 : w0.grownBy u5 none := gr_row ((hg).t hgW1) hgs5 (fun x e => by injection e; omega)
          clear hun cj0 cj1 cj2 fj0 fj1 fj2 hOv hgv hgu hgs5 hO1 hb1 hgW1
          refine tree_done ?_
          have hij2 : i ≠ j := by omega
          have hm := swp_mem hil hjl
          have hpm : (swp o i j o[i] o[j]).Perm o := List.set_set_perm hil hjl
          have hl2 := swp_len o i j o[i] o[j]
          have hTq := hTr.out _ hl2 hm
          rw [hl2] at hTq
          obtain ⟨o2, ho2⟩ : ∃ x, x = swp o i j o[i] o[j] := ⟨_, rfl⟩
          simp only [← ho2] at hm hpm hl2 hTq hOu5
          have hi2 : i < o2.length := by omega
          have hj2 : j < o2.length := by omega
          have hbk := swp_back2 hil hjl hij2 ho2 hi2 hj2
          obtain ⟨b0, _⟩ := hbu5.c 0 rfl
          obtain ⟨b1, _⟩ := hbu5.c 1 rfl
          have hTq := hTq _ hgu5 hOu5
          replace hbk := hide hbk
          replace hTq := hide hTq
          replace hm := hide hm
          replace hpm := hide hpm
          have hl3 := hide hl2
          clear hl2 ho2
          go_wp2_with fail
          refine hTq.out.mono ?_
          rintro e w6 ⟨rfl, hg6⟩
          clear b0 b1
          replace hOu5 := hOu5.pure hg6
          replace hbu5 := hbu5.pure hg6
          replace hgu5 := hgu5.t hg6
          obtain ⟨T2, hT2⟩ : ∃ T2, (travS l st o2).2 = T2 := ⟨_, rfl⟩
          rw [hT2]
          replace hT2 := hide hT2
          clear hg6 hTq
          rcases hlt : decide (T2 < T) with _ | _
          · go_upto_region 11 with fail
            rw [← hl3.out]
            refine wp_region_tree (fun wx => Own wx lo 43 (some ⟨g, 0, none⟩) c2 o2) [2, 2, 2, 2, 2, 2, 2, 1, 2, 2, 2, 1, 2, 0, 2, 0] (.bl 0 (.bl 1 (.bl 2 (.bl 3 (.bl 4 (.bl 5 (.bl 6 (.bl 7 (.bl 8 (.bl 9 (.bl 10 (.bl 11 (.bl 12 (.ef 13 (.bl 14 (.ef 15 .done)))))))))))))))) (by kernel_rfl) (by kernel_rfl) ((hOu5).pure (gr_drew (World.grownBy.refl _ _))) ?_
            obtain ⟨W1, hW1⟩ : ∃ x, x = (w6).drew := ⟨_, rfl⟩
            rw [← hW1]
            have hgW1 : (w6).grownBy W1 none := by rw [hW1]; exact gr_drew (World.grownBy.refl _ _)
            clear hW1
            refine tree_p rfl rfl rfl rfl _ rfl (by simp) (fun K hK => ?_)
            apply Exists.intro
            refine ⟨fun wq K' hK' => ?_, ?_⟩
            · go_wp2_with fail
              exact hK'
            go_simp
            refine hK _ ?_
            clear hK K
            refine tree_p rfl rfl rfl rfl _ rfl (by simp) (fun K hK => ?_)
            apply Exists.intro
            refine ⟨fun wq K' hK' => ?_, ?_⟩
            · go_wp2_with fail
              exact hK'
            go_simp
            refine hK _ ?_
            clear hK K
            refine tree_p rfl rfl rfl rfl _ rfl (by simp) (fun K hK => ?_)
            apply Exists.intro
            refine ⟨fun wq K' hK' => ?_, ?_⟩
            · go_wp2_with fail
              exact hK'
            go_simp
            refine hK _ ?_
            clear hK K
            refine tree_p rfl rfl rfl rfl _ rfl (by simp) (fun K hK => ?_)
            apply Exists.intro
            refine ⟨fun wq K' hK' => ?_, ?_⟩
            · go_wp2_with fail
              exact hK'
            go_simp
            refine hK _ ?_
            clear hK K
            refine tree_p rfl rfl rfl rfl _ rfl (by simp) (fun K hK => ?_)
            apply Exists.intro
            refine ⟨fun wq K' hK' => ?_, ?_⟩
            · go_wp2_with fail
              exact hK'
            go_simp
            refine hK _ ?_
            clear hK K
            refine tree_p rfl rfl rfl rfl _ rfl (by simp) (fun K hK => ?_)
            apply Exists.intro
            refine ⟨fun wq K' hK' => ?_, ?_⟩
            · go_wp2_with fail
              exact hK'
            go_simp
            refine hK _ ?_
            clear hK K
            refine tree_p rfl rfl rfl rfl _ rfl (by simp) (fun K hK => ?_)
            apply Exists.intro
            refine ⟨fun wq K' hK' => ?_, ?_⟩
            · go_wp2_with fail
              exact hK'
            go_simp
            refine hK _ ?_
            clear hK K
            refine tree_b rfl rfl rfl rfl _ rfl (by simp) (fun K hK => ?_)
            apply Exists.intro
            refine ⟨fun wq hq K' hK' => ?_, ?_⟩
            · obtain ⟨ci, rfl, hci⟩ := hq.cell_at (by decide) hi2
              have ci0 : wq.cell? ⟨g, i * 3, none⟩ = some (.int .i64 (o2)[i].path) := hci 0 _ rfl
              have ci1 : wq.cell? ⟨g, i * 3 + 1, none⟩ = some (.int .i64 (o2)[i].start) := hci 1 _ rfl
              have ci2 : wq.cell? ⟨g, i * 3 + 2, none⟩ = some (.bool (o2)[i].back) := hci 2 _ rfl
              obtain ⟨cj, rfl, hcj⟩ := hq.cell_at (by decide) hj2
              have cj0 : wq.cell? ⟨g, j * 3, none⟩ = some (.int .i64 (o2)[j].path) := hcj 0 _ rfl
              have cj1 : wq.cell? ⟨g, j * 3 + 1, none⟩ = some (.int .i64 (o2)[j].start) := hcj 1 _ rfl
              have cj2 : wq.cell? ⟨g, j * 3 + 2, none⟩ = some (.bool (o2)[j].back) := hcj 2 _ rfl
              clear hci hcj
              go_wp2_with fail
              exact hK'
            go_simp
            refine hK _ ?_
            clear hK K
            refine tree_p rfl rfl rfl rfl _ rfl (by simp) (fun K hK => ?_)
            apply Exists.intro
            refine ⟨fun wq K' hK' => ?_, ?_⟩
            · go_wp2_with fail
              exact hK'
            go_simp
            refine hK _ ?_
            clear hK K
            refine tree_p rfl rfl rfl rfl _ rfl (by simp) (fun K hK => ?_)
            apply Exists.intro
            refine ⟨fun wq K' hK' => ?_, ?_⟩
            · go_wp2_with fail
              exact hK'
            go_simp
            refine hK _ ?_
            clear hK K
            refine tree_p rfl rfl rfl rfl _ rfl (by simp) (fun K hK => ?_)
            apply Exists.intro
            refine ⟨fun wq K' hK' => ?_, ?_⟩
            · go_wp2_with fail
              exact hK'
            go_simp
            refine hK _ ?_
            clear hK K
            refine tree_b rfl rfl rfl rfl _ rfl (by simp) (fun K hK => ?_)
            apply Exists.intro
            refine ⟨fun wq hq K' hK' => ?_, ?_⟩
            · obtain ⟨ci, rfl, hci⟩ := hq.cell_at (by decide) hi2
              have ci0 : wq.cell? ⟨g, i * 3, none⟩ = some (.int .i64 (o2)[i].path) := hci 0 _ rfl
              have ci1 : wq.cell? ⟨g, i * 3 + 1, none⟩ = some (.int .i64 (o2)[i].start) := hci 1 _ rfl
              have ci2 : wq.cell? ⟨g, i * 3 + 2, none⟩ = some (.bool (o2)[i].back) := hci 2 _ rfl
              obtain ⟨cj, rfl, hcj⟩ := hq.cell_at (by decide) hj2
              have cj0 : wq.cell? ⟨g, j * 3, none⟩ = some (.int .i64 (o2)[j].path) := hcj 0 _ rfl
              have cj1 : wq.cell? ⟨g, j * 3 + 1, none⟩ = some (.int .i64 (o2)[j].start) := hcj 1 _ rfl
              have cj2 : wq.cell? ⟨g, j * 3 + 2, none⟩ = some (.bool (o2)[j].back) := hcj 2 _ rfl
              clear hci hcj
              go_wp2_with fail
              exact hK'
            go_simp
            refine hK _ ?_
            clear hK K
            refine tree_p rfl rfl rfl rfl _ rfl (by simp) (fun K hK => ?_)
            apply Exists.intro
            refine ⟨fun wq K' hK' => ?_, ?_⟩
            · go_wp2_with fail
              exact hK'
            go_simp
            refine hK _ ?_
            clear hK K
            refine tree_e0 (by kernel_rfl) rfl rfl (fun K hK => ?_)
            have hO1 := (hOu5).pure hgW1
            have hb1 := (hbu5).pure hgW1
            obtain ⟨ci, rfl, hci⟩ := hO1.cell_at (by decide) hi2
            have ci0 := hci 0 _ rfl
            have ci1 := hci 1 _ rfl
            have ci2 := hci 2 _ rfl
            simp only [Enc.sz, Nat.add_zero] at ci0 ci1 ci2
            have fi0 := hO1.frozen (i * 3)
            have fi1 := hO1.frozen (i * 3 + 1)
            have fi2 := hO1.frozen (i * 3 + 2)
            clear hci
            go_wp2_with fail
            try go_simp
            refine hK _ _ trivial ?_
            clear hK K
            obtain ⟨v7, hvn⟩ : ∃ x, x = ((W1.setCell ⟨g, i * 3, none⟩ (.int .i64 (o2)[j].path)).setCell ⟨g, i * 3 + 1, none⟩ (.int .i64 (o2)[j].start)).setCell ⟨g, i * 3 + 2, none⟩ (.bool (o2)[j].back) := ⟨_, rfl⟩
            have hOv : Own v7 lo 43 (some ⟨g, 0, none⟩) c2 ((o2).set i (o2)[j]) := by rw [hvn]; exact Own.set_vis hO1 hi2 _
            have hgv : W1.grownBy v7 (some g) := by rw [hvn]; exact gr_three _ _ _ _ _ _ _ _
            rw [← hvn]
            clear hvn ci0 ci1 ci2 fi0 fi1 fi2
            refine tree_p rfl rfl rfl rfl _ rfl (by simp) (fun K hK => ?_)
            apply Exists.intro
            refine ⟨fun wq K' hK' => ?_, ?_⟩
            · go_wp2_with fail
              exact hK'
            go_simp
            refine hK _ ?_
            clear hK K
            refine tree_e0 (by kernel_rfl) rfl rfl (fun K hK => ?_)
            have hj2 : j < ((o2).set i (o2)[j]).length := by rw [List.length_set]; exact hj2
            obtain ⟨cj, rfl, hcj⟩ := hOv.cell_at (by decide) hj2
            have cj0 := hcj 0 _ rfl
            have cj1 := hcj 1 _ rfl
            have cj2 := hcj 2 _ rfl
            simp only [Enc.sz, Nat.add_zero] at cj0 cj1 cj2
            have fj0 := hOv.frozen (j * 3)
            have fj1 := hOv.frozen (j * 3 + 1)
            have fj2 := hOv.frozen (j * 3 + 2)
            clear hcj
            go_wp2_with fail
            try go_simp
            refine hK _ _ trivial ?_
            clear hK K
            obtain ⟨u7, hun⟩ : ∃ x, x = ((v7.setCell ⟨g, j * 3, none⟩ (.int .i64 (o2)[i].path)).setCell ⟨g, j * 3 + 1, none⟩ (.int .i64 (o2)[i].start)).setCell ⟨g, j * 3 + 2, none⟩ (.bool (o2)[i].back) := ⟨_, rfl⟩
            have hOu7 : Own u7 lo 43 (some ⟨g, 0, none⟩) c2 (swp o2 i j (o2)[i] (o2)[j]) := by rw [hun]; exact Own.set_vis hOv hj2 _
            have hgu : v7.grownBy u7 (some g) := by rw [hun]; exact gr_three _ _ _ _ _ _ _ _
            rw [← hun]
            have hgs7 : W1.grownBy u7 (some g) := gr_trans hgv hgu
            have hbu7 := hb1.gr hgs7 (fun e => hb1.ne_own hO1 (by decide) e)
            have hgu7 : w0.grownBy u7 none := gr_row ((hgu5).t hgW1) hgs7 (fun x e => by injection e; omega)
            clear hun cj0 cj1 cj2 fj0 fj1 fj2 hOv hgv hgu hgs7 hO1 hb1 hgW1
            refine tree_done ?_
            rw [hbk.out] at hOu7
            rw [hl3.out]
            go_wp2_with fail
            (go_roundw; (case rel => exact ⟨j + 1, by omega, by omega, by go_num, hOu7, hgu7, hbu7⟩); (case measure => simp [intOf]; omega))
          · have hlt2 := hide (of_decide_eq_true hlt)
            go_wp2_with fail
            go_ret
            exact .inr ⟨o2, rfl, hOu5, hgu5, hl3.out, hpm.out, by rw [hT.out, hT2.out]; exact hlt2.out⟩
        · go_wp2_with fail
          (go_roundw; (case rel => exact ⟨i + 1, by omega, by go_num, ho, hg, hb⟩); (case measure => simp [intOf]; omega))
    · go_wp2_with fail
      go_ret
      exact .inl ⟨rfl, ho, hg⟩

end Go.Proofs.YtgcfaamgilbjdaaGreatDoor

namespace Go.Proofs.YtgcfaamgilbjdaaGreatDoor
open Go Go.RowKit Go.Bl

set_option maxHeartbeats 400000 in
theorem cloneVis_any (A : Option Addr) (c : Nat) (l : List Vis) (w : World) (hl : Sl w 0 A l) (hlen : l.length ≤ 1000000) :
    Calls Tryz.prog 25 #[.slice A l.length c] w fun e w' => ∃ A' c', e = .returned (.slice A' l.length c') ∧ Own w' w.heap.size 43 A' c' l ∧ w.grownBy w' none := by
  obtain ⟨i0, hi, hz, h1, h2⟩ := info_parts info_vis
  have hq := fun W => Lib.run_eql_slice_nil (P := Tryz.prog) W 32 43 A l.length c 0 0 Tryz.underlying32
  rcases A with _ | ad
  · have hl0 : l = [] := by
      rcases Nat.eq_zero_or_pos l.length with h | h
      · exact List.eq_nil_of_length_eq_zero h
      · obtain ⟨g, o, cx, e, _⟩ := hl.at_ (by decide) h
        cases e
    subst hl0
    simp only [List.length_nil] at hq
    go_enter Tryz.func25, Tryz.ntmps25
    go_wp2_with fail
    go_ret
    exact ⟨none, 0, rfl, Own.nil _ _ _, World.grownBy.refl _ _⟩
  · go_enter Tryz.func25, Tryz.ntmps25
    go_wp2_with (at_builtin; refine wpList_push _ rfl (.tmp 5) (.tmp 6) _ rfl w.heap.size 43 i0 _ 24 Tryz.underlying32 hi hz h1 h2 rfl _ _ _ [] rfl rfl (by exact Own.empty _ _ _ (Nat.le_refl _)) 0 ad _ c l rfl rfl (by exact hl.pure (gr_alloc (World.grownBy.refl _ _) _)) ?c2 ?c3 ?c4 ?_)
    case c2 => simp; omega
    case c3 => simp [maxLen]; omega
    case c4 => simp
    intro A2 c2 w2 hown hup
    go_wp2
    go_ret
    exact ⟨A2, c2, rfl, hown, hup.gr (Nat.le_refl _) (gr_alloc (World.grownBy.refl _ _) _)⟩

set_option maxHeartbeats 4000000 in
set_option maxRecDepth 100000 in
theorem improvedP_any (A : Option Addr) (c : Nat) (l : List PathV) (B : Option Addr) (d : Nat) (o : List Vis) (st : Pt) (w : World) (hl : Sl w 0 A l) (ho : Sl w 0 B o) (hF : twoF st l o = 0) :
    Calls Tryz.prog 10 #[.agg #[.int .i64 st.x, .int .i64 st.y], .slice A l.length c, .slice B o.length d] w fun e w' => ∃ (A' : Option Addr) (c' : Nat) (o' : List Vis) (T : Int), e = .returned (.tuple #[.slice A' o.length c', .int .i64 T, .int .i64 0]) ∧ Own w' w.heap.size 43 A' c' o' ∧ o'.length = o.length ∧ w.grownBy w' none ∧ o'.Perm o ∧ (travS l st o').2 ≤ (travS l st o).2 ∧ T = (travS l st o').2 := by
  obtain ⟨hst, hn, hv⟩ := twoF_zero hF
  have hFa := fun wx (hx : w.grownBy wx none) => startFault_any A c l B d o st wx (hl.pure hx) (ho.pure hx)
  rw [hF] at hFa
  have hnn := fun (o' : List Vis) (h1 : o'.length = o.length) (h2 : ∀ v ∈ o', VisOk l v) => (by have := (travS_bd hst h2 o'.length (Nat.le_refl _)).2.1; rwa [List.take_length] at this : 0 ≤ (travS l st o').2)
  replace hFa := hide hFa
  replace hnn := hide hnn
  replace hv := hide hv
  clear hF
  go_enter Tryz.func10, Tryz.ntmps10
  go_upto_region 1 with fail
  obtain ⟨w3, hw3⟩ : ∃ x, x = (w).alloc (.cells [.int .i64 st.x, .int .i64 st.y].toArray 28) := ⟨_, rfl⟩
  have hg3 : (w).grownBy w3 none := by rw [hw3]; exact gr_alloc (World.grownBy.refl _ _) _
  have hb3 : Box w3 (w).heap.size 28 [.int .i64 st.x, .int .i64 st.y] := by rw [hw3]; exact Box.new _ _ _
  have hxs3 := hb3.lt
  rw [← hw3]
  clear hw3
  obtain ⟨x3, hx3⟩ : ∃ x, x = (w).heap.size := ⟨_, rfl⟩
  rw [← hx3] at hb3 hxs3 ⊢
  have hxl3 : (w).heap.size ≤ x3 := by omega
  clear hx3
  obtain ⟨b0, _⟩ := hb3.c 0 rfl
  obtain ⟨b1, _⟩ := hb3.c 1 rfl
  go_wp2_with fail
  refine (hFa.out _ hg3).mono ?_
  rintro e w4 ⟨rfl, hg4⟩
  have hg34 := hg3.t hg4
  clear b0 b1 hFa
  go_wp2_with fail
  refine (cloneVis_any _ _ o _ (ho.pure hg34) (by omega)).mono ?_
  rintro e w5 ⟨A2, c2, rfl, hO, hg5⟩
  have hsz := hg34.size
  have hb4 := hb3.pure hg4
  have hl4 := hl.pure hg34
  clear hg3 hg4 hb3
  go_wp2_with fail
  go_loopg [22] ((travS l st o).2.toNat + 1) (fun kx s wr => ∃ o' : List Vis, Hid (o'.length = o.length) ∧ Hid (o'.Perm o ∧ (travS l st o').2 ≤ (travS l st o).2) ∧ Hid (∀ v ∈ o', VisOk l v) ∧ Own wr w4.heap.size 43 A2 c2 o' ∧ w4.grownBy wr none ∧ Hid ((travS l st o').2.toNat < kx))
  case atStart => exact ⟨o, rfl, ⟨List.Perm.refl o, Int.le_refl _⟩, hv.out, hO, hg5, by rw [Hid]; omega⟩
  case round =>
    clear hO hg5
    obtain ⟨o', hlo, hpe, hv', hO, hg, hk⟩ := hrel
    obtain ⟨b0, _⟩ := (hb4.pure hg).c 0 rfl
    obtain ⟨b1, _⟩ := (hb4.pure hg).c 1 rfl
    have hX := exchange_any A c l A2 c2 w4.heap.size o' st w4 wr hl4 hg (Nat.le_refl _) hO hst hv'.out (by rw [hlo.out]; exact hn)
    have hTr := fun wx (h1 : w4.grownBy wx none) (h2 : Own wx w4.heap.size 43 A2 c2 o') => travel_any A c l A2 c2 o' st wx (hl4.pure h1) (h2.sl.mono (Nat.zero_le _)) hst hv'.out (by rw [hlo.out]; omega)
    rw [hlo.out] at hX hTr
    replace hX := hide hX
    replace hTr := hide hTr
    go_wp2_with fail
    refine hX.out.mono ?_
    rintro e w6 h
    clear b0 b1 hX
    rcases h with ⟨rfl, hO6, hg6⟩ | ⟨o2, rfl, hO6, hg6, hl2, hm2, ht2⟩
    · have hTr6 := hide (hTr.out _ hg6 hO6)
      obtain ⟨b0, _⟩ := (hb4.pure hg6).c 0 rfl
      obtain ⟨b1, _⟩ := (hb4.pure hg6).c 1 rfl
      clear hTr hO hg
      go_wp2_with fail
      refine hTr6.out.mono ?_
      rintro e w7 ⟨rfl, hg7⟩
      go_wp2_with fail
      refine bodyPost_ret (v := .tuple #[.slice A2 o.length c2, .int .i64 (travS l st o').2, .int .i64 0]) (by simp [results, Tryz.results10, go_sem]) rfl ⟨A2, c2, o', _, rfl, (hO6.pure hg7).lower hsz, hlo.out, hg34.t (hg6.t hg7), hpe.out.1, hpe.out.2, rfl⟩
    · have hn2 := hnn.out o2 (by rw [hl2, hlo.out]) (fun v h => hv'.out v (hm2.mem_iff.1 h))
      have hk2 : (travS l st o2).2.toNat < (travS l st o').2.toNat := by omega
      have hk3 := hk.out
      have hl3 := hide hl2
      have hm3 := hide hm2
      have hpe2 : Hid (o2.Perm o ∧ (travS l st o2).2 ≤ (travS l st o).2) := ⟨hm2.trans hpe.out.1, Int.le_trans (Int.le_of_lt ht2) hpe.out.2⟩
      clear hl2 hm2 ht2 hn2 hTr hO hg
      replace hk2 := hide hk2
      replace hk3 := hide hk3
      go_wp2_with fail
      go_roundg ((travS l st o').2.toNat)
      case measure => exact hk3.out
      case rel => exact ⟨o2, by rw [Hid, hl3.out, hlo.out], hpe2, fun v h => hv'.out v (hm3.out.mem_iff.1 h), hO6, hg6, hk2.out⟩

end Go.Proofs.YtgcfaamgilbjdaaGreatDoor

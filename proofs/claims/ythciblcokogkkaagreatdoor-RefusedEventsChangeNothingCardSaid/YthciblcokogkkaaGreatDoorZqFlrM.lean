/- Contracts of functions that this seat's laws reach, each: what one call returns and what it leaves in memory; no condition beyond each theorem's own hypotheses. -/
import Derived.Test.YthciblcokogkkaaGreatDoorZqFlrL
import Derived.Test.YthciblcokogkkaaGreatDoorZqFlrG
set_option linter.unusedVariables false
set_option linter.unusedSimpArgs false
namespace Go.Proofs.YthciblcokogkkaaGreatDoor
open Go Go.RowKit Go.Bl Go.Maps Go.WideShapes

set_option maxHeartbeats 1000000 in
theorem doneClo_any (x10 f b1 b2 b3 b4 N : Nat) (F : Flr) (s : ByteArray) (v : Bool) (w : World) (h10 : Box w x10 85 [.pointer (some ⟨f, 0, none⟩)])
    (hbx : Box w f 92 [.map (some b1), .map (some b2), .map (some b3), .map (some b4)]) (hm : MapOf strB w b3 N F.dn) (hs : okK s) :
    Calls Tryz.prog 55 #[.string s, .bool v, .pointer (some ⟨x10, 0, none⟩)] w fun e w' => e = .returned (.bool ((F.dn s).getD false)) ∧ w.grownBy w' none := by
  obtain ⟨q0, -⟩ := h10.c 0 rfl
  obtain ⟨f2, -⟩ := hbx.c 2 rfl
  have hlk := look_B hm hs
  generalize (F.dn s).getD false = V at *
  go_enter Tryz.func55, Tryz.ntmps55
  go_wp2_with fail
  go_ret
  exact ⟨rfl, World.grownBy.refl _ _⟩

/-- jobs that are done, and those that have failed and are not done -/
def DoneS (F : Flr) (s1 s2 : List (List UInt8)) : Prop :=
  s1.Nodup ∧ s2.Nodup ∧ (∀ s, s ∈ s1 ↔ okK ⟨s.toArray⟩ ∧ (F.dn ⟨s.toArray⟩).isSome = true) ∧ ∀ s, s ∈ s2 ↔ okK ⟨s.toArray⟩ ∧ (if (F.dn ⟨s.toArray⟩).getD false then none else F.fl ⟨s.toArray⟩).isSome = true

set_option maxHeartbeats 4000000 in
set_option maxRecDepth 100000 in
theorem done_any (P A : Option Addr) (pc c : Nat) (p : List Prn) (l : List Ev) (at_ : Int) (w : World)
    (hpl : Sl w 0 P p) (hpk : ∀ x ∈ p, okK x.key) (h50 : p.length ≤ 50) (hl5 : l.length ≤ 5000) (hev : ∀ e ∈ l, EvOk e) (hl : Sl w 0 A l) (hck : chkF p l = 0) (hat : momO at_ = false) :
    Calls Tryz.prog 13 #[.slice P p.length pc, .slice A l.length c, .int .i64 at_] w fun e w' => ∃ (s1 s2 : List (List UInt8)) (A1 : Option Addr) (c1 : Nat) (A2 : Option Addr) (c2 : Nat), e = .returned (.tuple #[.slice A1 s1.length c1, .slice A2 s2.length c2, .int .i64 0]) ∧
      Sl w' 0 A1 (srtB s1) ∧ Sl w' 0 A2 (srtB s2) ∧ DoneS (runS (newF p) (l.take (limN l at_))) s1 s2 ∧ w.grownBy w' none := by
  have hC := hide fun wx (h : w.grownBy wx none) => checkEvents_any P A pc c p l wx (hpl.pure h) (hl.pure h)
  rw [hck] at hC
  have hF := hide fun wx (h : w.grownBy wx none) => floorAt_any P A pc c p l at_ wx (hpl.pure h) hpk h50 hl5 hev (hl.pure h)
  have hM := hide fun wx => isMoment_any at_ wx
  rw [hat] at hM
  clear hpl hpk hl hev hck hat
  generalize runS (newF p) (l.take (limN l at_)) = F at *
  go_enter Tryz.func13, Tryz.ntmps13
  go_wp2_with fail
  refine (hC.out _ (World.grownBy.refl _ _)).mono ?_
  rintro e w1 ⟨rfl, hg1⟩
  go_wp2_with fail
  refine (hM.out _).mono ?_
  rintro e wq ⟨rfl, rfl⟩
  go_wp2_with fail
  refine (hF.out _ hg1).mono ?_
  rintro e w3 ⟨f, b1, b2, b3, b4, rfl, hF3, hg3, hlo⟩
  have hgw3 := hg1.t hg3
  have hlow : ∀ x, x = f ∨ isF b1 b2 b3 b4 x → w.heap.size ≤ x := fun x hx => by have := hlo x hx; have := hg1.size; omega
  replace hlow := hide hlow
  clear hF hC hM hlo hg1 hg3
  go_upto_region 7 with fail
  obtain ⟨w10, hw10⟩ : ∃ x, x = (w3).alloc (.cells [.pointer (some ⟨f, 0, none⟩)].toArray 85) := ⟨_, rfl⟩
  have hg10 : (w3).grownBy w10 none := by rw [hw10]; exact gr_alloc (World.grownBy.refl _ _) _
  have hb10 : Box w10 (w3).heap.size 85 [.pointer (some ⟨f, 0, none⟩)] := by rw [hw10]; exact Box.new _ _ _
  have hxs10 := hb10.lt
  rw [← hw10]
  clear hw10
  obtain ⟨x10, hx10⟩ : ∃ x, x = (w3).heap.size := ⟨_, rfl⟩
  rw [← hx10] at hb10 hxs10 ⊢
  have hxl10 : (w3).heap.size ≤ x10 := by omega
  clear hx10
  have hF10 := hF3.pure hg10
  have hgw10 := hgw3.t hg10
  have hfx : x10 ≠ b4 := fun e => map_noBox (e ▸ hF10.m4.heap) hb10
  have hdf := hide (deleteFunc_any 55 #[.pointer (some ⟨x10, 0, none⟩)] b4 20000 F.fl (fun s => (F.dn s).getD false) w10 (enters_of Tryz.func55 (by kernel_rfl) rfl) hF10.m4 (fun W s v hW hs =>
    doneClo_any x10 f b1 b2 b3 b4 20000 F s v W (hb10.gr hW (fun e => hfx (by injection e with e; exact e.symm))) (hF10.bx.gr hW (fun e => hF10.ne4 (by injection e with e; exact e.symm))) (hF10.m3.kept hW (fun e => hF10.ne.2.2.2.2.2 (by injection e with e; exact e.symm))) hs))
  obtain ⟨q0, -⟩ := hb10.c 0 rfl
  obtain ⟨f3, -⟩ := hF10.bx.c 3 rfl
  go_wp2_with fail
  refine hdf.out.mono ?_
  rintro e w11 ⟨rfl, hm4, hg11⟩
  have hF11 := hF10.s4 (Nat.le_refl _) hm4 hg11
  have hb11 := hb10.gr hg11 (fun e => hfx (by injection e with e; exact e.symm))
  have hgw11 : w.grownBy w11 none := gr_new hgw10 hg11 (hlow.out b4 (.inr (.inr (.inr (.inr rfl)))))
  clear hdf q0 f3 hF10 hb10 hgw10 hg11 hm4 hF3 hg10 hgw3 hlow
  go_upto_region 8 with fail
  have hY := hide fun wx (h : w11.grownBy wx none) => And.intro (hF11.pure h) (hb11.pure h)
  clear hF11 hb11
  refine wp_region_tree (fun wx => w11.grownBy wx none) [1, 2, 2, 1, 0, 0, 1, 2, 2, 1, 0, 0, 2, 2, 2] (.bl 0 (.bl 1 (.bl 2 (.bl 3 (.bl 6 (.bl 7 (.bl 8 (.bl 9 (.ef 4 (.ef 5 (.ef 10 (.ef 11 (.bl 12 (.bl 13 (.bl 14 .done))))))))))))))) (by kernel_rfl) (by kernel_rfl) (gr_drew (World.grownBy.refl _ _)) ?_
  obtain ⟨u0, hu0⟩ : ∃ x, x = (w11).drew := ⟨_, rfl⟩
  rw [← hu0]
  have hgu0 : (w11).grownBy u0 none := by rw [hu0]; exact gr_drew (World.grownBy.refl _ _)
  clear hu0
  refine tree_b rfl rfl rfl rfl _ rfl (by simp) (fun K hK => ?_)
  apply Exists.intro
  refine ⟨fun wq hq K' hK' => ?_, ?_⟩
  · obtain ⟨hFq, hbq⟩ := hY.out wq hq
    obtain ⟨f2, -⟩ := hFq.bx.c 2 rfl
    obtain ⟨f3, -⟩ := hFq.bx.c 3 rfl
    obtain ⟨q0, -⟩ := hbq.c 0 rfl
    go_wp2_with fail
    exact hK'
  go_simp
  refine hK _ ?_
  clear hK K
  refine tree_n rfl rfl _ rfl _ rfl ?_
  try go_simp
  refine tree_p rfl rfl rfl rfl _ rfl (by simp) (fun K hK => ?_)
  apply Exists.intro
  refine ⟨fun wq K' hK' => ?_, ?_⟩
  · go_wp2_with fail
    exact hK'
  go_simp
  refine hK _ ?_
  clear hK K
  refine tree_b rfl rfl rfl rfl _ rfl (by simp) (fun K hK => ?_)
  apply Exists.intro
  refine ⟨fun wq hq K' hK' => ?_, ?_⟩
  · obtain ⟨hFq, hbq⟩ := hY.out wq hq
    obtain ⟨f2, -⟩ := hFq.bx.c 2 rfl
    obtain ⟨f3, -⟩ := hFq.bx.c 3 rfl
    obtain ⟨q0, -⟩ := hbq.c 0 rfl
    go_wp2_with fail
    exact hK'
  go_simp
  refine hK _ ?_
  clear hK K
  refine tree_b rfl rfl rfl rfl _ rfl (by simp) (fun K hK => ?_)
  apply Exists.intro
  refine ⟨fun wq hq K' hK' => ?_, ?_⟩
  · obtain ⟨hFq, hbq⟩ := hY.out wq hq
    obtain ⟨f2, -⟩ := hFq.bx.c 2 rfl
    obtain ⟨f3, -⟩ := hFq.bx.c 3 rfl
    obtain ⟨q0, -⟩ := hbq.c 0 rfl
    go_wp2_with fail
    exact hK'
  go_simp
  refine hK _ ?_
  clear hK K
  refine tree_n rfl rfl _ rfl _ rfl ?_
  try go_simp
  refine tree_p rfl rfl rfl rfl _ rfl (by simp) (fun K hK => ?_)
  apply Exists.intro
  refine ⟨fun wq K' hK' => ?_, ?_⟩
  · go_wp2_with fail
    exact hK'
  go_simp
  refine hK _ ?_
  clear hK K
  refine tree_b rfl rfl rfl rfl _ rfl (by simp) (fun K hK => ?_)
  apply Exists.intro
  refine ⟨fun wq hq K' hK' => ?_, ?_⟩
  · obtain ⟨hFq, hbq⟩ := hY.out wq hq
    obtain ⟨f2, -⟩ := hFq.bx.c 2 rfl
    obtain ⟨f3, -⟩ := hFq.bx.c 3 rfl
    obtain ⟨q0, -⟩ := hbq.c 0 rfl
    go_wp2_with fail
    exact hK'
  go_simp
  refine hK _ ?_
  clear hK K
  refine tree_e rfl rfl (fun K hK => ?_)
  go_wp2_with fail
  refine (mapsKeys_any b3 u0).mono ?_
  rintro e u4 ⟨rfl, hu4⟩
  have hg4 : (u0).grownBy u4 none := by rw [hu4]; exact gr_alloc (World.grownBy.refl _ _) _
  have hk4 : Box u4 (u0).heap.size 90 [.map (some b3)] := by rw [hu4]; exact Box.new _ _ _
  obtain ⟨x4, hx4⟩ : ∃ x, x = (u0).heap.size := ⟨_, rfl⟩
  rw [← hx4] at hk4 ⊢
  clear hu4 hx4
  go_wp2_with fail
  try go_simp
  refine hK _ _ (gr_trans hgu0 (gr_trans hg4 (World.grownBy.refl _ _))) ?_
  clear hK K
  refine tree_e rfl rfl (fun K hK => ?_)
  obtain ⟨d4, -⟩ := hk4.c 0 rfl
  obtain ⟨hFq, -⟩ := hY.out u4 (gr_trans hgu0 (gr_trans hg4 (World.grownBy.refl _ _)))
  go_wp2_with fail
  refine (sortedKeys_any x4 b3 20000 _ u4 d4 hFq.m3 (Nat.le_refl _)).mono ?_
  rintro e u5 ⟨s1, A1, c1, rfl, hl1, hn1, hm1, hb1, hg5⟩
  replace hm1 := hide hm1
  obtain ⟨n1, hn⟩ : ∃ n, n = s1.length := ⟨_, rfl⟩
  rw [← hn] at hb1 ⊢
  replace hn := hide hn
  clear d4 hFq
  go_wp2_with fail
  try go_simp
  refine hK _ _ (gr_trans hgu0 (gr_trans hg4 hg5)) ?_
  clear hK K
  refine tree_e0 (by kernel_rfl) rfl rfl (fun K hK => ?_)
  go_wp2_with fail
  refine (mapsKeys_any b4 u5).mono ?_
  rintro e u10 ⟨rfl, hu10⟩
  have hg10 : (u5).grownBy u10 none := by rw [hu10]; exact gr_alloc (World.grownBy.refl _ _) _
  have hk10 : Box u10 (u5).heap.size 90 [.map (some b4)] := by rw [hu10]; exact Box.new _ _ _
  obtain ⟨y10, hy10⟩ : ∃ x, x = (u5).heap.size := ⟨_, rfl⟩
  rw [← hy10] at hk10 ⊢
  clear hu10 hy10
  go_wp2_with fail
  try go_simp
  refine hK _ _ trivial ?_
  clear hK K
  refine tree_e0 (by kernel_rfl) rfl rfl (fun K hK => ?_)
  obtain ⟨d4, -⟩ := hk10.c 0 rfl
  obtain ⟨hFq, -⟩ := hY.out u10 (gr_trans hgu0 (gr_trans hg4 (gr_trans hg5 hg10)))
  go_wp2_with fail
  refine (sortedKeys_any y10 b4 20000 _ u10 d4 hFq.m4 (Nat.le_refl _)).mono ?_
  rintro e u11 ⟨s2, A2, c2, rfl, hl2, hn2, hm2, hb2, hg11⟩
  replace hm2 := hide hm2
  obtain ⟨n2, hnn⟩ : ∃ n, n = s2.length := ⟨_, rfl⟩
  rw [← hnn] at hb2 ⊢
  replace hnn := hide hnn
  clear d4 hFq
  go_wp2_with fail
  try go_simp
  refine hK _ _ trivial ?_
  clear hK K
  refine tree_p rfl rfl rfl rfl _ rfl (by simp) (fun K hK => ?_)
  apply Exists.intro
  refine ⟨fun wq K' hK' => ?_, ?_⟩
  · go_wp2_with fail
    exact hK'
  go_simp
  refine hK _ ?_
  clear hK K
  refine tree_p rfl rfl rfl rfl _ rfl (by simp) (fun K hK => ?_)
  apply Exists.intro
  refine ⟨fun wq K' hK' => ?_, ?_⟩
  · go_wp2_with fail
    exact hK'
  go_simp
  refine hK _ ?_
  clear hK K
  refine tree_p rfl rfl rfl rfl _ rfl (by simp) (fun K hK => ?_)
  apply Exists.intro
  refine ⟨fun wq K' hK' => ?_, ?_⟩
  · go_wp2_with fail
    exact hK'
  go_simp
  refine hK _ ?_
  clear hK K
  refine tree_done ?_
  have hgz : u5.grownBy u11 none := gr_trans hg10 hg11
  have hgw : w.grownBy u11 none := hgw11.t (gr_trans hgu0 (gr_trans hg4 (gr_trans hg5 hgz)))
  have hz1 := (hl1.mono (Nat.zero_le _)).pure hgz
  have hz2 := hl2.mono (Nat.zero_le _)
  go_wp2_with fail
  exact bodyPost_ret (v := .tuple #[.slice A1 n1 c1, .slice A2 n2 c2, .int .i64 0]) (by simp [results, Tryz.results13, go_sem]) rfl ⟨s1, s2, A1, c1, A2, c2, by rw [hn.out, hnn.out], hz1, hz2, ⟨hn1, hn2, hm1.out, hm2.out⟩, hgw⟩

end Go.Proofs.YthciblcokogkkaaGreatDoor

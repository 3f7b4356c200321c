/- Contracts of functions that this seat's laws reach, each: what one call returns and what it leaves in memory; no condition beyond each theorem's own hypotheses. -/
import Derived.Test.YtanioobepfllgaaGreatDoorZqFlrA
import Derived.Test.YtanioobepfllgaaGreatDoorZqPrnBin
import Derived.Test.YtanioobepfllgaaGreatDoorZqTree
import Derived.BigQuiet
set_option linter.unusedVariables false
set_option linter.unusedSimpArgs false
namespace Go.Proofs.YtanioobepfllgaaGreatDoor
open Go Go.RowKit Go.Bl Go.Maps Go.WideShapes

theorem take_snoc {α : Type} {l : List α} {k : Nat} (h : k < l.length) : l.take (k + 1) = l.take k ++ [l[k]] := by
  rw [List.take_succ_eq_append_getElem h]

theorem newF_take {p : List Prn} {k : Nat} (h : k < p.length) : newF (p.take (k + 1)) = ⟨updM (newF (p.take k)).at_ p[k].key ⟨1, 0, p[k].mat, noB⟩, (newF (p.take k)).wh, (newF (p.take k)).dn, (newF (p.take k)).fl⟩ := by
  unfold newF
  rw [take_snoc h, List.foldl_append]
  rfl

theorem okK_noB : okK noB := by unfold okK noB; decide

set_option maxHeartbeats 4000000 in
set_option maxRecDepth 100000 in
theorem newFloor_any (P : Option Addr) (pc : Nat) (p : List Prn) (w : World) (hpl : Sl w 0 P p) (hpk : ∀ x ∈ p, okK x.key) (h50 : p.length ≤ 50) :
    Calls Tryz.prog 78 #[.slice P p.length pc] w fun e w' => ∃ f b1 b2 b3 b4, e = .returned (.pointer (some ⟨f, 0, none⟩)) ∧ FlrAt w' f b1 b2 b3 b4 p.length (newF p) ∧ w.grownBy w' none ∧ (∀ x, x = f ∨ isF b1 b2 b3 b4 x → w.heap.size ≤ x) := by
  replace hpk := hide hpk
  go_enter Tryz.func78, Tryz.ntmps78
  obtain ⟨w1, hw1⟩ : ∃ q, q = w.alloc (.map #[] 0) := ⟨_, rfl⟩
  obtain ⟨w2, hw2⟩ : ∃ q, q = w1.alloc (.map #[] 0) := ⟨_, rfl⟩
  obtain ⟨w3, hw3⟩ : ∃ q, q = w2.alloc (.map #[] 0) := ⟨_, rfl⟩
  obtain ⟨w4, hw4⟩ : ∃ q, q = w3.alloc (.map #[] 0) := ⟨_, rfl⟩
  have s1 : w1.heap.size = w.heap.size + 1 := by rw [hw1]; simp
  have s2 : w2.heap.size = w.heap.size + 2 := by rw [hw2]; simp [s1]
  have s3 : w3.heap.size = w.heap.size + 3 := by rw [hw3]; simp [s2]
  have s4 : w4.heap.size = w.heap.size + 4 := by rw [hw4]; simp [s3]
  have m1 : MapOf strT w1 w.heap.size 0 (fun _ => none) := by rw [hw1]; exact MapOf.made strT w
  have m2 : MapOf strS w2 (w.heap.size + 1) 0 (fun _ => none) := by rw [hw2, ← s1]; exact MapOf.made strS w1
  have m3 : MapOf strB w3 (w.heap.size + 2) 0 (fun _ => none) := by rw [hw3, ← s2]; exact MapOf.made strB w2
  have m4 : MapOf strB w4 (w.heap.size + 3) 0 (fun _ => none) := by rw [hw4, ← s3]; exact MapOf.made strB w3
  have g1 : w.grownBy w1 none := by rw [hw1]; exact gr_alloc (World.grownBy.refl _ _) _
  have g2 : w1.grownBy w2 none := by rw [hw2]; exact gr_alloc (World.grownBy.refl _ _) _
  have g3 : w2.grownBy w3 none := by rw [hw3]; exact gr_alloc (World.grownBy.refl _ _) _
  have g4 : w3.grownBy w4 none := by rw [hw4]; exact gr_alloc (World.grownBy.refl _ _) _
  have k1 := run_makeMap (P := Tryz.prog) 128 w
  have k2 := run_makeMap (P := Tryz.prog) 129 w1
  have k3 := run_makeMap (P := Tryz.prog) 130 w2
  have k4 := run_makeMap (P := Tryz.prog) 130 w3
  rw [← hw1] at k1
  rw [← hw2] at k2
  rw [← hw3] at k3
  rw [← hw4] at k4
  rw [s1] at k2
  rw [s2] at k3
  rw [s3] at k4
  replace s1 := hide s1
  replace s2 := hide s2
  replace s3 := hide s3
  replace s4 := hide s4
  clear hw1 hw2 hw3 hw4
  go_upto_region 2 with fail
  obtain ⟨b1, hb1⟩ : ∃ q, q = w.heap.size := ⟨_, rfl⟩
  obtain ⟨b2, hb2⟩ : ∃ q, q = w.heap.size + 1 := ⟨_, rfl⟩
  obtain ⟨b3, hb3⟩ : ∃ q, q = w.heap.size + 2 := ⟨_, rfl⟩
  obtain ⟨b4, hb4⟩ : ∃ q, q = w.heap.size + 3 := ⟨_, rfl⟩
  rw [← hb1] at m1
  rw [← hb2] at m2
  rw [← hb3] at m3
  rw [← hb4] at m4
  rw [← hb2, ← hb3, ← hb4, ← hb1]
  have hne : b1 ≠ b2 ∧ b1 ≠ b3 ∧ b1 ≠ b4 ∧ b2 ≠ b3 ∧ b2 ≠ b4 ∧ b3 ≠ b4 := by omega
  have hlo : w.heap.size ≤ b1 ∧ w.heap.size ≤ b2 ∧ w.heap.size ≤ b3 ∧ w.heap.size ≤ b4 := by omega
  clear hb1 hb2 hb3 hb4 k1 k2 k3 k4
  have hg0 := ((g1.t g2).t g3).t g4
  have n1 := m1.kept ((g2.t g3).t g4) (by simp)
  have n2 := m2.kept (g3.t g4) (by simp)
  have n3 := m3.kept g4 (by simp)
  have hxf : w.heap.size ≤ w4.heap.size := hg0.size
  obtain ⟨w11, hw11⟩ : ∃ x, x = (w4).alloc (.cells [.map (some b1), .map (some b2), .map (some b3), .map (some b4)].toArray 132) := ⟨_, rfl⟩
  have hg11 : (w4).grownBy w11 none := by rw [hw11]; exact gr_alloc (World.grownBy.refl _ _) _
  have hb11 : Box w11 (w4).heap.size 132 [.map (some b1), .map (some b2), .map (some b3), .map (some b4)] := by rw [hw11]; exact Box.new _ _ _
  have hxs11 := hb11.lt
  rw [← hw11]
  clear hw11
  obtain ⟨x11, hx11⟩ : ∃ x, x = (w4).heap.size := ⟨_, rfl⟩
  rw [← hx11] at hb11 hxs11 ⊢
  have hxl11 : (w4).heap.size ≤ x11 := by omega
  clear hx11
  have hF0 : FlrAt w11 x11 b1 b2 b3 b4 0 (newF (p.take 0)) := ⟨hb11, n1.kept hg11 (by simp), n2.kept hg11 (by simp), n3.kept hg11 (by simp), m4.kept hg11 (by simp), hne, fun k y h => by cases h⟩
  replace hg0 := hg0.t hg11
  have hxl : w.heap.size ≤ x11 := by omega
  clear m1 m2 m3 m4 n1 n2 n3 g1 g2 g3 g4 s1 s2 s3 s4 hb11 hg11 hne hxf hxs11 hxl11
  go_wp2_with fail
  go_loopw [14] (fun i wr => ∃ k : Nat, k ≤ p.length ∧ i = .int .i64 k ∧ FlrAt wr x11 b1 b2 b3 b4 k (newF (p.take k)) ∧ w.grownBy wr none) (fun i _ => p.length - (intOf i).toNat)
  case atStart => exact ⟨0, Nat.zero_le _, rfl, hF0, hg0⟩
  case round =>
    clear hF0 hg0
    obtain ⟨k, hk, rfl, hF, hg⟩ := hrel
    by_cases hlt : k < p.length
    · obtain ⟨g, o, cx, rfl, hb0, hb1, rfl, hc⟩ := (hpl.pure hg).at_ (by decide) hlt
      have c0 : wr.cell? ⟨g, o + k * 2, none⟩ = some (.string p[k].key) := hc 0 _ rfl
      have c1 : wr.cell? ⟨g, o + k * 2 + 1, none⟩ = some (.string p[k].mat) := hc 1 _ rfl
      clear hc
      have hok := hpk.out _ (List.getElem_mem hlt)
      have hnx := hide (newF_take hlt)
      generalize p[k] = y at *
      go_upto_region 5 with fail
      obtain ⟨w5, hw5⟩ : ∃ x, x = (wr).alloc (.cells [.string y.key, .string y.mat].toArray 46) := ⟨_, rfl⟩
      have hg5 : (wr).grownBy w5 none := by rw [hw5]; exact gr_alloc (World.grownBy.refl _ _) _
      have hb5 : Box w5 (wr).heap.size 46 [.string y.key, .string y.mat] := by rw [hw5]; exact Box.new _ _ _
      have hxs5 := hb5.lt
      rw [← hw5]
      clear hw5
      obtain ⟨x5, hx5⟩ : ∃ x, x = (wr).heap.size := ⟨_, rfl⟩
      rw [← hx5] at hb5 hxs5 ⊢
      have hxl5 : (wr).heap.size ≤ x5 := by omega
      clear hx5
      replace hF := hF.pure hg5
      have hgw := hg.t hg5
      have hY := hide fun wx (h : w5.grownBy wx none) => And.intro (hF.pure h) (hb5.pure h)
      clear c0 c1 hF hb5 hg hg5 hxs5 hxl5
      refine wp_region_tree (fun wx => w5.grownBy wx none) [2, 2, 2, 1, 2, 1, 2, 1, 2, 0] (.bl 0 (.bl 1 (.bl 2 (.bl 3 (.bl 4 (.bl 5 (.bl 6 (.bl 7 (.bl 8 (.ef 9 .done)))))))))) (by kernel_rfl) (by kernel_rfl) (gr_drew (World.grownBy.refl _ _)) ?_
      obtain ⟨w6, hw6⟩ : ∃ x, x = (w5).drew := ⟨_, rfl⟩
      rw [← hw6]
      have hgw6 : (w5).grownBy w6 none := by rw [hw6]; exact gr_drew (World.grownBy.refl _ _)
      clear hw6
      refine tree_p rfl rfl rfl rfl _ rfl (by simp) (fun K hK => ?_)
      apply Exists.intro
      refine ⟨fun wq K' hK' => ?_, ?_⟩
      · go_wp2_with fail
        exact hK'
      go_simp
      refine hK _ ?_
      clear hK K
      refine tree_n rfl rfl _ rfl _ rfl ?_
      try go_simp
      refine tree_p rfl rfl rfl rfl _ rfl (by simp) (fun K hK => ?_)
      apply Exists.intro
      refine ⟨fun wq K' hK' => ?_, ?_⟩
      · go_wp2_with fail
        exact hK'
      go_simp
      refine hK _ ?_
      clear hK K
      refine tree_b rfl rfl rfl rfl _ rfl (by simp) (fun K hK => ?_)
      apply Exists.intro
      refine ⟨fun wq hq K' hK' => ?_, ?_⟩
      · obtain ⟨hFq, hbq⟩ := hY.out wq hq
        obtain ⟨f0, -⟩ := hFq.bx.c 0 rfl
        obtain ⟨p0, -⟩ := hbq.c 0 rfl
        obtain ⟨p1, -⟩ := hbq.c 1 rfl
        go_wp2_with fail
        exact hK'
      go_simp
      refine hK _ ?_
      clear hK K
      refine tree_p rfl rfl rfl rfl _ rfl (by simp) (fun K hK => ?_)
      apply Exists.intro
      refine ⟨fun wq K' hK' => ?_, ?_⟩
      · go_wp2_with fail
        exact hK'
      go_simp
      refine hK _ ?_
      clear hK K
      refine tree_b rfl rfl rfl rfl _ rfl (by simp) (fun K hK => ?_)
      apply Exists.intro
      refine ⟨fun wq hq K' hK' => ?_, ?_⟩
      · obtain ⟨hFq, hbq⟩ := hY.out wq hq
        obtain ⟨f0, -⟩ := hFq.bx.c 0 rfl
        obtain ⟨p0, -⟩ := hbq.c 0 rfl
        obtain ⟨p1, -⟩ := hbq.c 1 rfl
        go_wp2_with fail
        exact hK'
      go_simp
      refine hK _ ?_
      clear hK K
      refine tree_p rfl rfl rfl rfl _ rfl (by simp) (fun K hK => ?_)
      apply Exists.intro
      refine ⟨fun wq K' hK' => ?_, ?_⟩
      · go_wp2_with fail
        exact hK'
      go_simp
      refine hK _ ?_
      clear hK K
      refine tree_b rfl rfl rfl rfl _ rfl (by simp) (fun K hK => ?_)
      apply Exists.intro
      refine ⟨fun wq hq K' hK' => ?_, ?_⟩
      · obtain ⟨hFq, hbq⟩ := hY.out wq hq
        obtain ⟨f0, -⟩ := hFq.bx.c 0 rfl
        obtain ⟨p0, -⟩ := hbq.c 0 rfl
        obtain ⟨p1, -⟩ := hbq.c 1 rfl
        go_wp2_with fail
        exact hK'
      go_simp
      refine hK _ ?_
      clear hK K
      refine tree_p rfl rfl rfl rfl _ rfl (by simp) (fun K hK => ?_)
      apply Exists.intro
      refine ⟨fun wq K' hK' => ?_, ?_⟩
      · go_wp2_with fail
        exact hK'
      go_simp
      refine hK _ ?_
      clear hK K
      refine tree_e0 (by kernel_rfl) rfl rfl (fun K hK => ?_)
      obtain ⟨hF6, -⟩ := hY.out w6 (gr_trans hgw6 (World.grownBy.refl _ _))
      obtain ⟨w7, hrun, hM7, hg7⟩ := store_T hF6.m1 (by unfold maxLen; omega) hok 1 0 y.mat ⟨#[]⟩
      go_wp2_with fail
      try go_simp
      refine hK _ _ trivial ?_
      clear hK K
      refine tree_done ?_
      have hF7 := hF6.s1 (Nat.le_succ _) hM7 hg7 (fun z v hz => by
        unfold updM at hz
        by_cases hzk : z = y.key
        · rw [if_pos hzk] at hz
          obtain rfl := Option.some.inj hz
          exact okK_noB
        · rw [if_neg hzk] at hz; exact hF6.jk z v hz)
      have hF8 : FlrAt w7 x11 b1 b2 b3 b4 (k + 1) (newF (p.take (k + 1))) := by rw [hnx.out]; exact hF7
      have hgz := gr_new (gr_trans hgw hgw6) hg7 hlo.1
      clear hF6 hrun hM7 hg7 hF7 hgw6
      go_wp2_with fail
      (go_roundw; (case rel => exact ⟨k + 1, by omega, by go_num, hF8, hgz⟩); (case measure => simp [intOf]; omega))
    · obtain rfl : k = p.length := by omega
      have hF8 : FlrAt wr x11 b1 b2 b3 b4 p.length (newF p) := by rw [List.take_length] at hF; exact hF
      clear hF
      go_wp2_with fail
      go_ret
      exact ⟨x11, b1, b2, b3, b4, rfl, hF8, hg, fun x hx => by
        rcases hx with rfl | rfl | rfl | rfl | rfl
        · exact hxl
        · exact hlo.1
        · exact hlo.2.1
        · exact hlo.2.2.1
        · exact hlo.2.2.2⟩

end Go.Proofs.YtanioobepfllgaaGreatDoor

namespace Go.Proofs.YtanioobepfllgaaGreatDoor
open Go Go.RowKit Go.Bl Go.Maps Go.WideShapes

theorem box4_c {w : World} {g : Nat} {t : TypeId} {a b c d : Value} (h : Box w g t [a, b, c, d]) : Cell w g 0 a ∧ Cell w g 1 b ∧ Cell w g 2 c ∧ Cell w g 3 d := ⟨h.c 0 rfl, h.c 1 rfl, h.c 2 rfl, h.c 3 rfl⟩

theorem set4_gr {w : World} {g : Nat} (u v x y : Value) : w.grownBy ((((w.setCell ⟨g, 0, none⟩ u).setCell ⟨g, 1, none⟩ v).setCell ⟨g, 2, none⟩ x).setCell ⟨g, 3, none⟩ y) (some g) := gr_set (gr_set (gr_set (gr_set (World.grownBy.refl w (some g)) (.inl rfl) _) (.inl rfl) _) (.inl rfl) _) (.inl rfl) _

theorem box_set4 {w : World} {g : Nat} {t : TypeId} {a b c d : Value} (h : Box w g t [a, b, c, d]) (u v x y : Value) : Box ((((w.setCell ⟨g, 0, none⟩ u).setCell ⟨g, 1, none⟩ v).setCell ⟨g, 2, none⟩ x).setCell ⟨g, 3, none⟩ y) g t [u, v, x, y] :=
  (((h.set_ 0 u (by simp)).set_ 1 v (by simp)).set_ 2 x (by simp)).set_ 3 y (by simp)

theorem empB_iff {s : ByteArray} : s.toList.isEmpty = true ↔ s = noB := emp_iff s

theorem FlrAt.okJob {w : World} {f b1 b2 b3 b4 N : Nat} {F : Flr} (h : FlrAt w f b1 b2 b3 b4 N F) (k : ByteArray) : okK (F.s k).job := by
  unfold Flr.s
  rcases hq : F.at_ k with _ | y
  · exact okK_noB
  · exact h.jk k y hq

set_option maxHeartbeats 4000000 in
set_option maxRecDepth 100000 in
theorem become_any (f b1 b2 b3 b4 N : Nat) (F : Flr) (d : Ev) (state : Int) (job : ByteArray) (w : World) (hF : FlrAt w f b1 b2 b3 b4 N F) (hN : N ≤ 1000000) (hp : okK d.pr) (hj : okK job) :
    Calls Tryz.prog 101 #[.pointer (some ⟨f, 0, none⟩), .agg #[.int .i64 d.at_, .int .i64 d.kind, .string d.pr, .string d.job, .string d.mat], .int .i64 state, .string job] w fun e w' => e = .returned (.tuple #[]) ∧ FlrAt w' f b1 b2 b3 b4 (N + 2) (becF F d state job) ∧ GrS (isF b1 b2 b3 b4) w w' := by
  have hoj := hF.okJob d.pr
  obtain ⟨S, hS⟩ : ∃ S, S = F.s d.pr := ⟨_, rfl⟩
  have hbec : Hid (becF F d state job = ⟨updM F.at_ d.pr ⟨state, d.at_, S.mat, job⟩, if job = noB then (if S.job = noB then F.wh else delM F.wh S.job) else updM (if S.job = noB then F.wh else delM F.wh S.job) job d.pr, F.dn, F.fl⟩) := by rw [hS]; rfl
  rw [← hS] at hoj
  have hlt := fun x hx => hF.lt (x := x) hx
  replace hS := hide hS
  replace hN := hide hN
  generalize becF F d state job = FB at *
  go_enter Tryz.func101, Tryz.ntmps101
  go_upto_region 1 with fail
  obtain ⟨w5, hw5⟩ : ∃ x, x = (w).alloc (.cells [.int .i64 (d).at_, .int .i64 (d).kind, .string (d).pr, .string (d).job, .string (d).mat].toArray 60) := ⟨_, rfl⟩
  have hg5 : (w).grownBy w5 none := by rw [hw5]; exact gr_alloc (World.grownBy.refl _ _) _
  have hb5 : Box w5 (w).heap.size 60 [.int .i64 (d).at_, .int .i64 (d).kind, .string (d).pr, .string (d).job, .string (d).mat] := by rw [hw5]; exact Box.new _ _ _
  have hxs5 := hb5.lt
  rw [← hw5]
  clear hw5
  obtain ⟨x5, hx5⟩ : ∃ x, x = (w).heap.size := ⟨_, rfl⟩
  rw [← hx5] at hb5 hxs5 ⊢
  have hxl5 : (w).heap.size ≤ x5 := by omega
  clear hx5
  have hF5 := hF.pure hg5
  have hxF : ∀ x, isF b1 b2 b3 b4 x → x ≠ x5 := fun x hx => by have := hlt x (.inr hx); omega
  have hY := hide fun wx (h : w5.grownBy wx none) => And.intro (hF5.pure h) (hb5.pure h)
  clear hF5 hb5
  go_cut [8] (fun s wx => ∃ x8, s = .pointer (some ⟨x8, 0, none⟩) ∧ Box wx x8 105 ([.int .i64 (S).st, .int .i64 (S).since, .string (S).mat, .string (S).job]) ∧ w5.grownBy wx none ∧ w5.heap.size ≤ x8)
  case first =>
    refine wp_region_tree (fun wx => w5.grownBy wx none) [2, 2, 2, 1, 2, 1, 1, 0, 0] (.bl 0 (.bl 1 (.bl 2 (.bl 3 (.bl 4 (.bl 5 (.bl 6 (.ef 7 (.ef 8 .done))))))))) (by kernel_rfl) (by kernel_rfl) (gr_drew (World.grownBy.refl _ _)) ?_
    obtain ⟨w6, hw6⟩ : ∃ x, x = (w5).drew := ⟨_, rfl⟩
    rw [← hw6]
    have hgw6 : (w5).grownBy w6 none := by rw [hw6]; exact gr_drew (World.grownBy.refl _ _)
    clear hw6
    refine tree_p rfl rfl rfl rfl _ rfl (by simp) (fun K hK => ?_)
    apply Exists.intro
    refine ⟨fun wq K' hK' => ?_, ?_⟩
    · go_wp2_with fail
      exact hK'
    go_simp
    refine hK _ ?_
    clear hK K
    refine tree_n rfl rfl _ rfl _ rfl ?_
    try go_simp
    refine tree_p rfl rfl rfl rfl _ rfl (by simp) (fun K hK => ?_)
    apply Exists.intro
    refine ⟨fun wq K' hK' => ?_, ?_⟩
    · go_wp2_with fail
      exact hK'
    go_simp
    refine hK _ ?_
    clear hK K
    refine tree_b rfl rfl rfl rfl _ rfl (by simp) (fun K hK => ?_)
    apply Exists.intro
    refine ⟨fun wq hq K' hK' => ?_, ?_⟩
    · obtain ⟨hFq, hbq⟩ := hY.out wq hq
      obtain ⟨f0, -⟩ := hFq.bx.c 0 rfl
      obtain ⟨p2, -⟩ := hbq.c 2 rfl
      have hlk : (Instr.lookup 128 (.map (some b1)) (.string d.pr) false).run Tryz.prog wq = .ok (.agg #[.int .i64 S.st, .int .i64 S.since, .string S.mat, .string S.job]) wq := by rw [hS.out]; exact look_T hFq.m1 hp
      go_wp2_with fail
      exact hK'
    go_simp
    refine hK _ ?_
    clear hK K
    refine tree_p rfl rfl rfl rfl _ rfl (by simp) (fun K hK => ?_)
    apply Exists.intro
    refine ⟨fun wq K' hK' => ?_, ?_⟩
    · go_wp2_with fail
      exact hK'
    go_simp
    refine hK _ ?_
    clear hK K
    refine tree_b rfl rfl rfl rfl _ rfl (by simp) (fun K hK => ?_)
    apply Exists.intro
    refine ⟨fun wq hq K' hK' => ?_, ?_⟩
    · obtain ⟨hFq, hbq⟩ := hY.out wq hq
      obtain ⟨f0, -⟩ := hFq.bx.c 0 rfl
      obtain ⟨p2, -⟩ := hbq.c 2 rfl
      have hlk : (Instr.lookup 128 (.map (some b1)) (.string d.pr) false).run Tryz.prog wq = .ok (.agg #[.int .i64 S.st, .int .i64 S.since, .string S.mat, .string S.job]) wq := by rw [hS.out]; exact look_T hFq.m1 hp
      go_wp2_with fail
      exact hK'
    go_simp
    refine hK _ ?_
    clear hK K
    refine tree_b rfl rfl rfl rfl _ rfl (by simp) (fun K hK => ?_)
    apply Exists.intro
    refine ⟨fun wq hq K' hK' => ?_, ?_⟩
    · obtain ⟨hFq, hbq⟩ := hY.out wq hq
      obtain ⟨f0, -⟩ := hFq.bx.c 0 rfl
      obtain ⟨p2, -⟩ := hbq.c 2 rfl
      have hlk : (Instr.lookup 128 (.map (some b1)) (.string d.pr) false).run Tryz.prog wq = .ok (.agg #[.int .i64 S.st, .int .i64 S.since, .string S.mat, .string S.job]) wq := by rw [hS.out]; exact look_T hFq.m1 hp
      go_wp2_with fail
      exact hK'
    go_simp
    refine hK _ ?_
    clear hK K
    refine tree_e rfl rfl (fun K hK => ?_)
    go_wp2_with fail
    try go_simp
    refine hK _ _ (gr_alloc (gr_trans hgw6 (World.grownBy.refl _ _)) _) ?_
    clear hK K
    obtain ⟨w7, hw7⟩ : ∃ x, x = (w6).alloc (.cells [.int .i64 0, .int .i64 0, .string ⟨#[]⟩, .string ⟨#[]⟩].toArray 105) := ⟨_, rfl⟩
    have hg7 : (w6).grownBy w7 none := by rw [hw7]; exact gr_alloc (World.grownBy.refl _ _) _
    have hb7 : Box w7 (w6).heap.size 105 [.int .i64 0, .int .i64 0, .string ⟨#[]⟩, .string ⟨#[]⟩] := by rw [hw7]; exact Box.new _ _ _
    rw [← hw7]
    clear hw7
    obtain ⟨x7, hx7⟩ : ∃ x, x = (w6).heap.size := ⟨_, rfl⟩
    rw [← hx7] at hb7 ⊢
    have hxl7 : (w6).heap.size ≤ x7 := by omega
    clear hx7
    refine tree_e0 (by kernel_rfl) rfl rfl (fun K hK => ?_)
    have hb8 := hb7.pure (w' := w7) (World.grownBy.refl _ _)
    obtain ⟨⟨d0, e0⟩, ⟨d1, e1⟩, ⟨d2, e2⟩, ⟨d3, e3⟩⟩ := box4_c hb8
    go_wp2_with fail
    try go_simp
    refine hK _ _ trivial ?_
    clear hK K
    refine tree_done ?_
    have hb8 := hb7.pure (w' := w7) (World.grownBy.refl _ _)
    have hgw8 := gr_trans hgw6 hg7
    have hle := hgw6.size
    have hgs := set4_gr (w := w7) (g := x7) (.int .i64 S.st) (.int .i64 S.since) (.string S.mat) (.string S.job)
    have hbz := box_set4 hb8 (.int .i64 S.st) (.int .i64 S.since) (.string S.mat) (.string S.job)
    have hgz := gr_new hgw8 hgs (by omega)
    clear d0 d1 d2 d3 e0 e1 e2 e3
    go_wp2_with fail
    go_meet
    exact ⟨x7, by simp, hbz, hgz, by omega⟩
  case rest =>
    obtain ⟨x8, rfl, hb8, hgc, hx8⟩ := hcut
    obtain ⟨hFc, hb5⟩ := hY.out wc hgc
    have hne : x5 ≠ x8 := by have := hb5.lt; have := hgc.size; omega
    have hgw := hide (hg5.t hgc)
    have hx8F : ∀ x, isF b1 b2 b3 b4 x → x ≠ x8 := fun x hx => by have := hlt x (.inr hx); have := hg5.size; omega
    obtain ⟨whd, hwhd⟩ : ∃ q, q = (if S.job = noB then F.wh else delM F.wh S.job) := ⟨_, rfl⟩
    have hbe2 : Hid (FB = ⟨updM F.at_ d.pr ⟨state, d.at_, S.mat, job⟩, if job = noB then whd else updM whd job d.pr, F.dn, F.fl⟩) := by rw [Hid, hwhd]; exact hbec.out
    clear hbec
    obtain ⟨-, -, -, ⟨d3, -⟩⟩ := box4_c hb8
    go_upto_if 18 with fail
    go_cut [] (fun wx => FlrAt wx f b1 b2 b3 b4 N ⟨F.at_, whd, F.dn, F.fl⟩ ∧ Box wx x5 60 ([.int .i64 (d).at_, .int .i64 (d).kind, .string (d).pr, .string (d).job, .string (d).mat]) ∧ Box wx x8 105 ([.int .i64 (S).st, .int .i64 (S).since, .string (S).mat, .string (S).job]) ∧ GrS (isF b1 b2 b3 b4) w wx)
    case first =>
      have hZ := hide fun wx (h : wc.grownBy wx none) => And.intro (hFc.pure h) (And.intro (hb5.pure h) (hb8.pure h))
      rcases hj : S.job.toList.isEmpty with _ | _
      · have hw1 : Hid (whd = delM F.wh S.job) := by rw [Hid, hwhd, if_neg (fun e => absurd (empB_iff.2 e) (by rw [hj]; decide))]
        clear hwhd hFc hb5 hb8 d3
        go_upto_region 3 with fail
        refine wp_region_tree (fun wx => wc.grownBy wx none) [2, 2, 2, 1, 2, 1, 0] (.bl 0 (.bl 1 (.bl 2 (.bl 3 (.bl 4 (.bl 5 (.ef 6 .done))))))) (by kernel_rfl) (by kernel_rfl) (gr_drew (World.grownBy.refl _ _)) ?_
        obtain ⟨w9, hw9⟩ : ∃ x, x = (wc).drew := ⟨_, rfl⟩
        rw [← hw9]
        have hgw9 : (wc).grownBy w9 none := by rw [hw9]; exact gr_drew (World.grownBy.refl _ _)
        clear hw9
        refine tree_p rfl rfl rfl rfl _ rfl (by simp) (fun K hK => ?_)
        apply Exists.intro
        refine ⟨fun wq K' hK' => ?_, ?_⟩
        · go_wp2_with fail
          exact hK'
        go_simp
        refine hK _ ?_
        clear hK K
        refine tree_n rfl rfl _ rfl _ rfl ?_
        try go_simp
        refine tree_p rfl rfl rfl rfl _ rfl (by simp) (fun K hK => ?_)
        apply Exists.intro
        refine ⟨fun wq K' hK' => ?_, ?_⟩
        · go_wp2_with fail
          exact hK'
        go_simp
        refine hK _ ?_
        clear hK K
        refine tree_b rfl rfl rfl rfl _ rfl (by simp) (fun K hK => ?_)
        apply Exists.intro
        refine ⟨fun wq hq K' hK' => ?_, ?_⟩
        · obtain ⟨hFq, -, hbq⟩ := hZ.out wq hq
          obtain ⟨f1, -⟩ := hFq.bx.c 1 rfl
          obtain ⟨p3, -⟩ := hbq.c 3 rfl
          go_wp2_with fail
          exact hK'
        go_simp
        refine hK _ ?_
        clear hK K
        refine tree_p rfl rfl rfl rfl _ rfl (by simp) (fun K hK => ?_)
        apply Exists.intro
        refine ⟨fun wq K' hK' => ?_, ?_⟩
        · go_wp2_with fail
          exact hK'
        go_simp
        refine hK _ ?_
        clear hK K
        refine tree_b rfl rfl rfl rfl _ rfl (by simp) (fun K hK => ?_)
        apply Exists.intro
        refine ⟨fun wq hq K' hK' => ?_, ?_⟩
        · obtain ⟨hFq, -, hbq⟩ := hZ.out wq hq
          obtain ⟨f1, -⟩ := hFq.bx.c 1 rfl
          obtain ⟨p3, -⟩ := hbq.c 3 rfl
          go_wp2_with fail
          exact hK'
        go_simp
        refine hK _ ?_
        clear hK K
        refine tree_e0 (by kernel_rfl) rfl rfl (fun K hK => ?_)
        obtain ⟨hFq, hb5q, hb8q⟩ := hZ.out w9 (gr_trans hgw9 (World.grownBy.refl _ _))
        obtain ⟨wd, hrun, hMd, hgd⟩ := drop_S hFq.m2 hoj 0
        go_wp2_with fail
        try go_simp
        refine hK _ _ trivial ?_
        clear hK K
        refine tree_done ?_
        have hgz := ((GrS.refl (isF b1 b2 b3 b4) w).pure (hgw.out.t hgw9)).step hgd (fun x e => .inl (by cases e; exact .inr (.inl rfl)))
        have hF9 := hFq.s2 (Nat.le_refl _) hMd hgd
        have hbx5 := hb5q.gr hgd (by intro e; injection e with e; exact hxF _ (.inr (.inl rfl)) e)
        have hbx8 := hb8q.gr hgd (by intro e; injection e with e; exact hx8F _ (.inr (.inl rfl)) e)
        clear hrun hMd hgd hFq hb5q hb8q
        go_wp2_with fail
        go_meet
        exact ⟨by rw [hw1.out]; exact hF9, hbx5, hbx8, hgz⟩
      · have hw1 : Hid (whd = F.wh) := by rw [Hid, hwhd, if_pos (empB_iff.1 hj)]
        clear hwhd
        go_wp2_with fail
        go_meet
        exact ⟨by rw [hw1.out]; exact hFc, hb5, hb8, (GrS.refl _ w).pure hgw.out⟩
    case rest =>
    clear hFc hb5 hb8 d3 hgw hgc hx8
    obtain ⟨hFc, hb5, hb8, hGr⟩ := hcut
    have hZ := hide fun wx (h : wc.grownBy wx none) => And.intro (hFc.pure h) (And.intro (hb5.pure h) (hb8.pure h))
    clear hFc hb5 hb8
    go_upto_region 4 with fail
    go_cut [] (fun wx => FlrAt wx f b1 b2 b3 b4 (N + 1) ⟨updM F.at_ d.pr ⟨state, d.at_, S.mat, job⟩, whd, F.dn, F.fl⟩ ∧ Box wx x5 60 ([.int .i64 (d).at_, .int .i64 (d).kind, .string (d).pr, .string (d).job, .string (d).mat]) ∧ GrS (isF b1 b2 b3 b4) w wx)
    case first =>
      refine wp_region_tree (fun wx => wc.grownBy wx none) [2, 2, 2, 1, 2, 1, 2, 2, 1, 2, 1, 2, 2, 0] (.bl 0 (.bl 1 (.bl 2 (.bl 3 (.bl 4 (.bl 5 (.bl 6 (.bl 7 (.bl 8 (.bl 9 (.bl 10 (.bl 11 (.bl 12 (.ef 13 .done)))))))))))))) (by kernel_rfl) (by kernel_rfl) (gr_drew (World.grownBy.refl _ _)) ?_
      obtain ⟨w9, hw9⟩ : ∃ x, x = (wc).drew := ⟨_, rfl⟩
      rw [← hw9]
      have hgw9 : (wc).grownBy w9 none := by rw [hw9]; exact gr_drew (World.grownBy.refl _ _)
      clear hw9
      refine tree_p rfl rfl rfl rfl _ rfl (by simp) (fun K hK => ?_)
      apply Exists.intro
      refine ⟨fun wq K' hK' => ?_, ?_⟩
      · go_wp2_with fail
        exact hK'
      go_simp
      refine hK _ ?_
      clear hK K
      refine tree_n rfl rfl _ rfl _ rfl ?_
      try go_simp
      refine tree_p rfl rfl rfl rfl _ rfl (by simp) (fun K hK => ?_)
      apply Exists.intro
      refine ⟨fun wq K' hK' => ?_, ?_⟩
      · go_wp2_with fail
        exact hK'
      go_simp
      refine hK _ ?_
      clear hK K
      refine tree_b rfl rfl rfl rfl _ rfl (by simp) (fun K hK => ?_)
      apply Exists.intro
      refine ⟨fun wq hq K' hK' => ?_, ?_⟩
      · obtain ⟨hFq, hbe, hbq⟩ := hZ.out wq hq
        obtain ⟨f0, -⟩ := hFq.bx.c 0 rfl
        obtain ⟨p2, -⟩ := hbq.c 2 rfl
        obtain ⟨q0, -⟩ := hbe.c 0 rfl
        obtain ⟨q2, -⟩ := hbe.c 2 rfl
        go_wp2_with fail
        exact hK'
      go_simp
      refine hK _ ?_
      clear hK K
      refine tree_p rfl rfl rfl rfl _ rfl (by simp) (fun K hK => ?_)
      apply Exists.intro
      refine ⟨fun wq K' hK' => ?_, ?_⟩
      · go_wp2_with fail
        exact hK'
      go_simp
      refine hK _ ?_
      clear hK K
      refine tree_b rfl rfl rfl rfl _ rfl (by simp) (fun K hK => ?_)
      apply Exists.intro
      refine ⟨fun wq hq K' hK' => ?_, ?_⟩
      · obtain ⟨hFq, hbe, hbq⟩ := hZ.out wq hq
        obtain ⟨f0, -⟩ := hFq.bx.c 0 rfl
        obtain ⟨p2, -⟩ := hbq.c 2 rfl
        obtain ⟨q0, -⟩ := hbe.c 0 rfl
        obtain ⟨q2, -⟩ := hbe.c 2 rfl
        go_wp2_with fail
        exact hK'
      go_simp
      refine hK _ ?_
      clear hK K
      refine tree_p rfl rfl rfl rfl _ rfl (by simp) (fun K hK => ?_)
      apply Exists.intro
      refine ⟨fun wq K' hK' => ?_, ?_⟩
      · go_wp2_with fail
        exact hK'
      go_simp
      refine hK _ ?_
      clear hK K
      refine tree_p rfl rfl rfl rfl _ rfl (by simp) (fun K hK => ?_)
      apply Exists.intro
      refine ⟨fun wq K' hK' => ?_, ?_⟩
      · go_wp2_with fail
        exact hK'
      go_simp
      refine hK _ ?_
      clear hK K
      refine tree_b rfl rfl rfl rfl _ rfl (by simp) (fun K hK => ?_)
      apply Exists.intro
      refine ⟨fun wq hq K' hK' => ?_, ?_⟩
      · obtain ⟨hFq, hbe, hbq⟩ := hZ.out wq hq
        obtain ⟨f0, -⟩ := hFq.bx.c 0 rfl
        obtain ⟨p2, -⟩ := hbq.c 2 rfl
        obtain ⟨q0, -⟩ := hbe.c 0 rfl
        obtain ⟨q2, -⟩ := hbe.c 2 rfl
        go_wp2_with fail
        exact hK'
      go_simp
      refine hK _ ?_
      clear hK K
      refine tree_p rfl rfl rfl rfl _ rfl (by simp) (fun K hK => ?_)
      apply Exists.intro
      refine ⟨fun wq K' hK' => ?_, ?_⟩
      · go_wp2_with fail
        exact hK'
      go_simp
      refine hK _ ?_
      clear hK K
      refine tree_b rfl rfl rfl rfl _ rfl (by simp) (fun K hK => ?_)
      apply Exists.intro
      refine ⟨fun wq hq K' hK' => ?_, ?_⟩
      · obtain ⟨hFq, hbe, hbq⟩ := hZ.out wq hq
        obtain ⟨f0, -⟩ := hFq.bx.c 0 rfl
        obtain ⟨p2, -⟩ := hbq.c 2 rfl
        obtain ⟨q0, -⟩ := hbe.c 0 rfl
        obtain ⟨q2, -⟩ := hbe.c 2 rfl
        go_wp2_with fail
        exact hK'
      go_simp
      refine hK _ ?_
      clear hK K
      refine tree_p rfl rfl rfl rfl _ rfl (by simp) (fun K hK => ?_)
      apply Exists.intro
      refine ⟨fun wq K' hK' => ?_, ?_⟩
      · go_wp2_with fail
        exact hK'
      go_simp
      refine hK _ ?_
      clear hK K
      refine tree_p rfl rfl rfl rfl _ rfl (by simp) (fun K hK => ?_)
      apply Exists.intro
      refine ⟨fun wq K' hK' => ?_, ?_⟩
      · go_wp2_with fail
        exact hK'
      go_simp
      refine hK _ ?_
      clear hK K
      refine tree_e0 (by kernel_rfl) rfl rfl (fun K hK => ?_)
      obtain ⟨hFq, hb5q, hb8q⟩ := hZ.out w9 (gr_trans hgw9 (World.grownBy.refl _ _))
      obtain ⟨wd, hrun, hMd, hgd⟩ := store_T hFq.m1 (by have := hN.out; unfold maxLen; omega) hp state d.at_ S.mat job
      go_wp2_with fail
      try go_simp
      refine hK _ _ trivial ?_
      clear hK K
      refine tree_done ?_
      have hgz := (hGr.pure hgw9).step hgd (fun x e => .inl (by cases e; exact .inl rfl))
      have hF9 := hFq.s1 (Nat.le_succ _) hMd hgd (fun z v hz => by
        unfold updM at hz
        by_cases hzk : z = d.pr
        · rw [if_pos hzk] at hz
          obtain rfl := Option.some.inj hz
          exact hj
        · rw [if_neg hzk] at hz; exact hFq.jk z v hz)
      have hbx5 := hb5q.gr hgd (by intro e; injection e with e; exact hxF _ (.inl rfl) e)
      clear hrun hMd hgd hFq hb5q hb8q
      go_wp2_with fail
      go_meet
      exact ⟨hF9, hbx5, hgz⟩
    case rest =>
    clear hGr hZ
    obtain ⟨hFc, hb5, hGr⟩ := hcut
    rcases hjb : job.toList.isEmpty with _ | _
    · have he : Hid (FB = ⟨updM F.at_ d.pr ⟨state, d.at_, S.mat, job⟩, updM whd job d.pr, F.dn, F.fl⟩) := by rw [Hid, hbe2.out, if_neg (fun e => absurd (empB_iff.2 e) (by rw [hjb]; decide))]
      clear hbe2
      have hZ := hide fun wx (h : wc.grownBy wx none) => And.intro (hFc.pure h) (hb5.pure h)
      clear hFc hb5
      go_upto_region 6 with fail
      refine wp_region_tree (fun wx => wc.grownBy wx none) [2, 2, 2, 1, 2, 2, 1, 0] (.bl 0 (.bl 1 (.bl 2 (.bl 3 (.bl 4 (.bl 5 (.bl 6 (.ef 7 .done)))))))) (by kernel_rfl) (by kernel_rfl) (gr_drew (World.grownBy.refl _ _)) ?_
      obtain ⟨w9, hw9⟩ : ∃ x, x = (wc).drew := ⟨_, rfl⟩
      rw [← hw9]
      have hgw9 : (wc).grownBy w9 none := by rw [hw9]; exact gr_drew (World.grownBy.refl _ _)
      clear hw9
      refine tree_p rfl rfl rfl rfl _ rfl (by simp) (fun K hK => ?_)
      apply Exists.intro
      refine ⟨fun wq K' hK' => ?_, ?_⟩
      · go_wp2_with fail
        exact hK'
      go_simp
      refine hK _ ?_
      clear hK K
      refine tree_n rfl rfl _ rfl _ rfl ?_
      try go_simp
      refine tree_p rfl rfl rfl rfl _ rfl (by simp) (fun K hK => ?_)
      apply Exists.intro
      refine ⟨fun wq K' hK' => ?_, ?_⟩
      · go_wp2_with fail
        exact hK'
      go_simp
      refine hK _ ?_
      clear hK K
      refine tree_b rfl rfl rfl rfl _ rfl (by simp) (fun K hK => ?_)
      apply Exists.intro
      refine ⟨fun wq hq K' hK' => ?_, ?_⟩
      · obtain ⟨hFq, hbe⟩ := hZ.out wq hq
        obtain ⟨f1, -⟩ := hFq.bx.c 1 rfl
        obtain ⟨q2, -⟩ := hbe.c 2 rfl
        go_wp2_with fail
        exact hK'
      go_simp
      refine hK _ ?_
      clear hK K
      refine tree_p rfl rfl rfl rfl _ rfl (by simp) (fun K hK => ?_)
      apply Exists.intro
      refine ⟨fun wq K' hK' => ?_, ?_⟩
      · go_wp2_with fail
        exact hK'
      go_simp
      refine hK _ ?_
      clear hK K
      refine tree_p rfl rfl rfl rfl _ rfl (by simp) (fun K hK => ?_)
      apply Exists.intro
      refine ⟨fun wq K' hK' => ?_, ?_⟩
      · go_wp2_with fail
        exact hK'
      go_simp
      refine hK _ ?_
      clear hK K
      refine tree_b rfl rfl rfl rfl _ rfl (by simp) (fun K hK => ?_)
      apply Exists.intro
      refine ⟨fun wq hq K' hK' => ?_, ?_⟩
      · obtain ⟨hFq, hbe⟩ := hZ.out wq hq
        obtain ⟨f1, -⟩ := hFq.bx.c 1 rfl
        obtain ⟨q2, -⟩ := hbe.c 2 rfl
        go_wp2_with fail
        exact hK'
      go_simp
      refine hK _ ?_
      clear hK K
      refine tree_e0 (by kernel_rfl) rfl rfl (fun K hK => ?_)
      obtain ⟨hFq, -⟩ := hZ.out w9 (gr_trans hgw9 (World.grownBy.refl _ _))
      obtain ⟨wd, hrun, hMd, hgd⟩ := store_S hFq.m2 (by have := hN.out; unfold maxLen; omega) hj d.pr
      go_wp2_with fail
      try go_simp
      refine hK _ _ trivial ?_
      clear hK K
      refine tree_done ?_
      have hgz := (hGr.pure hgw9).step hgd (fun x e => .inl (by cases e; exact .inr (.inl rfl)))
      have hF9 := hFq.s2 (Nat.le_succ _) hMd hgd
      clear hrun hMd hgd hFq
      go_wp2_with fail
      go_end0
      exact ⟨rfl, by rw [he.out]; exact hF9, hgz⟩
    · have he : Hid (FB = ⟨updM F.at_ d.pr ⟨state, d.at_, S.mat, job⟩, whd, F.dn, F.fl⟩) := by rw [Hid, hbe2.out, if_pos (empB_iff.1 hjb)]
      clear hbe2
      go_wp2_with fail
      go_end0
      exact ⟨rfl, by rw [he.out]; exact hFc.mono (Nat.le_succ _), hGr⟩

end Go.Proofs.YtanioobepfllgaaGreatDoor

namespace Go.Proofs.YtanioobepfllgaaGreatDoor
open Go Go.RowKit Go.Bl Go.Maps Go.WideShapes

section
variable (F : Flr) (a : Int) (pr job mat : ByteArray)

theorem doE_1 : doE F ⟨a, 1, pr, job, mat⟩ = if (F.s pr).st ≠ 1 then 11 else if ((F.wh job).isSome || (F.dn job).getD false) = true then 6 else 0 := by
  unfold doE; rw [if_pos rfl]

theorem doE_2 : doE F ⟨a, 2, pr, job, mat⟩ = if (F.s pr).st ≠ 2 then 11 else 0 := by
  unfold doE; rw [if_neg (show ¬ (2 : Int) = 1 by decide), if_pos (.inl rfl)]

theorem doE_3 : doE F ⟨a, 3, pr, job, mat⟩ = if (F.s pr).st ≠ 2 then 11 else 0 := by
  unfold doE; rw [if_neg (show ¬ (3 : Int) = 1 by decide), if_pos (.inr rfl)]

theorem doE_4 : doE F ⟨a, 4, pr, job, mat⟩ = if (F.s pr).st ≠ 1 then 11 else 0 := by
  unfold doE; rw [if_neg (show ¬ (4 : Int) = 1 by decide), if_neg (show ¬ ((4 : Int) = 2 ∨ (4 : Int) = 3) by decide), if_pos rfl]

theorem doE_5 : doE F ⟨a, 5, pr, job, mat⟩ = if (F.s pr).st = 3 then 11 else 0 := by
  unfold doE; rw [if_neg (show ¬ (5 : Int) = 1 by decide), if_neg (show ¬ ((5 : Int) = 2 ∨ (5 : Int) = 3) by decide), if_neg (show ¬ (5 : Int) = 4 by decide), if_pos rfl]

theorem doE_6 : doE F ⟨a, 6, pr, job, mat⟩ = if (F.s pr).st ≠ 3 then 11 else 0 := by
  unfold doE; rw [if_neg (show ¬ (6 : Int) = 1 by decide), if_neg (show ¬ ((6 : Int) = 2 ∨ (6 : Int) = 3) by decide), if_neg (show ¬ (6 : Int) = 4 by decide), if_neg (show ¬ (6 : Int) = 5 by decide), if_pos rfl]

theorem goS_1 : goS F ⟨a, 1, pr, job, mat⟩ = becF F ⟨a, 1, pr, job, mat⟩ 2 job := by
  unfold goS; rw [if_pos rfl]

theorem goS_2 : goS F ⟨a, 2, pr, job, mat⟩ = becF ⟨F.at_, F.wh, updM F.dn (F.s pr).job true, F.fl⟩ ⟨a, 2, pr, job, mat⟩ 1 noB := by
  unfold goS; rw [if_neg (show ¬ (2 : Int) = 1 by decide), if_pos rfl]

theorem goS_3 : goS F ⟨a, 3, pr, job, mat⟩ = becF ⟨F.at_, F.wh, F.dn, updM F.fl (F.s pr).job true⟩ ⟨a, 3, pr, job, mat⟩ 1 noB := by
  unfold goS; rw [if_neg (show ¬ (3 : Int) = 1 by decide), if_neg (show ¬ (3 : Int) = 2 by decide), if_pos rfl]

theorem goS_4 : goS F ⟨a, 4, pr, job, mat⟩ = ⟨updM F.at_ pr ⟨(F.s pr).st, (F.s pr).since, mat, (F.s pr).job⟩, F.wh, F.dn, F.fl⟩ := by
  unfold goS; rw [if_neg (show ¬ (4 : Int) = 1 by decide), if_neg (show ¬ (4 : Int) = 2 by decide), if_neg (show ¬ (4 : Int) = 3 by decide), if_pos rfl]

theorem goS_5 : goS F ⟨a, 5, pr, job, mat⟩ = becF (if (F.s pr).st = 2 then ⟨F.at_, F.wh, F.dn, updM F.fl (F.s pr).job true⟩ else F) ⟨a, 5, pr, job, mat⟩ 3 noB := by
  unfold goS; rw [if_neg (show ¬ (5 : Int) = 1 by decide), if_neg (show ¬ (5 : Int) = 2 by decide), if_neg (show ¬ (5 : Int) = 3 by decide), if_neg (show ¬ (5 : Int) = 4 by decide), if_pos rfl]

theorem goS_6 : goS F ⟨a, 6, pr, job, mat⟩ = becF F ⟨a, 6, pr, job, mat⟩ 1 noB := by
  unfold goS; rw [if_neg (show ¬ (6 : Int) = 1 by decide), if_neg (show ¬ (6 : Int) = 2 by decide), if_neg (show ¬ (6 : Int) = 3 by decide), if_neg (show ¬ (6 : Int) = 4 by decide), if_neg (show ¬ (6 : Int) = 5 by decide), if_pos rfl]
end
/-- refused -/
theorem do_bad {F : Flr} {d : Ev} {V : Int} {G : Flr} (hV : V = doE F d) (hG : G = doS F d) {c : Int} (hc : doE F d = c) (h0 : c ≠ 0) : V = c ∧ G = F :=
  ⟨hV.trans hc, hG.trans (doS_no (by rw [hc]; exact h0))⟩
/-- done -/
theorem do_ok {F : Flr} {d : Ev} {V : Int} {G H : Flr} (hV : V = doE F d) (hG : G = doS F d) (hc : doE F d = 0) (hH : goS F d = H) : V = 0 ∧ G = H :=
  ⟨hV.trans hc, hG.trans ((doS_go hc).trans hH)⟩

theorem box5_all {w : World} {g : Nat} {t : TypeId} {a b c d e : Value} (h : Box w g t [a, b, c, d, e]) : w.cell? ⟨g, 0, none⟩ = some a ∧ w.cell? ⟨g, 1, none⟩ = some b ∧ w.cell? ⟨g, 2, none⟩ = some c ∧ w.cell? ⟨g, 3, none⟩ = some d ∧ w.cell? ⟨g, 4, none⟩ = some e :=
  ⟨(h.c 0 rfl).1, (h.c 1 rfl).1, (h.c 2 rfl).1, (h.c 3 rfl).1, (h.c 4 rfl).1⟩

set_option maxHeartbeats 4000000 in
set_option maxRecDepth 100000 in
theorem do_any (f b1 b2 b3 b4 N : Nat) (F : Flr) (d : Ev) (w : World) (hF : FlrAt w f b1 b2 b3 b4 N F) (hN : N ≤ 900000) (hp : okK d.pr) (hj : okK d.job) (hk : 1 ≤ d.kind ∧ d.kind ≤ 6) :
    Calls Tryz.prog 79 #[.pointer (some ⟨f, 0, none⟩), .agg #[.int .i64 d.at_, .int .i64 d.kind, .string d.pr, .string d.job, .string d.mat]] w fun e w' => e = .returned (.int .i64 (doE F d)) ∧ FlrAt w' f b1 b2 b3 b4 (N + 3) (doS F d) ∧ GrS (isF b1 b2 b3 b4) w w' := by
  obtain ⟨V, hV⟩ : ∃ V, V = doE F d := ⟨_, rfl⟩
  obtain ⟨G, hG⟩ : ∃ G, G = doS F d := ⟨_, rfl⟩
  rw [← hV, ← hG]
  obtain ⟨a, kd, pr, job, mat⟩ := d
  simp only at hp hj hk ⊢
  have hoj := hF.okJob pr
  obtain ⟨S, hS⟩ : ∃ S, S = F.s pr := ⟨_, rfl⟩
  rw [← hS] at hoj
  have hlt := fun x hx => hF.lt (x := x) hx
  replace hS := hide hS
  replace hV := hide hV
  replace hG := hide hG
  replace hN := hide hN
  go_enter Tryz.func79, Tryz.ntmps79
  go_upto_region 1 with fail
  obtain ⟨w3, hw3⟩ : ∃ x, x = (w).alloc (.cells [.int .i64 a, .int .i64 kd, .string pr, .string job, .string mat].toArray 60) := ⟨_, rfl⟩
  have hg3 : (w).grownBy w3 none := by rw [hw3]; exact gr_alloc (World.grownBy.refl _ _) _
  have hb3 : Box w3 (w).heap.size 60 [.int .i64 a, .int .i64 kd, .string pr, .string job, .string mat] := by rw [hw3]; exact Box.new _ _ _
  have hxs3 := hb3.lt
  rw [← hw3]
  clear hw3
  obtain ⟨x3, hx3⟩ : ∃ x, x = (w).heap.size := ⟨_, rfl⟩
  rw [← hx3] at hb3 hxs3 ⊢
  have hxl3 : (w).heap.size ≤ x3 := by omega
  clear hx3
  have hF3 := hF.pure hg3
  have hxF : ∀ x, isF b1 b2 b3 b4 x → x ≠ x3 := fun x hx => by have := hlt x (.inr hx); omega
  have hY := hide fun wx (h : w3.grownBy wx none) => And.intro (hF3.pure h) (hb3.pure h)
  clear hF3 hb3
  go_cut [5] (fun s wx => ∃ x5, s = .pointer (some ⟨x5, 0, none⟩) ∧ Box wx x5 105 ([.int .i64 (S).st, .int .i64 (S).since, .string (S).mat, .string (S).job]) ∧ w3.grownBy wx none ∧ w3.heap.size ≤ x5)
  case first =>
    refine wp_region_tree (fun wx => w3.grownBy wx none) [2, 2, 2, 1, 2, 1, 1, 0, 0] (.bl 0 (.bl 1 (.bl 2 (.bl 3 (.bl 4 (.bl 5 (.bl 6 (.ef 7 (.ef 8 .done))))))))) (by kernel_rfl) (by kernel_rfl) (gr_drew (World.grownBy.refl _ _)) ?_
    obtain ⟨w6, hw6⟩ : ∃ x, x = (w3).drew := ⟨_, rfl⟩
    rw [← hw6]
    have hgw6 : (w3).grownBy w6 none := by rw [hw6]; exact gr_drew (World.grownBy.refl _ _)
    clear hw6
    refine tree_p rfl rfl rfl rfl _ rfl (by simp) (fun K hK => ?_)
    apply Exists.intro
    refine ⟨fun wq K' hK' => ?_, ?_⟩
    · go_wp2_with fail
      exact hK'
    go_simp
    refine hK _ ?_
    clear hK K
    refine tree_n rfl rfl _ rfl _ rfl ?_
    try go_simp
    refine tree_p rfl rfl rfl rfl _ rfl (by simp) (fun K hK => ?_)
    apply Exists.intro
    refine ⟨fun wq K' hK' => ?_, ?_⟩
    · go_wp2_with fail
      exact hK'
    go_simp
    refine hK _ ?_
    clear hK K
    refine tree_b rfl rfl rfl rfl _ rfl (by simp) (fun K hK => ?_)
    apply Exists.intro
    refine ⟨fun wq hq K' hK' => ?_, ?_⟩
    · obtain ⟨hFq, hbq⟩ := hY.out wq hq
      obtain ⟨f0, -⟩ := hFq.bx.c 0 rfl
      obtain ⟨p2, -⟩ := hbq.c 2 rfl
      have hlk : (Instr.lookup 128 (.map (some b1)) (.string pr) false).run Tryz.prog wq = .ok (.agg #[.int .i64 S.st, .int .i64 S.since, .string S.mat, .string S.job]) wq := by rw [hS.out]; exact look_T hFq.m1 hp
      go_wp2_with fail
      exact hK'
    go_simp
    refine hK _ ?_
    clear hK K
    refine tree_p rfl rfl rfl rfl _ rfl (by simp) (fun K hK => ?_)
    apply Exists.intro
    refine ⟨fun wq K' hK' => ?_, ?_⟩
    · go_wp2_with fail
      exact hK'
    go_simp
    refine hK _ ?_
    clear hK K
    refine tree_b rfl rfl rfl rfl _ rfl (by simp) (fun K hK => ?_)
    apply Exists.intro
    refine ⟨fun wq hq K' hK' => ?_, ?_⟩
    · obtain ⟨hFq, hbq⟩ := hY.out wq hq
      obtain ⟨f0, -⟩ := hFq.bx.c 0 rfl
      obtain ⟨p2, -⟩ := hbq.c 2 rfl
      have hlk : (Instr.lookup 128 (.map (some b1)) (.string pr) false).run Tryz.prog wq = .ok (.agg #[.int .i64 S.st, .int .i64 S.since, .string S.mat, .string S.job]) wq := by rw [hS.out]; exact look_T hFq.m1 hp
      go_wp2_with fail
      exact hK'
    go_simp
    refine hK _ ?_
    clear hK K
    refine tree_b rfl rfl rfl rfl _ rfl (by simp) (fun K hK => ?_)
    apply Exists.intro
    refine ⟨fun wq hq K' hK' => ?_, ?_⟩
    · obtain ⟨hFq, hbq⟩ := hY.out wq hq
      obtain ⟨f0, -⟩ := hFq.bx.c 0 rfl
      obtain ⟨p2, -⟩ := hbq.c 2 rfl
      have hlk : (Instr.lookup 128 (.map (some b1)) (.string pr) false).run Tryz.prog wq = .ok (.agg #[.int .i64 S.st, .int .i64 S.since, .string S.mat, .string S.job]) wq := by rw [hS.out]; exact look_T hFq.m1 hp
      go_wp2_with fail
      exact hK'
    go_simp
    refine hK _ ?_
    clear hK K
    refine tree_e rfl rfl (fun K hK => ?_)
    go_wp2_with fail
    try go_simp
    refine hK _ _ (gr_alloc (gr_trans hgw6 (World.grownBy.refl _ _)) _) ?_
    clear hK K
    obtain ⟨w7, hw7⟩ : ∃ x, x = (w6).alloc (.cells [.int .i64 0, .int .i64 0, .string ⟨#[]⟩, .string ⟨#[]⟩].toArray 105) := ⟨_, rfl⟩
    have hg7 : (w6).grownBy w7 none := by rw [hw7]; exact gr_alloc (World.grownBy.refl _ _) _
    have hb7 : Box w7 (w6).heap.size 105 [.int .i64 0, .int .i64 0, .string ⟨#[]⟩, .string ⟨#[]⟩] := by rw [hw7]; exact Box.new _ _ _
    rw [← hw7]
    clear hw7
    obtain ⟨x7, hx7⟩ : ∃ x, x = (w6).heap.size := ⟨_, rfl⟩
    rw [← hx7] at hb7 ⊢
    have hxl7 : (w6).heap.size ≤ x7 := by omega
    clear hx7
    refine tree_e0 (by kernel_rfl) rfl rfl (fun K hK => ?_)
    have hb8 := hb7.pure (w' := w7) (World.grownBy.refl _ _)
    obtain ⟨⟨d0, e0⟩, ⟨d1, e1⟩, ⟨d2, e2⟩, ⟨d3, e3⟩⟩ := box4_c hb8
    go_wp2_with fail
    try go_simp
    refine hK _ _ trivial ?_
    clear hK K
    refine tree_done ?_
    have hb8 := hb7.pure (w' := w7) (World.grownBy.refl _ _)
    have hgw8 := gr_trans hgw6 hg7
    have hle := hgw6.size
    have hgs := set4_gr (w := w7) (g := x7) (.int .i64 S.st) (.int .i64 S.since) (.string S.mat) (.string S.job)
    have hbz := box_set4 hb8 (.int .i64 S.st) (.int .i64 S.since) (.string S.mat) (.string S.job)
    have hgz := gr_new hgw8 hgs (by omega)
    clear d0 d1 d2 d3 e0 e1 e2 e3
    go_wp2_with fail
    go_meet
    exact ⟨x7, by simp, hbz, hgz, by omega⟩
  case rest =>
    obtain ⟨x5, rfl, hb5, hgc, hx5⟩ := hcut
    obtain ⟨hFc, hb3⟩ := hY.out wc hgc
    have hgw := hide (hg3.t hgc)
    have hx5F : ∀ x, isF b1 b2 b3 b4 x → x ≠ x5 := fun x hx => by have := hlt x (.inr hx); have := hg3.size; omega
    have hZ := hide fun wx (h : wc.grownBy wx none) => And.intro (hFc.pure h) (And.intro (hb3.pure h) (hb5.pure h))
    have hne : x3 ≠ x5 := by have := hb3.lt; have := hxs3; omega
    have hfx : f ≠ x5 := by have := hlt f (.inl rfl); have := hg3.size; omega
    have hxw : w.heap.size ≤ x5 := by have := hg3.size; omega
    clear hY hgc hxl3 hxs3 hx5
    rcases kw_cases hk with rfl | rfl | rfl | rfl | rfl | rfl
    · -- a job starts
      have hE := doE_1 F a pr job mat
      rw [← hS.out] at hE
      obtain ⟨q0, -⟩ := hb5.c 0 rfl
      obtain ⟨r1, -⟩ := hb3.c 1 rfl
      by_cases hst : S.st = 1
      · rw [if_neg (fun h => h hst)] at hE
        have hb : (S.st != 1) = false := by simp [hst]
        rcases hr : (F.wh job).isSome with _ | _
        · go_upto_region 6 with fail
          refine wp_region_tree (fun wx => wc.grownBy wx none) [2, 2, 2, 1, 2, 1, 1, 2, 2, 2, 2, 2] (.bl 0 (.bl 1 (.bl 2 (.bl 3 (.bl 4 (.bl 5 (.bl 6 (.bl 7 (.bl 8 (.bl 9 (.bl 10 (.bl 11 .done)))))))))))) (by kernel_rfl) (by kernel_rfl) (gr_drew (World.grownBy.refl _ _)) ?_
          obtain ⟨w6, hw6⟩ : ∃ x, x = (wc).drew := ⟨_, rfl⟩
          rw [← hw6]
          have hgw6 : (wc).grownBy w6 none := by rw [hw6]; exact gr_drew (World.grownBy.refl _ _)
          clear hw6
          refine tree_p rfl rfl rfl rfl _ rfl (by simp) (fun K hK => ?_)
          apply Exists.intro
          refine ⟨fun wq K' hK' => ?_, ?_⟩
          · go_wp2_with fail
            exact hK'
          go_simp
          refine hK _ ?_
          clear hK K
          refine tree_n rfl rfl _ rfl _ rfl ?_
          try go_simp
          refine tree_p rfl rfl rfl rfl _ rfl (by simp) (fun K hK => ?_)
          apply Exists.intro
          refine ⟨fun wq K' hK' => ?_, ?_⟩
          · go_wp2_with fail
            exact hK'
          go_simp
          refine hK _ ?_
          clear hK K
          refine tree_b rfl rfl rfl rfl _ rfl (by simp) (fun K hK => ?_)
          apply Exists.intro
          refine ⟨fun wq hq K' hK' => ?_, ?_⟩
          · obtain ⟨hFq, hbq, -⟩ := hZ.out wq hq
            obtain ⟨f1, -⟩ := hFq.bx.c 1 rfl
            obtain ⟨p3, -⟩ := hbq.c 3 rfl
            have hlk := lookOk_S hFq.m2 hj
            rw [hr] at hlk
            go_wp2_with fail
            exact hK'
          go_simp
          refine hK _ ?_
          clear hK K
          refine tree_p rfl rfl rfl rfl _ rfl (by simp) (fun K hK => ?_)
          apply Exists.intro
          refine ⟨fun wq K' hK' => ?_, ?_⟩
          · go_wp2_with fail
            exact hK'
          go_simp
          refine hK _ ?_
          clear hK K
          refine tree_b rfl rfl rfl rfl _ rfl (by simp) (fun K hK => ?_)
          apply Exists.intro
          refine ⟨fun wq hq K' hK' => ?_, ?_⟩
          · obtain ⟨hFq, hbq, -⟩ := hZ.out wq hq
            obtain ⟨f1, -⟩ := hFq.bx.c 1 rfl
            obtain ⟨p3, -⟩ := hbq.c 3 rfl
            have hlk := lookOk_S hFq.m2 hj
            rw [hr] at hlk
            go_wp2_with fail
            exact hK'
          go_simp
          refine hK _ ?_
          clear hK K
          refine tree_b rfl rfl rfl rfl _ rfl (by simp) (fun K hK => ?_)
          apply Exists.intro
          refine ⟨fun wq hq K' hK' => ?_, ?_⟩
          · obtain ⟨hFq, hbq, -⟩ := hZ.out wq hq
            obtain ⟨f1, -⟩ := hFq.bx.c 1 rfl
            obtain ⟨p3, -⟩ := hbq.c 3 rfl
            have hlk := lookOk_S hFq.m2 hj
            rw [hr] at hlk
            go_wp2_with fail
            exact hK'
          go_simp
          refine hK _ ?_
          clear hK K
          refine tree_p rfl rfl rfl rfl _ rfl (by simp) (fun K hK => ?_)
          apply Exists.intro
          refine ⟨fun wq K' hK' => ?_, ?_⟩
          · go_wp2_with fail
            exact hK'
          go_simp
          refine hK _ ?_
          clear hK K
          refine tree_p rfl rfl rfl rfl _ rfl (by simp) (fun K hK => ?_)
          apply Exists.intro
          refine ⟨fun wq K' hK' => ?_, ?_⟩
          · go_wp2_with fail
            exact hK'
          go_simp
          refine hK _ ?_
          clear hK K
          refine tree_p rfl rfl rfl rfl _ rfl (by simp) (fun K hK => ?_)
          apply Exists.intro
          refine ⟨fun wq K' hK' => ?_, ?_⟩
          · go_wp2_with fail
            exact hK'
          go_simp
          refine hK _ ?_
          clear hK K
          refine tree_p rfl rfl rfl rfl _ rfl (by simp) (fun K hK => ?_)
          apply Exists.intro
          refine ⟨fun wq K' hK' => ?_, ?_⟩
          · go_wp2_with fail
            exact hK'
          go_simp
          refine hK _ ?_
          clear hK K
          refine tree_p rfl rfl rfl rfl _ rfl (by simp) (fun K hK => ?_)
          apply Exists.intro
          refine ⟨fun wq K' hK' => ?_, ?_⟩
          · go_wp2_with fail
            exact hK'
          go_simp
          refine hK _ ?_
          clear hK K
          refine tree_done ?_
          have hg6 := gr_trans hgw6 (World.grownBy.refl _ _)
          obtain ⟨hF6, hb6, -⟩ := hZ.out w6 hg6
          obtain ⟨f2, -⟩ := hF6.bx.c 2 rfl
          obtain ⟨p0, p1, p2, p3, p4⟩ := box5_all hb6
          rcases hd : (F.dn job).getD false with _ | _
          · have hlk : ∀ n, (Instr.lookup 130 (.map (some b3)) (.string job) false).run Tryz.prog ((w6).drewN n) = .ok (.bool false) ((w6).drewN n) := fun n => by
              have h0 := look_B (hF6.pure (gr_drewN (World.grownBy.refl _ _) n)).m3 hj
              rw [hd] at h0
              exact h0
            rw [hr, hd, if_neg (by decide)] at hE
            obtain ⟨hV2, hG2⟩ := do_ok hV.out hG.out hE (goS_1 F a pr job mat)
            replace hV2 := hide hV2
            replace hG2 := hide hG2
            clear hE hV hG
            go_upto_region 7 with fail
            go_quiet (fail)
            have hFb := hF6.pure (gr_drewN (World.grownBy.refl _ _) nq)
            clear hlk
            (go_wp2_with fail
             refine (become_any f b1 b2 b3 b4 _ _ ⟨a, 1, pr, job, mat⟩ 2 job _ hFb (by have := hN.out; omega) hp hj).mono ?_
             rintro e w9 ⟨rfl, hF9, hG9⟩
             clear p0 p1 p2 p3 p4
             go_wp2_with fail
             go_ret
             exact ⟨ret_int hV2.out.symm, by rw [hG2.out]; exact hF9.mono (by omega), ((GrS.refl _ w).pure (hgw.out.t (gr_drewN hg6 nq))).trans hG9⟩)
          · have hlk : ∀ n, (Instr.lookup 130 (.map (some b3)) (.string job) false).run Tryz.prog ((w6).drewN n) = .ok (.bool true) ((w6).drewN n) := fun n => by
              have h0 := look_B (hF6.pure (gr_drewN (World.grownBy.refl _ _) n)).m3 hj
              rw [hd] at h0
              exact h0
            rw [hr, hd, if_pos (by decide)] at hE
            obtain ⟨hV2, hG2⟩ := do_bad hV.out hG.out hE (by decide)
            replace hV2 := hide hV2
            replace hG2 := hide hG2
            clear hE hV hG
            go_upto_region 7 with fail
            go_quiet (fail)
            go_wp2_with fail
            go_ret
            exact ⟨ret_int hV2.out.symm, by rw [hG2.out]; exact (hF6.pure (gr_drewN (World.grownBy.refl _ _) nq)).mono (by omega), (GrS.refl _ w).pure (hgw.out.t (gr_drewN hg6 nq))⟩
        · go_upto_region 6 with fail
          refine wp_region_tree (fun wx => wc.grownBy wx none) [2, 2, 2, 1, 2, 1, 1, 2, 2, 2, 2, 2] (.bl 0 (.bl 1 (.bl 2 (.bl 3 (.bl 4 (.bl 5 (.bl 6 (.bl 7 (.bl 8 (.bl 9 (.bl 10 (.bl 11 .done)))))))))))) (by kernel_rfl) (by kernel_rfl) (gr_drew (World.grownBy.refl _ _)) ?_
          obtain ⟨w6, hw6⟩ : ∃ x, x = (wc).drew := ⟨_, rfl⟩
          rw [← hw6]
          have hgw6 : (wc).grownBy w6 none := by rw [hw6]; exact gr_drew (World.grownBy.refl _ _)
          clear hw6
          refine tree_p rfl rfl rfl rfl _ rfl (by simp) (fun K hK => ?_)
          apply Exists.intro
          refine ⟨fun wq K' hK' => ?_, ?_⟩
          · go_wp2_with fail
            exact hK'
          go_simp
          refine hK _ ?_
          clear hK K
          refine tree_n rfl rfl _ rfl _ rfl ?_
          try go_simp
          refine tree_p rfl rfl rfl rfl _ rfl (by simp) (fun K hK => ?_)
          apply Exists.intro
          refine ⟨fun wq K' hK' => ?_, ?_⟩
          · go_wp2_with fail
            exact hK'
          go_simp
          refine hK _ ?_
          clear hK K
          refine tree_b rfl rfl rfl rfl _ rfl (by simp) (fun K hK => ?_)
          apply Exists.intro
          refine ⟨fun wq hq K' hK' => ?_, ?_⟩
          · obtain ⟨hFq, hbq, -⟩ := hZ.out wq hq
            obtain ⟨f1, -⟩ := hFq.bx.c 1 rfl
            obtain ⟨p3, -⟩ := hbq.c 3 rfl
            have hlk := lookOk_S hFq.m2 hj
            rw [hr] at hlk
            go_wp2_with fail
            exact hK'
          go_simp
          refine hK _ ?_
          clear hK K
          refine tree_p rfl rfl rfl rfl _ rfl (by simp) (fun K hK => ?_)
          apply Exists.intro
          refine ⟨fun wq K' hK' => ?_, ?_⟩
          · go_wp2_with fail
            exact hK'
          go_simp
          refine hK _ ?_
          clear hK K
          refine tree_b rfl rfl rfl rfl _ rfl (by simp) (fun K hK => ?_)
          apply Exists.intro
          refine ⟨fun wq hq K' hK' => ?_, ?_⟩
          · obtain ⟨hFq, hbq, -⟩ := hZ.out wq hq
            obtain ⟨f1, -⟩ := hFq.bx.c 1 rfl
            obtain ⟨p3, -⟩ := hbq.c 3 rfl
            have hlk := lookOk_S hFq.m2 hj
            rw [hr] at hlk
            go_wp2_with fail
            exact hK'
          go_simp
          refine hK _ ?_
          clear hK K
          refine tree_b rfl rfl rfl rfl _ rfl (by simp) (fun K hK => ?_)
          apply Exists.intro
          refine ⟨fun wq hq K' hK' => ?_, ?_⟩
          · obtain ⟨hFq, hbq, -⟩ := hZ.out wq hq
            obtain ⟨f1, -⟩ := hFq.bx.c 1 rfl
            obtain ⟨p3, -⟩ := hbq.c 3 rfl
            have hlk := lookOk_S hFq.m2 hj
            rw [hr] at hlk
            go_wp2_with fail
            exact hK'
          go_simp
          refine hK _ ?_
          clear hK K
          refine tree_p rfl rfl rfl rfl _ rfl (by simp) (fun K hK => ?_)
          apply Exists.intro
          refine ⟨fun wq K' hK' => ?_, ?_⟩
          · go_wp2_with fail
            exact hK'
          go_simp
          refine hK _ ?_
          clear hK K
          refine tree_p rfl rfl rfl rfl _ rfl (by simp) (fun K hK => ?_)
          apply Exists.intro
          refine ⟨fun wq K' hK' => ?_, ?_⟩
          · go_wp2_with fail
            exact hK'
          go_simp
          refine hK _ ?_
          clear hK K
          refine tree_p rfl rfl rfl rfl _ rfl (by simp) (fun K hK => ?_)
          apply Exists.intro
          refine ⟨fun wq K' hK' => ?_, ?_⟩
          · go_wp2_with fail
            exact hK'
          go_simp
          refine hK _ ?_
          clear hK K
          refine tree_p rfl rfl rfl rfl _ rfl (by simp) (fun K hK => ?_)
          apply Exists.intro
          refine ⟨fun wq K' hK' => ?_, ?_⟩
          · go_wp2_with fail
            exact hK'
          go_simp
          refine hK _ ?_
          clear hK K
          refine tree_p rfl rfl rfl rfl _ rfl (by simp) (fun K hK => ?_)
          apply Exists.intro
          refine ⟨fun wq K' hK' => ?_, ?_⟩
          · go_wp2_with fail
            exact hK'
          go_simp
          refine hK _ ?_
          clear hK K
          refine tree_done ?_
          have hg6 := gr_trans hgw6 (World.grownBy.refl _ _)
          obtain ⟨hF6, -⟩ := hZ.out w6 hg6
          rw [hr, if_pos (by rfl)] at hE
          obtain ⟨hV2, hG2⟩ := do_bad hV.out hG.out hE (by decide)
          replace hV2 := hide hV2
          replace hG2 := hide hG2
          clear hE hV hG
          go_upto_region 7 with fail
          go_quiet (fail)
          go_wp2_with fail
          go_ret
          exact ⟨ret_int hV2.out.symm, by rw [hG2.out]; exact (hF6.pure (gr_drewN (World.grownBy.refl _ _) nq)).mono (by omega), (GrS.refl _ w).pure (hgw.out.t (gr_drewN hg6 nq))⟩
      · rw [if_pos hst] at hE
        obtain ⟨hV2, hG2⟩ := do_bad hV.out hG.out hE (by decide)
        replace hV2 := hide hV2
        replace hG2 := hide hG2
        clear hE hV hG
        have hb : (S.st != 1) = true := by simp [hst]
        (go_wp2_with fail
         go_ret
         exact ⟨ret_int hV2.out.symm, by rw [hG2.out]; exact hFc.mono (by omega), (GrS.refl _ w).pure hgw.out⟩)
    · have hE := doE_2 F a pr job mat
      rw [← hS.out] at hE
      obtain ⟨q0, -⟩ := hb5.c 0 rfl
      obtain ⟨p0, p1, p2, p3, p4⟩ := box5_all hb3
      by_cases hst : S.st = 2
      · rw [if_neg (fun h => h hst)] at hE
        have hb : (S.st != 2) = false := by simp [hst]
        have hgo := goS_2 F a pr job mat
        rw [← hS.out] at hgo
        obtain ⟨hV2, hG2⟩ := do_ok hV.out hG.out hE (hgo)
        replace hV2 := hide hV2
        replace hG2 := hide hG2
        clear hE hV hG
        clear hgo
        go_upto_region 15 with fail
        clear p0 p1 p2 p3 p4 q0
        refine wp_region_tree (fun wx => wc.grownBy wx none) [2, 2, 2, 1, 2, 1, 0] (.bl 0 (.bl 1 (.bl 2 (.bl 3 (.bl 4 (.bl 5 (.ef 6 .done))))))) (by kernel_rfl) (by kernel_rfl) (gr_drew (World.grownBy.refl _ _)) ?_
        obtain ⟨w6, hw6⟩ : ∃ x, x = (wc).drew := ⟨_, rfl⟩
        rw [← hw6]
        have hgw6 : (wc).grownBy w6 none := by rw [hw6]; exact gr_drew (World.grownBy.refl _ _)
        clear hw6
        refine tree_p rfl rfl rfl rfl _ rfl (by simp) (fun K hK => ?_)
        apply Exists.intro
        refine ⟨fun wq K' hK' => ?_, ?_⟩
        · go_wp2_with fail
          exact hK'
        go_simp
        refine hK _ ?_
        clear hK K
        refine tree_n rfl rfl _ rfl _ rfl ?_
        try go_simp
        refine tree_p rfl rfl rfl rfl _ rfl (by simp) (fun K hK => ?_)
        apply Exists.intro
        refine ⟨fun wq K' hK' => ?_, ?_⟩
        · go_wp2_with fail
          exact hK'
        go_simp
        refine hK _ ?_
        clear hK K
        refine tree_b rfl rfl rfl rfl _ rfl (by simp) (fun K hK => ?_)
        apply Exists.intro
        refine ⟨fun wq hq K' hK' => ?_, ?_⟩
        · obtain ⟨hFq, -, hbq⟩ := hZ.out wq hq
          obtain ⟨f1, -⟩ := hFq.bx.c 2 rfl
          obtain ⟨q3, -⟩ := hbq.c 3 rfl
          go_wp2_with fail
          exact hK'
        go_simp
        refine hK _ ?_
        clear hK K
        refine tree_p rfl rfl rfl rfl _ rfl (by simp) (fun K hK => ?_)
        apply Exists.intro
        refine ⟨fun wq K' hK' => ?_, ?_⟩
        · go_wp2_with fail
          exact hK'
        go_simp
        refine hK _ ?_
        clear hK K
        refine tree_b rfl rfl rfl rfl _ rfl (by simp) (fun K hK => ?_)
        apply Exists.intro
        refine ⟨fun wq hq K' hK' => ?_, ?_⟩
        · obtain ⟨hFq, -, hbq⟩ := hZ.out wq hq
          obtain ⟨f1, -⟩ := hFq.bx.c 2 rfl
          obtain ⟨q3, -⟩ := hbq.c 3 rfl
          go_wp2_with fail
          exact hK'
        go_simp
        refine hK _ ?_
        clear hK K
        refine tree_e0 (by kernel_rfl) rfl rfl (fun K hK => ?_)
        obtain ⟨hFq, hb3q, -⟩ := hZ.out w6 (gr_trans hgw6 (World.grownBy.refl _ _))
        obtain ⟨wd, hrun, hMd, hgd⟩ := store_B hFq.m3 (by have := hN.out; unfold maxLen; omega) hoj true
        go_wp2_with fail
        try go_simp
        refine hK _ _ trivial ?_
        clear hK K
        refine tree_done ?_
        have hgz := ((GrS.refl (isF b1 b2 b3 b4) w).pure (hgw.out.t hgw6)).step hgd (fun x e => .inl (by cases e; exact .inr (.inr (.inl rfl))))
        have hFb := hFq.s3 (Nat.le_succ _) hMd hgd
        obtain ⟨p0, p1, p2, p3, p4⟩ := box5_all (hb3q.gr hgd (by intro e; injection e with e; exact hxF _ (.inr (.inr (.inl rfl))) e))
        clear hrun hMd hgd hFq hb3q
        (go_wp2_with fail
         refine (become_any f b1 b2 b3 b4 _ _ ⟨a, 2, pr, job, mat⟩ 1 noB _ hFb (by have := hN.out; omega) hp okK_noB).mono ?_
         rintro e w9 ⟨rfl, hF9, hG9⟩
         clear p0 p1 p2 p3 p4
         go_wp2_with fail
         go_ret
         exact ⟨ret_int hV2.out.symm, by rw [hG2.out]; exact hF9.mono (by omega), (hgz).trans hG9⟩)
      · rw [if_pos hst] at hE
        obtain ⟨hV2, hG2⟩ := do_bad hV.out hG.out hE (by decide)
        replace hV2 := hide hV2
        replace hG2 := hide hG2
        clear hE hV hG
        have hb : (S.st != 2) = true := by simp [hst]
        (go_wp2_with fail
         go_ret
         exact ⟨ret_int hV2.out.symm, by rw [hG2.out]; exact hFc.mono (by omega), (GrS.refl _ w).pure hgw.out⟩)
    · have hE := doE_3 F a pr job mat
      rw [← hS.out] at hE
      obtain ⟨q0, -⟩ := hb5.c 0 rfl
      obtain ⟨p0, p1, p2, p3, p4⟩ := box5_all hb3
      by_cases hst : S.st = 2
      · rw [if_neg (fun h => h hst)] at hE
        have hb : (S.st != 2) = false := by simp [hst]
        have hgo := goS_3 F a pr job mat
        rw [← hS.out] at hgo
        obtain ⟨hV2, hG2⟩ := do_ok hV.out hG.out hE (hgo)
        replace hV2 := hide hV2
        replace hG2 := hide hG2
        clear hE hV hG
        clear hgo
        go_upto_region 16 with fail
        clear p0 p1 p2 p3 p4 q0
        refine wp_region_tree (fun wx => wc.grownBy wx none) [2, 2, 2, 1, 2, 1, 0] (.bl 0 (.bl 1 (.bl 2 (.bl 3 (.bl 4 (.bl 5 (.ef 6 .done))))))) (by kernel_rfl) (by kernel_rfl) (gr_drew (World.grownBy.refl _ _)) ?_
        obtain ⟨w6, hw6⟩ : ∃ x, x = (wc).drew := ⟨_, rfl⟩
        rw [← hw6]
        have hgw6 : (wc).grownBy w6 none := by rw [hw6]; exact gr_drew (World.grownBy.refl _ _)
        clear hw6
        refine tree_p rfl rfl rfl rfl _ rfl (by simp) (fun K hK => ?_)
        apply Exists.intro
        refine ⟨fun wq K' hK' => ?_, ?_⟩
        · go_wp2_with fail
          exact hK'
        go_simp
        refine hK _ ?_
        clear hK K
        refine tree_n rfl rfl _ rfl _ rfl ?_
        try go_simp
        refine tree_p rfl rfl rfl rfl _ rfl (by simp) (fun K hK => ?_)
        apply Exists.intro
        refine ⟨fun wq K' hK' => ?_, ?_⟩
        · go_wp2_with fail
          exact hK'
        go_simp
        refine hK _ ?_
        clear hK K
        refine tree_b rfl rfl rfl rfl _ rfl (by simp) (fun K hK => ?_)
        apply Exists.intro
        refine ⟨fun wq hq K' hK' => ?_, ?_⟩
        · obtain ⟨hFq, -, hbq⟩ := hZ.out wq hq
          obtain ⟨f1, -⟩ := hFq.bx.c 3 rfl
          obtain ⟨q3, -⟩ := hbq.c 3 rfl
          go_wp2_with fail
          exact hK'
        go_simp
        refine hK _ ?_
        clear hK K
        refine tree_p rfl rfl rfl rfl _ rfl (by simp) (fun K hK => ?_)
        apply Exists.intro
        refine ⟨fun wq K' hK' => ?_, ?_⟩
        · go_wp2_with fail
          exact hK'
        go_simp
        refine hK _ ?_
        clear hK K
        refine tree_b rfl rfl rfl rfl _ rfl (by simp) (fun K hK => ?_)
        apply Exists.intro
        refine ⟨fun wq hq K' hK' => ?_, ?_⟩
        · obtain ⟨hFq, -, hbq⟩ := hZ.out wq hq
          obtain ⟨f1, -⟩ := hFq.bx.c 3 rfl
          obtain ⟨q3, -⟩ := hbq.c 3 rfl
          go_wp2_with fail
          exact hK'
        go_simp
        refine hK _ ?_
        clear hK K
        refine tree_e0 (by kernel_rfl) rfl rfl (fun K hK => ?_)
        obtain ⟨hFq, hb3q, -⟩ := hZ.out w6 (gr_trans hgw6 (World.grownBy.refl _ _))
        obtain ⟨wd, hrun, hMd, hgd⟩ := store_B hFq.m4 (by have := hN.out; unfold maxLen; omega) hoj true
        go_wp2_with fail
        try go_simp
        refine hK _ _ trivial ?_
        clear hK K
        refine tree_done ?_
        have hgz := ((GrS.refl (isF b1 b2 b3 b4) w).pure (hgw.out.t hgw6)).step hgd (fun x e => .inl (by cases e; exact .inr (.inr (.inr rfl))))
        have hFb := hFq.s4 (Nat.le_succ _) hMd hgd
        obtain ⟨p0, p1, p2, p3, p4⟩ := box5_all (hb3q.gr hgd (by intro e; injection e with e; exact hxF _ (.inr (.inr (.inr rfl))) e))
        clear hrun hMd hgd hFq hb3q
        (go_wp2_with fail
         refine (become_any f b1 b2 b3 b4 _ _ ⟨a, 3, pr, job, mat⟩ 1 noB _ hFb (by have := hN.out; omega) hp okK_noB).mono ?_
         rintro e w9 ⟨rfl, hF9, hG9⟩
         clear p0 p1 p2 p3 p4
         go_wp2_with fail
         go_ret
         exact ⟨ret_int hV2.out.symm, by rw [hG2.out]; exact hF9.mono (by omega), (hgz).trans hG9⟩)
      · rw [if_pos hst] at hE
        obtain ⟨hV2, hG2⟩ := do_bad hV.out hG.out hE (by decide)
        replace hV2 := hide hV2
        replace hG2 := hide hG2
        clear hE hV hG
        have hb : (S.st != 2) = true := by simp [hst]
        (go_wp2_with fail
         go_ret
         exact ⟨ret_int hV2.out.symm, by rw [hG2.out]; exact hFc.mono (by omega), (GrS.refl _ w).pure hgw.out⟩)
    · have hE := doE_4 F a pr job mat
      rw [← hS.out] at hE
      obtain ⟨q0, -⟩ := hb5.c 0 rfl
      obtain ⟨p0, p1, p2, p3, p4⟩ := box5_all hb3
      by_cases hst : S.st = 1
      · rw [if_neg (fun h => h hst)] at hE
        have hb : (S.st != 1) = false := by simp [hst]
        have hgo := goS_4 F a pr job mat
        rw [← hS.out] at hgo
        obtain ⟨hV2, hG2⟩ := do_ok hV.out hG.out hE (hgo)
        replace hV2 := hide hV2
        replace hG2 := hide hG2
        clear hE hV hG
        clear hgo hst
        obtain ⟨-, -, ⟨d2, e2⟩, -⟩ := box4_c hb5
        go_upto_region 22 with fail
        obtain ⟨v8, hv8⟩ : ∃ v, v = wc.setCell ⟨x5, 2, none⟩ (.string mat) := ⟨_, rfl⟩
        have hg8 : wc.grownBy v8 (some x5) := by rw [hv8]; exact gr_set (World.grownBy.refl _ _) (.inl rfl) _
        have hb8 : Box v8 x5 105 [.int .i64 S.st, .int .i64 S.since, .string mat, .string S.job] := by rw [hv8]; exact hb5.set_ 2 _ (by simp)
        rw [← hv8]
        have hF8 : FlrAt v8 f b1 b2 b3 b4 N F := hFc.blk fun x hx => hg8.block x (hFc.lt hx) (by
          intro e
          injection e with e
          rcases hx with rfl | hx
          · exact hfx e
          · exact hx5F x hx e)
        have hb38 := hb3.gr hg8 (by intro e; injection e with e; exact hne e.symm)
        have hgz8 := ((GrS.refl (isF b1 b2 b3 b4) w).pure hgw.out).step hg8 (fun x e => .inr (by cases e; exact hxw))
        clear p0 p1 p2 p3 p4 q0 d2 e2 hv8
        have hZ8 := hide fun wx (h : v8.grownBy wx none) => And.intro (hF8.pure h) (And.intro (hb38.pure h) (hb8.pure h))
        refine wp_region_tree (fun wx => v8.grownBy wx none) [2, 2, 2, 1, 2, 1, 1, 0] (.bl 0 (.bl 1 (.bl 2 (.bl 3 (.bl 4 (.bl 5 (.bl 6 (.ef 7 .done)))))))) (by kernel_rfl) (by kernel_rfl) (gr_drew (World.grownBy.refl _ _)) ?_
        obtain ⟨w6, hw6⟩ : ∃ x, x = (v8).drew := ⟨_, rfl⟩
        rw [← hw6]
        have hgw6 : (v8).grownBy w6 none := by rw [hw6]; exact gr_drew (World.grownBy.refl _ _)
        clear hw6
        refine tree_p rfl rfl rfl rfl _ rfl (by simp) (fun K hK => ?_)
        apply Exists.intro
        refine ⟨fun wq K' hK' => ?_, ?_⟩
        · go_wp2_with fail
          exact hK'
        go_simp
        refine hK _ ?_
        clear hK K
        refine tree_n rfl rfl _ rfl _ rfl ?_
        try go_simp
        refine tree_p rfl rfl rfl rfl _ rfl (by simp) (fun K hK => ?_)
        apply Exists.intro
        refine ⟨fun wq K' hK' => ?_, ?_⟩
        · go_wp2_with fail
          exact hK'
        go_simp
        refine hK _ ?_
        clear hK K
        refine tree_b rfl rfl rfl rfl _ rfl (by simp) (fun K hK => ?_)
        apply Exists.intro
        refine ⟨fun wq hq K' hK' => ?_, ?_⟩
        · obtain ⟨hFq, hbe, hbq⟩ := hZ8.out wq hq
          obtain ⟨f0, -⟩ := hFq.bx.c 0 rfl
          obtain ⟨p2, -⟩ := hbe.c 2 rfl
          obtain ⟨⟨q0, -⟩, ⟨q1, -⟩, ⟨q2, -⟩, ⟨q3, -⟩⟩ := box4_c hbq
          go_wp2_with fail
          exact hK'
        go_simp
        refine hK _ ?_
        clear hK K
        refine tree_p rfl rfl rfl rfl _ rfl (by simp) (fun K hK => ?_)
        apply Exists.intro
        refine ⟨fun wq K' hK' => ?_, ?_⟩
        · go_wp2_with fail
          exact hK'
        go_simp
        refine hK _ ?_
        clear hK K
        refine tree_b rfl rfl rfl rfl _ rfl (by simp) (fun K hK => ?_)
        apply Exists.intro
        refine ⟨fun wq hq K' hK' => ?_, ?_⟩
        · obtain ⟨hFq, hbe, hbq⟩ := hZ8.out wq hq
          obtain ⟨f0, -⟩ := hFq.bx.c 0 rfl
          obtain ⟨p2, -⟩ := hbe.c 2 rfl
          obtain ⟨⟨q0, -⟩, ⟨q1, -⟩, ⟨q2, -⟩, ⟨q3, -⟩⟩ := box4_c hbq
          go_wp2_with fail
          exact hK'
        go_simp
        refine hK _ ?_
        clear hK K
        refine tree_b rfl rfl rfl rfl _ rfl (by simp) (fun K hK => ?_)
        apply Exists.intro
        refine ⟨fun wq hq K' hK' => ?_, ?_⟩
        · obtain ⟨hFq, hbe, hbq⟩ := hZ8.out wq hq
          obtain ⟨f0, -⟩ := hFq.bx.c 0 rfl
          obtain ⟨p2, -⟩ := hbe.c 2 rfl
          obtain ⟨⟨q0, -⟩, ⟨q1, -⟩, ⟨q2, -⟩, ⟨q3, -⟩⟩ := box4_c hbq
          go_wp2_with fail
          exact hK'
        go_simp
        refine hK _ ?_
        clear hK K
        refine tree_e0 (by kernel_rfl) rfl rfl (fun K hK => ?_)
        obtain ⟨hFq, -, -⟩ := hZ8.out w6 (gr_trans hgw6 (World.grownBy.refl _ _))
        obtain ⟨wd, hrun, hMd, hgd⟩ := store_T hFq.m1 (by have := hN.out; unfold maxLen; omega) hp S.st S.since mat S.job
        go_wp2_with fail
        try go_simp
        refine hK _ _ trivial ?_
        clear hK K
        refine tree_done ?_
        have hgz := (hgz8.pure hgw6).step hgd (fun x e => .inl (by cases e; exact .inl rfl))
        have hFb := hFq.s1 (Nat.le_succ _) hMd hgd (fun z v hz => by
          unfold updM at hz
          by_cases hzk : z = pr
          · rw [if_pos hzk] at hz
            obtain rfl := Option.some.inj hz
            exact hoj
          · rw [if_neg hzk] at hz; exact hFq.jk z v hz)
        clear hrun hMd hgd hFq
        go_wp2_with fail
        go_ret
        exact ⟨ret_int hV2.out.symm, by rw [hG2.out]; exact hFb.mono (by omega), hgz⟩
      · rw [if_pos hst] at hE
        obtain ⟨hV2, hG2⟩ := do_bad hV.out hG.out hE (by decide)
        replace hV2 := hide hV2
        replace hG2 := hide hG2
        clear hE hV hG
        have hb : (S.st != 1) = true := by simp [hst]
        (go_wp2_with fail
         go_ret
         exact ⟨ret_int hV2.out.symm, by rw [hG2.out]; exact hFc.mono (by omega), (GrS.refl _ w).pure hgw.out⟩)
    · have hE := doE_5 F a pr job mat
      rw [← hS.out] at hE
      obtain ⟨q0, -⟩ := hb5.c 0 rfl
      obtain ⟨p0, p1, p2, p3, p4⟩ := box5_all hb3
      by_cases hst : S.st = 3
      · rw [if_pos hst] at hE
        obtain ⟨hV2, hG2⟩ := do_bad hV.out hG.out hE (by decide)
        replace hV2 := hide hV2
        replace hG2 := hide hG2
        clear hE hV hG
        have hb : (S.st == 3) = true := by simp [hst]
        (go_wp2_with fail
         go_ret
         exact ⟨ret_int hV2.out.symm, by rw [hG2.out]; exact hFc.mono (by omega), (GrS.refl _ w).pure hgw.out⟩)
      · rw [if_neg hst] at hE
        have hb : (S.st == 3) = false := by simp [hst]
        have hgo := goS_5 F a pr job mat
        rw [← hS.out] at hgo
        by_cases hs2 : S.st = 2
        · rw [if_pos hs2] at hgo
          obtain ⟨hV2, hG2⟩ := do_ok hV.out hG.out hE (hgo)
          replace hV2 := hide hV2
          replace hG2 := hide hG2
          clear hE hV hG
          clear hgo hst
          have hb2 : (S.st == 2) = true := by simp [hs2]
          clear hs2
          go_upto_region 27 with fail
          clear p0 p1 p2 p3 p4 q0
          refine wp_region_tree (fun wx => wc.grownBy wx none) [2, 2, 2, 1, 2, 1, 0] (.bl 0 (.bl 1 (.bl 2 (.bl 3 (.bl 4 (.bl 5 (.ef 6 .done))))))) (by kernel_rfl) (by kernel_rfl) (gr_drew (World.grownBy.refl _ _)) ?_
          obtain ⟨w6, hw6⟩ : ∃ x, x = (wc).drew := ⟨_, rfl⟩
          rw [← hw6]
          have hgw6 : (wc).grownBy w6 none := by rw [hw6]; exact gr_drew (World.grownBy.refl _ _)
          clear hw6
          refine tree_p rfl rfl rfl rfl _ rfl (by simp) (fun K hK => ?_)
          apply Exists.intro
          refine ⟨fun wq K' hK' => ?_, ?_⟩
          · go_wp2_with fail
            exact hK'
          go_simp
          refine hK _ ?_
          clear hK K
          refine tree_n rfl rfl _ rfl _ rfl ?_
          try go_simp
          refine tree_p rfl rfl rfl rfl _ rfl (by simp) (fun K hK => ?_)
          apply Exists.intro
          refine ⟨fun wq K' hK' => ?_, ?_⟩
          · go_wp2_with fail
            exact hK'
          go_simp
          refine hK _ ?_
          clear hK K
          refine tree_b rfl rfl rfl rfl _ rfl (by simp) (fun K hK => ?_)
          apply Exists.intro
          refine ⟨fun wq hq K' hK' => ?_, ?_⟩
          · obtain ⟨hFq, -, hbq⟩ := hZ.out wq hq
            obtain ⟨f1, -⟩ := hFq.bx.c 3 rfl
            obtain ⟨q3, -⟩ := hbq.c 3 rfl
            go_wp2_with fail
            exact hK'
          go_simp
          refine hK _ ?_
          clear hK K
          refine tree_p rfl rfl rfl rfl _ rfl (by simp) (fun K hK => ?_)
          apply Exists.intro
          refine ⟨fun wq K' hK' => ?_, ?_⟩
          · go_wp2_with fail
            exact hK'
          go_simp
          refine hK _ ?_
          clear hK K
          refine tree_b rfl rfl rfl rfl _ rfl (by simp) (fun K hK => ?_)
          apply Exists.intro
          refine ⟨fun wq hq K' hK' => ?_, ?_⟩
          · obtain ⟨hFq, -, hbq⟩ := hZ.out wq hq
            obtain ⟨f1, -⟩ := hFq.bx.c 3 rfl
            obtain ⟨q3, -⟩ := hbq.c 3 rfl
            go_wp2_with fail
            exact hK'
          go_simp
          refine hK _ ?_
          clear hK K
          refine tree_e0 (by kernel_rfl) rfl rfl (fun K hK => ?_)
          obtain ⟨hFq, hb3q, -⟩ := hZ.out w6 (gr_trans hgw6 (World.grownBy.refl _ _))
          obtain ⟨wd, hrun, hMd, hgd⟩ := store_B hFq.m4 (by have := hN.out; unfold maxLen; omega) hoj true
          go_wp2_with fail
          try go_simp
          refine hK _ _ trivial ?_
          clear hK K
          refine tree_done ?_
          have hgz := ((GrS.refl (isF b1 b2 b3 b4) w).pure (hgw.out.t hgw6)).step hgd (fun x e => .inl (by cases e; exact .inr (.inr (.inr rfl))))
          have hFb := hFq.s4 (Nat.le_succ _) hMd hgd
          obtain ⟨p0, p1, p2, p3, p4⟩ := box5_all (hb3q.gr hgd (by intro e; injection e with e; exact hxF _ (.inr (.inr (.inr rfl))) e))
          clear hrun hMd hgd hFq hb3q
          (go_wp2_with fail
           refine (become_any f b1 b2 b3 b4 _ _ ⟨a, 5, pr, job, mat⟩ 3 noB _ hFb (by have := hN.out; omega) hp okK_noB).mono ?_
           rintro e w9 ⟨rfl, hF9, hG9⟩
           clear p0 p1 p2 p3 p4
           go_wp2_with fail
           go_ret
           exact ⟨ret_int hV2.out.symm, by rw [hG2.out]; exact hF9.mono (by omega), (hgz).trans hG9⟩)
        · rw [if_neg hs2] at hgo
          obtain ⟨hV2, hG2⟩ := do_ok hV.out hG.out hE (hgo)
          replace hV2 := hide hV2
          replace hG2 := hide hG2
          clear hE hV hG
          clear hgo
          have hb2 : (S.st == 2) = false := by simp [hs2]
          have hFb := hFc
          (go_wp2_with fail
           refine (become_any f b1 b2 b3 b4 _ _ ⟨a, 5, pr, job, mat⟩ 3 noB _ hFb (by have := hN.out; omega) hp okK_noB).mono ?_
           rintro e w9 ⟨rfl, hF9, hG9⟩
           clear p0 p1 p2 p3 p4
           go_wp2_with fail
           go_ret
           exact ⟨ret_int hV2.out.symm, by rw [hG2.out]; exact hF9.mono (by omega), ((GrS.refl _ w).pure hgw.out).trans hG9⟩)
    · have hE := doE_6 F a pr job mat
      rw [← hS.out] at hE
      obtain ⟨q0, -⟩ := hb5.c 0 rfl
      obtain ⟨p0, p1, p2, p3, p4⟩ := box5_all hb3
      by_cases hst : S.st = 3
      · rw [if_neg (fun h => h hst)] at hE
        have hb : (S.st != 3) = false := by simp [hst]
        obtain ⟨hV2, hG2⟩ := do_ok hV.out hG.out hE (goS_6 F a pr job mat)
        replace hV2 := hide hV2
        replace hG2 := hide hG2
        clear hE hV hG
        have hFb := hFc
        (go_wp2_with fail
         refine (become_any f b1 b2 b3 b4 _ _ ⟨a, 6, pr, job, mat⟩ 1 noB _ hFb (by have := hN.out; omega) hp okK_noB).mono ?_
         rintro e w9 ⟨rfl, hF9, hG9⟩
         clear p0 p1 p2 p3 p4
         go_wp2_with fail
         go_ret
         exact ⟨ret_int hV2.out.symm, by rw [hG2.out]; exact hF9.mono (by omega), ((GrS.refl _ w).pure hgw.out).trans hG9⟩)
      · rw [if_pos hst] at hE
        obtain ⟨hV2, hG2⟩ := do_bad hV.out hG.out hE (by decide)
        replace hV2 := hide hV2
        replace hG2 := hide hG2
        clear hE hV hG
        have hb : (S.st != 3) = true := by simp [hst]
        (go_wp2_with fail
         go_ret
         exact ⟨ret_int hV2.out.symm, by rw [hG2.out]; exact hFc.mono (by omega), (GrS.refl _ w).pure hgw.out⟩)

end Go.Proofs.YtanioobepfllgaaGreatDoor

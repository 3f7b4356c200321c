/- Contracts of functions that this seat's laws reach, each: what one call returns and what it leaves in memory; no condition beyond each theorem's own hypotheses. -/
import Derived.Test.YtanioobepfllgaaGreatDoorZqFlrG
import Derived.Test.YtanioobepfllgaaGreatDoorZqTwo
set_option linter.unusedVariables false
set_option linter.unusedSimpArgs false
namespace Go.Proofs.YtanioobepfllgaaGreatDoor
open Go Go.RowKit Go.Bl Go.Maps Go.WideShapes

theorem Own.blkE {α : Type} [Enc α] [Flat α] {w w' : World} {lo : Nat} {e : TypeId} {A : Option Addr} {c : Nat} {l : List α} (h : Own w lo e A c l) (hb : ∀ g, blk A = some g → w'.heap[g]? = w.heap[g]?) : Own w' lo e A c l := by
  obtain ⟨hm, cs, hr, ho⟩ := h
  refine ⟨hm, cs, hr.flat, ho.1, ?_⟩
  rcases ho.2 with hn | ⟨g, cap, cur, hv, hbs, hgg, rest⟩
  · exact .inl hn
  · refine .inr ⟨g, cap, cur, hv, hbs, ?_, rest⟩
    rw [hb g (by injection hv with hA; rw [hA]; rfl)]
    exact hgg

theorem Own.noMap {α : Type} [Enc α] {w : World} {lo : Nat} {e : TypeId} {A : Option Addr} {c : Nat} {l : List α} (h : Own w lo e A c l) {g : Nat} (hg : blk A = some g) (hm : ∃ es ck, w.heap[g]? = some (.map es ck)) : False := by
  obtain ⟨cs, k, h1⟩ := h.typ hg
  obtain ⟨es, ck, h2⟩ := hm
  rw [h1] at h2
  cases h2

theorem KeepM.trans {lo : Nat} {w w1 w' : World} (h : KeepM lo w w1) (k : KeepM lo w1 w') : KeepM lo w w' := fun x hx hty => by
  have e := h x hx hty
  refine (k x hx ?_).trans e
  rcases hty with ⟨es, ck, h1⟩ | ⟨vs, h1⟩
  · exact .inl ⟨es, ck, e.trans h1⟩
  · exact .inr ⟨vs, box_block h1 e⟩

theorem KeepM.gr {lo : Nat} {w w' : World} {r : Option Nat} (hg : w.grownBy w' r) (hr : ∀ g, r = some g → g < lo ∨ ∃ t, Typ w g t ∧ t ≠ 132) : KeepM lo w w' := fun x hx hty => by
  have hlt : x < w.heap.size := by
    rcases hty with ⟨es, ck, h1⟩ | ⟨vs, h1⟩
    · exact (Array.getElem?_eq_some_iff.1 h1).1
    · exact h1.lt
  refine hg.block x hlt fun e => ?_
  rcases hr x e.symm with h1 | ⟨t, h1, h2⟩
  · omega
  · rcases hty with ⟨es, ck, h3⟩ | ⟨vs, h3⟩
    · obtain ⟨cs, k, h4⟩ := h1
      rw [h3] at h4
      cases h4
    · exact h2 (h1.uniq h3.1)

def addB (B : List Int) (E v : Int) : List Int := B ++ (if E = 0 then [] else [v])

theorem info_err : (Tryz.prog.info? 33).map (fun i => (i.zero, i.size, i.bytes)) = some (some (.int .i64 0), 1, 8) := by kernel_rfl

set_option maxHeartbeats 4000000 in
set_option maxRecDepth 100000 in
theorem refClo_any (lo base x8 x9 : Nat) (A1 A2 : Option Addr) (c1 c2 nB nY : Nat) (B Y : List Int) (i : Nat) (S : Std) (E : Int) (w : World)
    (h8 : Box w x8 22 [.slice A1 nB c1]) (h9 : Box w x9 61 [.slice A2 nY c2]) (o1 : Own w lo 3 A1 c1 B) (o2 : Own w lo 33 A2 c2 Y)
    (hB : B.length = nB) (hY : Y.length = nY) (hnB : nB ≤ 5000) (hnY : nY ≤ 5000) (hx : x8 < lo ∧ x9 < lo) (hlo : lo ≤ w.heap.size) (hbase : base ≤ x8 ∧ base ≤ x9 ∧ base ≤ lo) :
    Calls Tryz.prog 54 #[.int .i64 i, .agg #[.int .i64 (S).st, .int .i64 (S).since, .string (S).mat, .string (S).job], .int .i64 E, .pointer (some ⟨x8, 0, none⟩), .pointer (some ⟨x9, 0, none⟩)] w fun e w' => e = .returned (.tuple #[]) ∧
      (∃ A1' c1' A2' c2', Box w' x8 22 [.slice A1' (addB B E i).length c1'] ∧ Box w' x9 61 [.slice A2' (addB Y E E).length c2'] ∧ Own w' lo 3 A1' c1' (addB B E i) ∧ Own w' lo 33 A2' c2' (addB Y E E)) ∧ GrS (fun x => base ≤ x) w w' ∧ KeepM lo w w' := by
  by_cases hE : E = 0
  · have hb : (E != 0) = false := by simp [hE]
    have hB' : Hid (addB B E i = B) := by unfold Hid addB; rw [if_pos hE, List.append_nil]
    have hY' : Hid (addB Y E E = Y) := by unfold Hid addB; rw [if_pos hE, List.append_nil]
    generalize addB B E i = B' at *
    generalize addB Y E E = Y' at *
    clear hE
    replace hB := hide hB
    replace hY := hide hY
    go_enter Tryz.func54, Tryz.ntmps54
    go_upto_region 1 with fail
    obtain ⟨w6, hw6⟩ : ∃ x, x = (w).alloc (.cells [.int .i64 S.st, .int .i64 S.since, .string S.mat, .string S.job].toArray 105) := ⟨_, rfl⟩
    have hg6 : (w).grownBy w6 none := by rw [hw6]; exact gr_alloc (World.grownBy.refl _ _) _
    have hb6 : Box w6 (w).heap.size 105 [.int .i64 S.st, .int .i64 S.since, .string S.mat, .string S.job] := by rw [hw6]; exact Box.new _ _ _
    have hxs6 := hb6.lt
    rw [← hw6]
    clear hw6
    obtain ⟨x6, hx6⟩ : ∃ x, x = (w).heap.size := ⟨_, rfl⟩
    rw [← hx6] at hb6 hxs6 ⊢
    have hxl6 : (w).heap.size ≤ x6 := by omega
    clear hx6
    go_wp2_with fail
    go_end0
    exact ⟨rfl, ⟨A1, c1, A2, c2, by rw [hB'.out, hB.out]; exact h8.pure hg6, by rw [hY'.out, hY.out]; exact h9.pure hg6, by rw [hB'.out]; exact o1.pure hg6, by rw [hY'.out]; exact o2.pure hg6⟩, (GrS.refl _ w).pure hg6, KeepM.of hg6⟩
  · have hb : (E != 0) = true := by simp [hE]
    have hB' : Hid (addB B E i = B ++ [(i : Int)]) := by unfold Hid addB; rw [if_neg hE]
    have hY' : Hid (addB Y E E = Y ++ [E]) := by unfold Hid addB; rw [if_neg hE]
    have hB1 : Hid ((B ++ [(i : Int)]).length = nB + 1) := by rw [Hid, List.length_append, hB]; rfl
    have hY1 : Hid ((Y ++ [E]).length = nY + 1) := by rw [Hid, List.length_append, hY]; rfl
    generalize addB B E i = B' at *
    generalize addB Y E E = Y' at *
    have hne : x8 ≠ x9 := fun e => by rw [e] at h8; exact absurd (h8.1.uniq h9.1) (by decide)
    have hA1 : ∀ g, blk A1 = some g → lo ≤ g ∧ g < w.heap.size := fun g hg => o1.blk_lt hg
    have hA2 : ∀ g, blk A2 = some g → lo ≤ g ∧ g < w.heap.size := fun g hg => o2.blk_lt hg
    obtain ⟨i0, hi, hz9, hi1, hi2⟩ := info_parts info_int
    obtain ⟨j0, hj, hjz, hj1, hj2⟩ := info_parts info_err
    clear hE
    replace hB := hide hB
    replace hY := hide hY
    replace hi := hide hi
    replace hz9 := hide hz9
    replace hi1 := hide hi1
    replace hi2 := hide hi2
    replace hj := hide hj
    replace hjz := hide hjz
    replace hj1 := hide hj1
    replace hj2 := hide hj2
    go_enter Tryz.func54, Tryz.ntmps54
    go_upto_region 2 with fail
    obtain ⟨w6, hw6⟩ : ∃ x, x = (w).alloc (.cells [.int .i64 S.st, .int .i64 S.since, .string S.mat, .string S.job].toArray 105) := ⟨_, rfl⟩
    have hg6 : (w).grownBy w6 none := by rw [hw6]; exact gr_alloc (World.grownBy.refl _ _) _
    have hb6 : Box w6 (w).heap.size 105 [.int .i64 S.st, .int .i64 S.since, .string S.mat, .string S.job] := by rw [hw6]; exact Box.new _ _ _
    have hxs6 := hb6.lt
    rw [← hw6]
    clear hw6
    obtain ⟨x6, hx6⟩ : ∃ x, x = (w).heap.size := ⟨_, rfl⟩
    rw [← hx6] at hb6 hxs6 ⊢
    have hxl6 : (w).heap.size ≤ x6 := by omega
    clear hx6
    clear hxs6 hxl6 hb6
    refine wp_region_tree (fun wx => Box wx x8 22 [.slice A1 nB c1] ∧ Box wx x9 61 [.slice A2 nY c2]) [1, 2, 0, 0, 1, 2, 0, 0, 0, 0] (.bl 0 (.bl 1 (.bl 4 (.bl 5 (.alt (.ef 2 (.alt (.ef 3 (.ef 6 (.ef 7 (.ef 8 (.ef 9 .done))))) (.ef 6 (.ef 3 (.ef 7 (.ef 8 (.ef 9 .done))))))) (.ef 6 (.ef 2 (.ef 3 (.ef 7 (.ef 8 (.ef 9 .done))))))))))) (by kernel_rfl) (by kernel_rfl) (⟨h8.pure (hg6.t (gr_drew (World.grownBy.refl _ _))), h9.pure (hg6.t (gr_drew (World.grownBy.refl _ _)))⟩) ?_
    obtain ⟨u0, hu0⟩ : ∃ x, x = (w6).drew := ⟨_, rfl⟩
    rw [← hu0]
    have hgu0 : (w6).grownBy u0 none := by rw [hu0]; exact gr_drew (World.grownBy.refl _ _)
    clear hu0
    have hgu := hg6.t hgu0
    have s8 := h8.pure hgu
    have s9 := h9.pure hgu
    have p1 := o1.pure hgu
    have p2 := o2.pure hgu
    have hG := (GrS.refl (fun x => base ≤ x) w).pure hgu
    have hK : KeepM lo w u0 := KeepM.of hgu
    have hA1u : ∀ g, blk A1 = some g → g < u0.heap.size := fun g hg => (p1.blk_lt hg).2
    have hA2u : ∀ g, blk A2 = some g → g < u0.heap.size := fun g hg => (p2.blk_lt hg).2
    have hsu := hgu.size
    clear h8 h9 o1 o2 hgu
    refine tree_b rfl rfl rfl rfl _ rfl (by simp) (fun K hK => ?_)
    apply Exists.intro
    refine ⟨fun wq hq K' hK' => ?_, ?_⟩
    · obtain ⟨d8, -⟩ := hq.1.c 0 rfl
      obtain ⟨d9, -⟩ := hq.2.c 0 rfl
      go_wp2_with fail
      exact hK'
    go_simp
    refine hK _ ?_
    clear hK K
    refine tree_p rfl rfl rfl rfl _ rfl (by simp) (fun K hK => ?_)
    apply Exists.intro
    refine ⟨fun wq K' hK' => ?_, ?_⟩
    · go_wp2_with fail
      exact hK'
    go_simp
    refine hK _ ?_
    clear hK K
    refine tree_b rfl rfl rfl rfl _ rfl (by simp) (fun K hK => ?_)
    apply Exists.intro
    refine ⟨fun wq hq K' hK' => ?_, ?_⟩
    · obtain ⟨d8, -⟩ := hq.1.c 0 rfl
      obtain ⟨d9, -⟩ := hq.2.c 0 rfl
      go_wp2_with fail
      exact hK'
    go_simp
    refine hK _ ?_
    clear hK K
    refine tree_p rfl rfl rfl rfl _ rfl (by simp) (fun K hK => ?_)
    apply Exists.intro
    refine ⟨fun wq K' hK' => ?_, ?_⟩
    · go_wp2_with fail
      exact hK'
    go_simp
    refine hK _ ?_
    clear hK K
    refine tree_alt ?_ ?_
    · refine tree_e rfl rfl (fun K hK => ?_)
      go_wp2_with fail
      try go_simp
      refine hK _ _ (⟨s8.pure (gr_alloc (World.grownBy.refl _ _) _), s9.pure (gr_alloc (World.grownBy.refl _ _) _)⟩) ?_
      clear hK K
      obtain ⟨u2, hu2⟩ : ∃ x, x = (u0).alloc (.cells #[.int .i64 (i : Int)] 3) := ⟨_, rfl⟩
      have hg2a : (u0).grownBy u2 none := by rw [hu2]; exact gr_alloc (World.grownBy.refl _ _) _
      have hS2 : Sl u2 0 (some ⟨(u0).heap.size, 0, none⟩) [(i : Int)] := by rw [hu2]; exact sl_int1 _ _ _ _ rfl
      rw [← hu2]
      clear hu2
      replace s8 := s8.pure hg2a
      replace s9 := s9.pure hg2a
      replace p1 := p1.pure hg2a
      replace p2 := p2.pure hg2a
      replace hG := hG.pure hg2a
      replace hK := hK.trans (KeepM.of hg2a)
      have hsz2 := hg2a.size
      clear hg2a
      refine tree_alt ?_ ?_
      · refine tree_e rfl rfl (fun K hK => ?_)
        refine wp_pushAt (α := Int) _ (.tmp 10) (.tmp 12) _ rfl lo 3 i0 _ 8 Tryz.underlying22 hi.out hz9.out hi1.out hi2.out rfl _ _ _ B rfl hB.out.symm (by exact p1) 0 ⟨_, 0, none⟩ 1 1 [(i : Int)] rfl rfl (by exact hS2) ?c2 ?c3 ?c4 ?_
        case c2 => have h1 := hB.out; simp; omega
        case c3 => have h1 := hB.out; simp [maxLen]; omega
        case c4 => have h1 := hG.size; omega
        intro A1' c1' u3 q1 hG3
        rw [hB1.out]
        simp only [Act.put, List.setIfInBounds_toArray, List.set_cons_zero, List.set_cons_succ]
        try go_simp
        refine hK _ _ (⟨s8.gr hG3.1 (fun e => by have := (hA1 _ e).1; omega), s9.gr hG3.1 (fun e => by have := (hA1 _ e).1; omega)⟩) ?_
        clear hK K
        replace s8 := s8.gr hG3.1 (fun e => by have := (hA1 _ e).1; omega)
        replace s9 := s9.gr hG3.1 (fun e => by have := (hA1 _ e).1; omega)
        replace p2 := p2.ne hG3.1 (fun g e h => p1.ne_own p2 (by decide) h e)
        replace hG := hG.step hG3.1 (fun x e => .inl (by have := (hA1 _ e).1; omega))
        replace hK := hK.trans (KeepM.gr hG3.1 (fun x e => .inr ⟨_, p1.typ e, by decide⟩))
        have hsz3 := hG3.1.size
        clear hG3 p1 hS2
        refine tree_e rfl rfl (fun K hK => ?_)
        go_wp2_with fail
        try go_simp
        refine hK _ _ (⟨s8.pure (gr_alloc (World.grownBy.refl _ _) _), s9.pure (gr_alloc (World.grownBy.refl _ _) _)⟩) ?_
        clear hK K
        obtain ⟨u6, hu6⟩ : ∃ x, x = (u3).alloc (.cells #[.int .i64 E] 33) := ⟨_, rfl⟩
        have hg6a : (u3).grownBy u6 none := by rw [hu6]; exact gr_alloc (World.grownBy.refl _ _) _
        obtain ⟨z6, hz6⟩ : ∃ z, z = (u3).heap.size := ⟨_, rfl⟩
        have hS6 : Sl u6 z6 (some ⟨z6, 0, none⟩) [E] := by rw [hu6, hz6]; exact sl_intsAt _ _ _ _ _ rfl (Nat.le_refl _) (by simp [maxLen])
        rw [← hu6, ← hz6]
        have hzu : u0.heap.size ≤ z6 := by rw [hz6]; omega
        clear hu6 hz6
        replace s8 := s8.pure hg6a
        replace s9 := s9.pure hg6a
        replace q1 := q1.pure hg6a
        replace p2 := p2.pure hg6a
        replace hG := hG.pure hg6a
        replace hK := hK.trans (KeepM.of hg6a)
        have hsz6 := hg6a.size
        clear hg6a
        refine tree_e0 (by kernel_rfl) rfl rfl (fun K hK => ?_)
        refine wp_pushAt (α := Int) _ (.tmp 14) (.tmp 16) _ rfl lo 33 j0 _ 8 Tryz.underlying61 hj.out hjz.out hj1.out hj2.out rfl _ _ _ Y rfl hY.out.symm (by exact p2) _ ⟨_, 0, none⟩ 1 1 [E] rfl rfl (by exact hS6) ?c2 ?c3 ?c4 ?_
        case c2 => have h1 := hY.out; simp; omega
        case c3 => have h1 := hY.out; simp [maxLen]; omega
        case c4 => have h1 := hG.size; omega
        intro A2' c2' u7 q2 hG7
        rw [hY1.out]
        simp only [Act.put, List.setIfInBounds_toArray, List.set_cons_zero, List.set_cons_succ]
        try go_simp
        refine hK _ _ trivial ?_
        clear hK K
        replace s8 := s8.gr hG7.1 (fun e => by have := (hA2 _ e).1; omega)
        replace s9 := s9.gr hG7.1 (fun e => by have := (hA2 _ e).1; omega)
        replace q1 := q1.ne hG7.1 (fun g e h => p2.ne_own q1 (by decide) h e)
        replace hG := hG.step hG7.1 (fun x e => .inl (by have := (hA2 _ e).1; omega))
        replace hK := hK.trans (KeepM.gr hG7.1 (fun x e => .inr ⟨_, p2.typ e, by decide⟩))
        clear hG7 p2 hS6
        refine tree_e0 (by kernel_rfl) rfl rfl (fun K hK => ?_)
        obtain ⟨d8, f8⟩ := s8.c 0 rfl
        obtain ⟨d9, f9⟩ := s9.c 0 rfl
        go_wp2_with fail
        try go_simp
        refine hK _ _ trivial ?_
        clear hK K
        obtain ⟨u8, hu8⟩ : ∃ x, x = (u7).setCell ⟨x8, 0, none⟩ (.slice A1' (nB + 1) c1') := ⟨_, rfl⟩
        have hg8 : (u7).grownBy u8 (some x8) := by rw [hu8]; exact gr_set (World.grownBy.refl _ _) (.inl rfl) _
        have t8 : Box u8 x8 22 [.slice A1' (nB + 1) c1'] := by rw [hu8]; exact s8.set_ 0 _ (by simp)
        rw [← hu8]
        clear hu8 d8 d9 f8 f9
        replace s9 := s9.gr hg8 (fun e => hne (by injection e))
        replace q1 := q1.ne hg8 (fun g e h => s8.ne_own q1 (by decide) (by rw [e]; exact h.symm))
        replace q2 := q2.ne hg8 (fun g e h => s8.ne_own q2 (by decide) (by rw [e]; exact h.symm))
        replace hG := hG.step hg8 (fun x e => .inl (by injection e; omega))
        replace hK := hK.trans (KeepM.gr hg8 (fun x e => .inl (by injection e; omega)))
        clear hg8 s8
        refine tree_e0 (by kernel_rfl) rfl rfl (fun K hK => ?_)
        obtain ⟨d9, f9⟩ := s9.c 0 rfl
        go_wp2_with fail
        try go_simp
        refine hK _ _ trivial ?_
        clear hK K
        refine tree_done ?_
        have hg9 : (u8).grownBy ((u8).setCell ⟨x9, 0, none⟩ (.slice A2' (nY + 1) c2')) (some x9) := gr_set (World.grownBy.refl _ _) (.inl rfl) _
        have t9 := s9.set_ 0 (.slice A2' (nY + 1) c2') (by simp)
        replace t8 := t8.gr hg9 (fun e => hne (by injection e with e; exact e.symm))
        replace q1 := q1.ne hg9 (fun g e h => s9.ne_own q1 (by decide) (by rw [e]; exact h.symm))
        replace q2 := q2.ne hg9 (fun g e h => s9.ne_own q2 (by decide) (by rw [e]; exact h.symm))
        replace hG := hG.step hg9 (fun x e => .inl (by injection e; omega))
        replace hK := hK.trans (KeepM.gr hg9 (fun x e => .inl (by injection e; omega)))
        clear hg9 s9 d9 f9
        go_wp2_with fail
        go_end0
        exact ⟨rfl, ⟨A1', c1', A2', c2', by rw [hB'.out, hB1.out]; exact t8, by rw [hY'.out, hY1.out]; exact t9, by rw [hB'.out]; exact q1, by rw [hY'.out]; exact q2⟩, hG, hK⟩
      · refine tree_e rfl rfl (fun K hK => ?_)
        go_wp2_with fail
        try go_simp
        refine hK _ _ (⟨s8.pure (gr_alloc (World.grownBy.refl _ _) _), s9.pure (gr_alloc (World.grownBy.refl _ _) _)⟩) ?_
        clear hK K
        obtain ⟨u6, hu6⟩ : ∃ x, x = (u2).alloc (.cells #[.int .i64 E] 33) := ⟨_, rfl⟩
        have hg6a : (u2).grownBy u6 none := by rw [hu6]; exact gr_alloc (World.grownBy.refl _ _) _
        obtain ⟨z6, hz6⟩ : ∃ z, z = (u2).heap.size := ⟨_, rfl⟩
        have hS6 : Sl u6 z6 (some ⟨z6, 0, none⟩) [E] := by rw [hu6, hz6]; exact sl_intsAt _ _ _ _ _ rfl (Nat.le_refl _) (by simp [maxLen])
        rw [← hu6, ← hz6]
        have hzu : u0.heap.size ≤ z6 := by rw [hz6]; omega
        clear hu6 hz6
        replace s8 := s8.pure hg6a
        replace s9 := s9.pure hg6a
        replace p1 := p1.pure hg6a
        replace p2 := p2.pure hg6a
        replace hG := hG.pure hg6a
        replace hK := hK.trans (KeepM.of hg6a)
        replace hS2 := hS2.pure hg6a
        have hsz6 := hg6a.size
        clear hg6a
        refine tree_e rfl rfl (fun K hK => ?_)
        refine wp_pushAt (α := Int) _ (.tmp 10) (.tmp 12) _ rfl lo 3 i0 _ 8 Tryz.underlying22 hi.out hz9.out hi1.out hi2.out rfl _ _ _ B rfl hB.out.symm (by exact p1) 0 ⟨_, 0, none⟩ 1 1 [(i : Int)] rfl rfl (by exact hS2) ?c2 ?c3 ?c4 ?_
        case c2 => have h1 := hB.out; simp; omega
        case c3 => have h1 := hB.out; simp [maxLen]; omega
        case c4 => have h1 := hG.size; omega
        intro A1' c1' u3 q1 hG3
        rw [hB1.out]
        simp only [Act.put, List.setIfInBounds_toArray, List.set_cons_zero, List.set_cons_succ]
        try go_simp
        refine hK _ _ (⟨s8.gr hG3.1 (fun e => by have := (hA1 _ e).1; omega), s9.gr hG3.1 (fun e => by have := (hA1 _ e).1; omega)⟩) ?_
        clear hK K
        replace s8 := s8.gr hG3.1 (fun e => by have := (hA1 _ e).1; omega)
        replace s9 := s9.gr hG3.1 (fun e => by have := (hA1 _ e).1; omega)
        replace p2 := p2.ne hG3.1 (fun g e h => p1.ne_own p2 (by decide) h e)
        replace hG := hG.step hG3.1 (fun x e => .inl (by have := (hA1 _ e).1; omega))
        replace hK := hK.trans (KeepM.gr hG3.1 (fun x e => .inr ⟨_, p1.typ e, by decide⟩))
        replace hS6 := hS6.gr hG3.1 (fun x e => by have := hA1u _ e; omega)
        have hsz3 := hG3.1.size
        clear hG3 p1 hS2
        refine tree_e0 (by kernel_rfl) rfl rfl (fun K hK => ?_)
        refine wp_pushAt (α := Int) _ (.tmp 14) (.tmp 16) _ rfl lo 33 j0 _ 8 Tryz.underlying61 hj.out hjz.out hj1.out hj2.out rfl _ _ _ Y rfl hY.out.symm (by exact p2) _ ⟨_, 0, none⟩ 1 1 [E] rfl rfl (by exact hS6) ?c2 ?c3 ?c4 ?_
        case c2 => have h1 := hY.out; simp; omega
        case c3 => have h1 := hY.out; simp [maxLen]; omega
        case c4 => have h1 := hG.size; omega
        intro A2' c2' u7 q2 hG7
        rw [hY1.out]
        simp only [Act.put, List.setIfInBounds_toArray, List.set_cons_zero, List.set_cons_succ]
        try go_simp
        refine hK _ _ trivial ?_
        clear hK K
        replace s8 := s8.gr hG7.1 (fun e => by have := (hA2 _ e).1; omega)
        replace s9 := s9.gr hG7.1 (fun e => by have := (hA2 _ e).1; omega)
        replace q1 := q1.ne hG7.1 (fun g e h => p2.ne_own q1 (by decide) h e)
        replace hG := hG.step hG7.1 (fun x e => .inl (by have := (hA2 _ e).1; omega))
        replace hK := hK.trans (KeepM.gr hG7.1 (fun x e => .inr ⟨_, p2.typ e, by decide⟩))
        clear hG7 p2 hS6
        refine tree_e0 (by kernel_rfl) rfl rfl (fun K hK => ?_)
        obtain ⟨d8, f8⟩ := s8.c 0 rfl
        obtain ⟨d9, f9⟩ := s9.c 0 rfl
        go_wp2_with fail
        try go_simp
        refine hK _ _ trivial ?_
        clear hK K
        obtain ⟨u8, hu8⟩ : ∃ x, x = (u7).setCell ⟨x8, 0, none⟩ (.slice A1' (nB + 1) c1') := ⟨_, rfl⟩
        have hg8 : (u7).grownBy u8 (some x8) := by rw [hu8]; exact gr_set (World.grownBy.refl _ _) (.inl rfl) _
        have t8 : Box u8 x8 22 [.slice A1' (nB + 1) c1'] := by rw [hu8]; exact s8.set_ 0 _ (by simp)
        rw [← hu8]
        clear hu8 d8 d9 f8 f9
        replace s9 := s9.gr hg8 (fun e => hne (by injection e))
        replace q1 := q1.ne hg8 (fun g e h => s8.ne_own q1 (by decide) (by rw [e]; exact h.symm))
        replace q2 := q2.ne hg8 (fun g e h => s8.ne_own q2 (by decide) (by rw [e]; exact h.symm))
        replace hG := hG.step hg8 (fun x e => .inl (by injection e; omega))
        replace hK := hK.trans (KeepM.gr hg8 (fun x e => .inl (by injection e; omega)))
        clear hg8 s8
        refine tree_e0 (by kernel_rfl) rfl rfl (fun K hK => ?_)
        obtain ⟨d9, f9⟩ := s9.c 0 rfl
        go_wp2_with fail
        try go_simp
        refine hK _ _ trivial ?_
        clear hK K
        refine tree_done ?_
        have hg9 : (u8).grownBy ((u8).setCell ⟨x9, 0, none⟩ (.slice A2' (nY + 1) c2')) (some x9) := gr_set (World.grownBy.refl _ _) (.inl rfl) _
        have t9 := s9.set_ 0 (.slice A2' (nY + 1) c2') (by simp)
        replace t8 := t8.gr hg9 (fun e => hne (by injection e with e; exact e.symm))
        replace q1 := q1.ne hg9 (fun g e h => s9.ne_own q1 (by decide) (by rw [e]; exact h.symm))
        replace q2 := q2.ne hg9 (fun g e h => s9.ne_own q2 (by decide) (by rw [e]; exact h.symm))
        replace hG := hG.step hg9 (fun x e => .inl (by injection e; omega))
        replace hK := hK.trans (KeepM.gr hg9 (fun x e => .inl (by injection e; omega)))
        clear hg9 s9 d9 f9
        go_wp2_with fail
        go_end0
        exact ⟨rfl, ⟨A1', c1', A2', c2', by rw [hB'.out, hB1.out]; exact t8, by rw [hY'.out, hY1.out]; exact t9, by rw [hB'.out]; exact q1, by rw [hY'.out]; exact q2⟩, hG, hK⟩
    · refine tree_e rfl rfl (fun K hK => ?_)
      go_wp2_with fail
      try go_simp
      refine hK _ _ (⟨s8.pure (gr_alloc (World.grownBy.refl _ _) _), s9.pure (gr_alloc (World.grownBy.refl _ _) _)⟩) ?_
      clear hK K
      obtain ⟨u6, hu6⟩ : ∃ x, x = (u0).alloc (.cells #[.int .i64 E] 33) := ⟨_, rfl⟩
      have hg6a : (u0).grownBy u6 none := by rw [hu6]; exact gr_alloc (World.grownBy.refl _ _) _
      obtain ⟨z6, hz6⟩ : ∃ z, z = (u0).heap.size := ⟨_, rfl⟩
      have hS6 : Sl u6 z6 (some ⟨z6, 0, none⟩) [E] := by rw [hu6, hz6]; exact sl_intsAt _ _ _ _ _ rfl (Nat.le_refl _) (by simp [maxLen])
      rw [← hu6, ← hz6]
      have hzu : u0.heap.size ≤ z6 := by rw [hz6]; omega
      clear hu6 hz6
      replace s8 := s8.pure hg6a
      replace s9 := s9.pure hg6a
      replace p1 := p1.pure hg6a
      replace p2 := p2.pure hg6a
      replace hG := hG.pure hg6a
      replace hK := hK.trans (KeepM.of hg6a)
      have hsz6 := hg6a.size
      clear hg6a
      refine tree_e rfl rfl (fun K hK => ?_)
      go_wp2_with fail
      try go_simp
      refine hK _ _ (⟨s8.pure (gr_alloc (World.grownBy.refl _ _) _), s9.pure (gr_alloc (World.grownBy.refl _ _) _)⟩) ?_
      clear hK K
      obtain ⟨u2, hu2⟩ : ∃ x, x = (u6).alloc (.cells #[.int .i64 (i : Int)] 3) := ⟨_, rfl⟩
      have hg2a : (u6).grownBy u2 none := by rw [hu2]; exact gr_alloc (World.grownBy.refl _ _) _
      have hS2 : Sl u2 0 (some ⟨(u6).heap.size, 0, none⟩) [(i : Int)] := by rw [hu2]; exact sl_int1 _ _ _ _ rfl
      rw [← hu2]
      clear hu2
      replace s8 := s8.pure hg2a
      replace s9 := s9.pure hg2a
      replace p1 := p1.pure hg2a
      replace p2 := p2.pure hg2a
      replace hG := hG.pure hg2a
      replace hK := hK.trans (KeepM.of hg2a)
      replace hS6 := hS6.pure hg2a
      have hsz2 := hg2a.size
      clear hg2a
      refine tree_e rfl rfl (fun K hK => ?_)
      refine wp_pushAt (α := Int) _ (.tmp 10) (.tmp 12) _ rfl lo 3 i0 _ 8 Tryz.underlying22 hi.out hz9.out hi1.out hi2.out rfl _ _ _ B rfl hB.out.symm (by exact p1) 0 ⟨_, 0, none⟩ 1 1 [(i : Int)] rfl rfl (by exact hS2) ?c2 ?c3 ?c4 ?_
      case c2 => have h1 := hB.out; simp; omega
      case c3 => have h1 := hB.out; simp [maxLen]; omega
      case c4 => have h1 := hG.size; omega
      intro A1' c1' u3 q1 hG3
      rw [hB1.out]
      simp only [Act.put, List.setIfInBounds_toArray, List.set_cons_zero, List.set_cons_succ]
      try go_simp
      refine hK _ _ (⟨s8.gr hG3.1 (fun e => by have := (hA1 _ e).1; omega), s9.gr hG3.1 (fun e => by have := (hA1 _ e).1; omega)⟩) ?_
      clear hK K
      replace s8 := s8.gr hG3.1 (fun e => by have := (hA1 _ e).1; omega)
      replace s9 := s9.gr hG3.1 (fun e => by have := (hA1 _ e).1; omega)
      replace p2 := p2.ne hG3.1 (fun g e h => p1.ne_own p2 (by decide) h e)
      replace hG := hG.step hG3.1 (fun x e => .inl (by have := (hA1 _ e).1; omega))
      replace hK := hK.trans (KeepM.gr hG3.1 (fun x e => .inr ⟨_, p1.typ e, by decide⟩))
      replace hS6 := hS6.gr hG3.1 (fun x e => by have := hA1u _ e; omega)
      have hsz3 := hG3.1.size
      clear hG3 p1 hS2
      refine tree_e0 (by kernel_rfl) rfl rfl (fun K hK => ?_)
      refine wp_pushAt (α := Int) _ (.tmp 14) (.tmp 16) _ rfl lo 33 j0 _ 8 Tryz.underlying61 hj.out hjz.out hj1.out hj2.out rfl _ _ _ Y rfl hY.out.symm (by exact p2) _ ⟨_, 0, none⟩ 1 1 [E] rfl rfl (by exact hS6) ?c2 ?c3 ?c4 ?_
      case c2 => have h1 := hY.out; simp; omega
      case c3 => have h1 := hY.out; simp [maxLen]; omega
      case c4 => have h1 := hG.size; omega
      intro A2' c2' u7 q2 hG7
      rw [hY1.out]
      simp only [Act.put, List.setIfInBounds_toArray, List.set_cons_zero, List.set_cons_succ]
      try go_simp
      refine hK _ _ trivial ?_
      clear hK K
      replace s8 := s8.gr hG7.1 (fun e => by have := (hA2 _ e).1; omega)
      replace s9 := s9.gr hG7.1 (fun e => by have := (hA2 _ e).1; omega)
      replace q1 := q1.ne hG7.1 (fun g e h => p2.ne_own q1 (by decide) h e)
      replace hG := hG.step hG7.1 (fun x e => .inl (by have := (hA2 _ e).1; omega))
      replace hK := hK.trans (KeepM.gr hG7.1 (fun x e => .inr ⟨_, p2.typ e, by decide⟩))
      clear hG7 p2 hS6
      refine tree_e0 (by kernel_rfl) rfl rfl (fun K hK => ?_)
      obtain ⟨d8, f8⟩ := s8.c 0 rfl
      obtain ⟨d9, f9⟩ := s9.c 0 rfl
      go_wp2_with fail
      try go_simp
      refine hK _ _ trivial ?_
      clear hK K
      obtain ⟨u8, hu8⟩ : ∃ x, x = (u7).setCell ⟨x8, 0, none⟩ (.slice A1' (nB + 1) c1') := ⟨_, rfl⟩
      have hg8 : (u7).grownBy u8 (some x8) := by rw [hu8]; exact gr_set (World.grownBy.refl _ _) (.inl rfl) _
      have t8 : Box u8 x8 22 [.slice A1' (nB + 1) c1'] := by rw [hu8]; exact s8.set_ 0 _ (by simp)
      rw [← hu8]
      clear hu8 d8 d9 f8 f9
      replace s9 := s9.gr hg8 (fun e => hne (by injection e))
      replace q1 := q1.ne hg8 (fun g e h => s8.ne_own q1 (by decide) (by rw [e]; exact h.symm))
      replace q2 := q2.ne hg8 (fun g e h => s8.ne_own q2 (by decide) (by rw [e]; exact h.symm))
      replace hG := hG.step hg8 (fun x e => .inl (by injection e; omega))
      replace hK := hK.trans (KeepM.gr hg8 (fun x e => .inl (by injection e; omega)))
      clear hg8 s8
      refine tree_e0 (by kernel_rfl) rfl rfl (fun K hK => ?_)
      obtain ⟨d9, f9⟩ := s9.c 0 rfl
      go_wp2_with fail
      try go_simp
      refine hK _ _ trivial ?_
      clear hK K
      refine tree_done ?_
      have hg9 : (u8).grownBy ((u8).setCell ⟨x9, 0, none⟩ (.slice A2' (nY + 1) c2')) (some x9) := gr_set (World.grownBy.refl _ _) (.inl rfl) _
      have t9 := s9.set_ 0 (.slice A2' (nY + 1) c2') (by simp)
      replace t8 := t8.gr hg9 (fun e => hne (by injection e with e; exact e.symm))
      replace q1 := q1.ne hg9 (fun g e h => s9.ne_own q1 (by decide) (by rw [e]; exact h.symm))
      replace q2 := q2.ne hg9 (fun g e h => s9.ne_own q2 (by decide) (by rw [e]; exact h.symm))
      replace hG := hG.step hg9 (fun x e => .inl (by injection e; omega))
      replace hK := hK.trans (KeepM.gr hg9 (fun x e => .inl (by injection e; omega)))
      clear hg9 s9 d9 f9
      go_wp2_with fail
      go_end0
      exact ⟨rfl, ⟨A1', c1', A2', c2', by rw [hB'.out, hB1.out]; exact t8, by rw [hY'.out, hY1.out]; exact t9, by rw [hB'.out]; exact q1, by rw [hY'.out]; exact q2⟩, hG, hK⟩

end Go.Proofs.YtanioobepfllgaaGreatDoor

/- Contracts of functions that this seat's laws reach, each: what one call returns and what it leaves in memory; no condition beyond each theorem's own hypotheses. -/
import Derived.Test.YtbpkkgeedkegcaaGreatDoorZqMeshCB
import Derived.Test.YtbpkkgeedkegcaaGreatDoorZqGpLib
set_option linter.unusedVariables false
set_option linter.unusedSimpArgs false
namespace Go.Proofs.YtbpkkgeedkegcaaGreatDoor
open Go.RowKit Go.Bl

/-- the used vertices among the first k -/
def keepTo (vs : List V3) (U : List Bool) : Nat → List V3
  | 0 => []
  | k + 1 => keepTo vs U k ++ (if U.getD k false then [vs.getD k default] else [])

theorem keepTo_len (vs : List V3) (U : List Bool) (k : Nat) : (keepTo vs U k).length ≤ k := by
  induction k with
  | zero => simp [keepTo]
  | succ k ih => unfold keepTo; rw [List.length_append]; split <;> simp <;> omega

theorem keepTo_yes {vs : List V3} {U : List Bool} {k : Nat} (hv : k < vs.length) (hu : k < U.length) (h : U[k] = true) : keepTo vs U (k + 1) = keepTo vs U k ++ [vs[k]] := by
  conv => lhs; unfold keepTo
  rw [List.getD_eq_getElem?_getD, List.getElem?_eq_getElem hu, Option.getD_some, if_pos h, List.getD_eq_getElem?_getD, List.getElem?_eq_getElem hv, Option.getD_some]

theorem keepTo_no {vs : List V3} {U : List Bool} {k : Nat} (hu : k < U.length) (h : U[k] = false) : keepTo vs U (k + 1) = keepTo vs U k := by
  conv => lhs; unfold keepTo
  rw [List.getD_eq_getElem?_getD, List.getElem?_eq_getElem hu, Option.getD_some, if_neg (by rw [h]; simp), List.append_nil]
/-- the new number of a vertex -/
def rkI (vs : List V3) (U : List Bool) (i : Nat) : Int := (keepTo vs U i).length

def renum (vs : List V3) (U : List Bool) (f : Fc) : Fc := ⟨rkI vs U f.a.toNat, rkI vs U f.b.toNat, rkI vs U f.c.toNat⟩
/-- a mesh without the vertices that no face has -/
def trimM (m : MeshV) : MeshV := ⟨keepTo m.vs (useL m.vs.length m.fs) m.vs.length, m.fs.map (renum m.vs (useL m.vs.length m.fs))⟩
/-- the numbers that are set, behind k rounds -/
def numTo (vs : List V3) (U : List Bool) : Nat → List Int
  | 0 => List.replicate vs.length 0
  | k + 1 => if U.getD k false then (numTo vs U k).set k (rkI vs U k) else numTo vs U k

theorem numTo_len (vs : List V3) (U : List Bool) (k : Nat) : (numTo vs U k).length = vs.length := by
  induction k with
  | zero => simp [numTo]
  | succ k ih => unfold numTo; split <;> simp [ih]

theorem numTo_at {vs : List V3} {U : List Bool} : ∀ {k i : Nat} (hi : i < k) (hv : i < (numTo vs U k).length) (hu : U.getD i false = true), (numTo vs U k)[i] = rkI vs U i
  | 0, i, hi, _, _ => by omega
  | k + 1, i, hi, hv, hu => by
    by_cases h : U.getD k false = true
    · have e : numTo vs U (k + 1) = (numTo vs U k).set k (rkI vs U k) := by conv => lhs; unfold numTo; rw [if_pos h]
      simp only [e]
      rw [List.getElem_set]
      by_cases hk : k = i
      · subst hk; simp
      · rw [if_neg hk]; exact numTo_at (by omega) _ hu
    · have e : numTo vs U (k + 1) = numTo vs U k := by conv => lhs; unfold numTo; rw [if_neg h]
      simp only [e]
      have : i ≠ k := by rintro rfl; exact h hu
      exact numTo_at (by omega) _ hu

theorem numTo_yes {vs : List V3} {U : List Bool} {k : Nat} (hu : k < U.length) (h : U[k] = true) : numTo vs U (k + 1) = (numTo vs U k).set k (rkI vs U k) := by
  conv => lhs; unfold numTo
  rw [List.getD_eq_getElem?_getD, List.getElem?_eq_getElem hu, Option.getD_some, if_pos h]

theorem numTo_no {vs : List V3} {U : List Bool} {k : Nat} (hu : k < U.length) (h : U[k] = false) : numTo vs U (k + 1) = numTo vs U k := by
  conv => lhs; unfold numTo
  rw [List.getD_eq_getElem?_getD, List.getElem?_eq_getElem hu, Option.getD_some, if_neg (by rw [h]; simp)]

end Go.Proofs.YtbpkkgeedkegcaaGreatDoor

namespace Go.Proofs.YtbpkkgeedkegcaaGreatDoor
open Go Go.RowKit Go.Bl

theorem keepTo_mem (vs : List V3) (U : List Bool) : ∀ k, k ≤ vs.length → ∀ v, v ∈ keepTo vs U k ↔ ∃ i, ∃ (h : i < vs.length), i < k ∧ U.getD i false = true ∧ vs[i] = v
  | 0, _, v => by simp [keepTo]
  | k + 1, hk, v => by
    unfold keepTo
    rw [List.mem_append, keepTo_mem vs U k (by omega) v]
    by_cases hu : U.getD k false = true
    · rw [if_pos hu]
      simp only [List.getD_eq_getElem?_getD, List.getElem?_eq_getElem (show k < vs.length by omega), Option.getD_some, List.mem_singleton]
      constructor
      · rintro (⟨i, h, h1, h2, h3⟩ | rfl)
        · exact ⟨i, h, by omega, by simpa [List.getD_eq_getElem?_getD] using h2, h3⟩
        · exact ⟨k, by omega, by omega, by simpa [List.getD_eq_getElem?_getD] using hu, rfl⟩
      · rintro ⟨i, h, h1, h2, h3⟩
        by_cases e : i = k
        · subst e; exact .inr h3.symm
        · exact .inl ⟨i, h, by omega, by simpa [List.getD_eq_getElem?_getD] using h2, h3⟩
    · rw [if_neg hu]
      simp only [List.not_mem_nil, or_false]
      constructor
      · rintro ⟨i, h, h1, h2, h3⟩; exact ⟨i, h, by omega, h2, h3⟩
      · rintro ⟨i, h, h1, h2, h3⟩
        have : i ≠ k := by rintro rfl; exact hu h2
        exact ⟨i, h, by omega, h2, h3⟩

theorem keepTo_get (vs : List V3) (U : List Bool) : ∀ n, n ≤ vs.length → ∀ i, i < n → U.getD i false = true → ∃ (h : (keepTo vs U i).length < (keepTo vs U n).length) (h2 : i < vs.length), (keepTo vs U n)[(keepTo vs U i).length] = vs[i]
  | 0, _, i, hi, _ => by omega
  | n + 1, hn, i, hi, hu => by
    have hL : keepTo vs U (n + 1) = keepTo vs U n ++ (if U.getD n false then [vs.getD n default] else []) := rfl
    by_cases e : i = n
    · subst e
      rw [if_pos hu] at hL
      have hl : (keepTo vs U i).length < (keepTo vs U (i + 1)).length := by rw [hL]; simp
      refine ⟨hl, by omega, ?_⟩
      simp only [hL]
      rw [List.getElem_append_right (Nat.le_refl _)]
      simp only [Nat.sub_self, List.getElem_cons_zero, List.getD_eq_getElem?_getD, List.getElem?_eq_getElem (show i < vs.length by omega), Option.getD_some]
    · obtain ⟨h, h2, h3⟩ := keepTo_get vs U n (by omega) i (by omega) hu
      have hl : (keepTo vs U i).length < (keepTo vs U (n + 1)).length := by rw [hL, List.length_append]; omega
      refine ⟨hl, h2, ?_⟩
      simp only [hL]
      rw [List.getElem_append_left h]; exact h3

theorem keepTo_sur (vs : List V3) (U : List Bool) : ∀ n, ∀ j, j < (keepTo vs U n).length → ∃ i, i < n ∧ U.getD i false = true ∧ (keepTo vs U i).length = j
  | 0, j, hj => by simp [keepTo] at hj
  | n + 1, j, hj => by
    have hL : keepTo vs U (n + 1) = keepTo vs U n ++ (if U.getD n false then [vs.getD n default] else []) := rfl
    by_cases h : j < (keepTo vs U n).length
    · obtain ⟨i, h1, h2, h3⟩ := keepTo_sur vs U n j h
      exact ⟨i, by omega, h2, h3⟩
    · rw [hL] at hj
      by_cases hu : U.getD n false = true
      · rw [if_pos hu] at hj
        simp at hj
        exact ⟨n, by omega, hu, by omega⟩
      · rw [if_neg hu] at hj
        simp at hj
        omega

end Go.Proofs.YtbpkkgeedkegcaaGreatDoor

namespace Go.Proofs.YtbpkkgeedkegcaaGreatDoor
open Go.RowKit Go.Bl

theorem useL_hit {n : Nat} {fs : List Fc} {f : Fc} (hf : f ∈ fs) {i : Nat} (hi : i < n) (h : f.a = i ∨ f.b = i ∨ f.c = i) : (useL n fs).getD i false = true := by
  have hl := useL_len n fs
  rw [List.getD_eq_getElem?_getD, List.getElem?_eq_getElem (by omega), Option.getD_some, useL_at, List.any_eq_true]
  exact ⟨f, hf, by rcases h with h | h | h <;> simp [hasI, h]⟩

theorem num_hit {vs : List V3} {fs : List Fc} {f : Fc} (hf : f ∈ fs) {i : Nat} (hi : i < vs.length) (h : f.a = i ∨ f.b = i ∨ f.c = i) (hl : i < (numTo vs (useL vs.length fs) vs.length).length) : (numTo vs (useL vs.length fs) vs.length)[i] = rkI vs (useL vs.length fs) i :=
  numTo_at hi hl (useL_hit hf hi h)
/-- what stands while trimmed gathers -/
def TrR (Wa : World) (gm gu gn n : Nat) (U : List Bool) (NL : List Int) (wx : World) : Prop :=
  Wa.grownBy wx none ∧ Cell wx gm 1 (.slice none 0 0) ∧ Own wx 0 4 (some ⟨gu, 0, none⟩) n U ∧ Own wx 0 3 (some ⟨gn, 0, none⟩) n NL

theorem TrR.ok {Wa : World} {gm gu gn n lo : Nat} {U : List Bool} {NL : List Int} {Aq : Option Addr} (h1 : Wa.heap.size ≤ gm) (h2 : gm < lo) (h3 : gu < lo) (h4 : gn < lo) (h5 : gu ≠ gm) (h6 : gn ≠ gm) (hA : ∀ g, blk Aq = some g → lo ≤ g) : GpR (TrR Wa gm gu gn n U NL) gm 0 Aq where
  pure := fun w w' ⟨a, b, c, d⟩ hg => ⟨gr_trans a hg, b.gr hg (by simp), c.pure hg, d.pure hg⟩
  app := fun w w' A5 ⟨a, b, c, d⟩ hG => by
    refine ⟨gr_row a hG.1 (fun g e => by have := hA g e; omega), b.gr hG.1 (fun e => by have := hA _ e; omega), c.ne hG.1 (fun g e1 e2 => ?_), d.ne hG.1 (fun g e1 e2 => ?_)⟩
    · simp only [blk, Option.map_some, Option.some.injEq] at e1; have := hA g e2; omega
    · simp only [blk, Option.map_some, Option.some.injEq] at e1; have := hA g e2; omega
  set := fun w v ⟨a, b, c, d⟩ => by
    have hg := gr_set (World.grownBy.refl w (some gm)) (p := ⟨gm, 0, none⟩) (.inl rfl) v
    refine ⟨gr_set a (.inr h1) v, b.set_ne _ (by decide), c.ne hg (fun g e1 e2 => ?_), d.ne hg (fun g e1 e2 => ?_)⟩
    · simp only [blk, Option.map_some, Option.some.injEq] at e1; injection e2; omega
    · simp only [blk, Option.map_some, Option.some.injEq] at e1; injection e2; omega

/-- what stands while trimmed's faces are gathered -/
def TrF (Wa : World) (gm gn lo gb : Nat) (Av : Option Addr) (cv n : Nat) (V : List V3) (NL : List Int) (x y z : Value) (wx : World) : Prop :=
  Wa.grownBy wx none ∧ Cell wx gm 0 (.slice Av V.length cv) ∧ Own wx lo 47 Av cv V ∧ Own wx 0 3 (some ⟨gn, 0, none⟩) n NL ∧ Cell wx gb 0 x ∧ Cell wx gb 1 y ∧ Cell wx gb 2 z

theorem TrF.ok {Wa : World} {gm gn n lo lo3 gb cv : Nat} {Av Bq : Option Addr} {V : List V3} {NL : List Int} {x y z : Value} (h1 : Wa.heap.size ≤ gm) (h2 : gm < lo) (h4 : gn < lo) (h6 : gn ≠ gm) (h7 : lo3 ≤ gb) (h8 : lo ≤ lo3) (hV : ∀ g, blk Av = some g → g < lo3) (hA : ∀ g, blk Bq = some g → lo3 ≤ g ∧ g < gb) : GpR (TrF Wa gm gn lo gb Av cv n V NL x y z) gm 1 Bq where
  pure := fun w w' ⟨a, b, c, d, e0, e1, e2⟩ hg => ⟨gr_trans a hg, b.gr hg (by simp), c.pure hg, d.pure hg, e0.gr hg (by simp), e1.gr hg (by simp), e2.gr hg (by simp)⟩
  app := fun w w' A5 ⟨a, b, c, d, e0, e1, e2⟩ hG => by
    have hb : blk Bq ≠ some gb := fun e => by have := hA _ e; omega
    refine ⟨gr_row a hG.1 (fun g e => by have := hA g e; omega), b.gr hG.1 (fun e => by have := hA _ e; omega), c.ne hG.1 (fun g e1 e2 => ?_), d.ne hG.1 (fun g e1 e2 => ?_), e0.gr hG.1 hb, e1.gr hG.1 hb, e2.gr hG.1 hb⟩
    · have := hA g e2; have := hV g e1; omega
    · simp only [blk, Option.map_some, Option.some.injEq] at e1; have := hA g e2; omega
  set := fun w v ⟨a, b, c, d, e0, e1, e2⟩ => by
    have hg := gr_set (World.grownBy.refl w (some gm)) (p := ⟨gm, 1, none⟩) (.inl rfl) v
    have hb : some gm ≠ some gb := fun e => by injection e; omega
    refine ⟨gr_set a (.inr h1) v, b.set_ne _ (by decide), c.ne hg (fun g e1 e2 => ?_), d.ne hg (fun g e1 e2 => ?_), e0.gr hg hb, e1.gr hg hb, e2.gr hg hb⟩
    · have := (c.blk_lt e1).1; injection e2; omega
    · simp only [blk, Option.map_some, Option.some.injEq] at e1; injection e2; omega

set_option maxHeartbeats 4000000 in
set_option maxRecDepth 100000 in
theorem trimmed_any (A : Option Addr) (c : Nat) (vs : List V3) (B : Option Addr) (d : Nat) (fs : List Fc) (w : World) (hl : Sl w 0 A vs) (hfs : Sl w 0 B fs) (hin : ∀ f ∈ fs, inF vs.length f = true) (hvl : vs.length ≤ 1000) (hfl : fs.length ≤ 2000) :
    Calls Tryz.prog 33 #[.agg #[.slice A vs.length c, .slice B fs.length d]] w fun e w' => ∃ A' c' B' d', e = .returned (.agg #[.slice A' (trimM ⟨vs, fs⟩).vs.length c', .slice B' (trimM ⟨vs, fs⟩).fs.length d']) ∧ Own w' w.heap.size 47 A' c' (trimM ⟨vs, fs⟩).vs ∧ Own w' w.heap.size 54 B' d' (trimM ⟨vs, fs⟩).fs ∧ w.grownBy w' none := by
  obtain ⟨Wa, hWa⟩ : ∃ Wa, Wa = (w.alloc (.cells #[.slice A vs.length c, .slice B fs.length d] 29)).alloc (.cells #[.slice none 0 0, .slice none 0 0] 29) := ⟨_, rfl⟩
  obtain ⟨W, hW⟩ : ∃ W, W = Wa.alloc (.cells #[.slice none 0 0, .slice none 0 0] 29) := ⟨_, rfl⟩
  have hlt0 : w.heap.size < w.heap.size + 1 := Nat.lt_succ_self _
  have hWas : Wa.heap.size = w.heap.size + 1 + 1 := by rw [hWa]; simp
  have hWs : W.heap.size = w.heap.size + 1 + 1 + 1 := by rw [hW]; simp [hWas]
  have hga : w.grownBy Wa none := by rw [hWa]; exact (by repeat (first | exact World.grownBy.refl _ _ | assumption | refine gr_alloc ?_ _ | (apply gr_tail; assumption) | refine gr_drewN ?_ _ | refine gr_drew ?_))
  have haW : Wa.grownBy W none := by rw [hW]; exact gr_alloc (World.grownBy.refl _ _) _
  have b0 : Wa.cell? ⟨w.heap.size, 0, none⟩ = some (.slice A vs.length c) := by rw [hWa]; go_simp
  have b1 : Wa.cell? ⟨w.heap.size, 1, none⟩ = some (.slice B fs.length d) := by rw [hWa]; go_simp
  have q0 : Cell Wa (w.heap.size + 1) 0 (.slice none 0 0) := by rw [hWa]; exact ⟨by go_simp, by go_simp⟩
  have q1 : Cell Wa (w.heap.size + 1) 1 (.slice none 0 0) := by rw [hWa]; exact ⟨by go_simp, by go_simp⟩
  have m0 : Cell W (w.heap.size + 1 + 1) 0 (.slice none 0 0) := by rw [hW]; exact Cell.new Wa [.slice none 0 0, .slice none 0 0] 29 0 _ rfl _ hWas.symm
  have m1 : Cell W (w.heap.size + 1 + 1) 1 (.slice none 0 0) := by rw [hW]; exact Cell.new Wa [.slice none 0 0, .slice none 0 0] 29 1 _ rfl _ hWas.symm
  rw [hWa] at hW
  replace hW := hide hW.symm
  clear hWa
  obtain ⟨i0, hi, hz, h1, h2⟩ := info_parts info_int
  obtain ⟨w1, hrun, hown, hg1⟩ := run_makeOwn (P := Tryz.prog) W 22 3 i0 _ (0 : Int) Tryz.underlying22 hi hz h1 rfl rfl .i64 .i64 vs.length (by rw [h2]; omega) (by simp [maxLen]; omega)
  clear hi hz h1 h2
  replace hin := hide hin
  replace hWs := hide hWs
  replace hWas := hide hWas
  replace hrun := hide hrun
  go_enter Tryz.func33, Tryz.ntmps33
  have c0 := hg1.k (haW.k b0)
  have c1 := hg1.k (haW.k b1)
  have hfs1 := (hfs.pure hga).pure (gr_trans haW hg1)
  go_wp2_with fail
  rw [hW.out, hrun.out]
  go_wp2_with fail
  refine (usedGo_any A c vs.length B d fs w1 hfs1 hin.out hvl hfl).mono ?_
  rintro e w2 ⟨gu, rfl, hU, hg2⟩
  go_wp2_with fail
  have hulen := useL_len vs.length fs
  obtain ⟨U, hUd⟩ : ∃ U, U = useL vs.length fs := ⟨_, rfl⟩
  rw [← hUd] at hU hulen
  replace hUd := hide hUd
  have gN : ∃ gn, gn = W.heap.size := ⟨_, rfl⟩
  obtain ⟨gn, hgn⟩ := gN
  rw [← hgn] at hown ⊢
  have hgWw : Wa.grownBy w2 none := gr_trans haW (gr_trans hg1 hg2)
  replace m0 := (m0.gr hg1 (by simp)).gr hg2 (by simp)
  replace m1 := (m1.gr hg1 (by simp)).gr hg2 (by simp)
  have hnumO : Own w2 0 3 (some ⟨gn, 0, none⟩) vs.length (numTo vs U 0) := (hown.pure hg2).lower (Nat.zero_le _)
  have hUo : Own w2 0 4 (some ⟨gu, 0, none⟩) vs.length U := hU.lower (Nat.zero_le _)
  have hgnlt : gn < w1.heap.size := (hown.blk_lt (g := gn) rfl).2
  have hguge := hU.blk_lt (g := gu) rfl
  have hgnge : w.heap.size + 1 + 1 < gn := by have := hWs.out; omega
  clear hown hU hrun hW c0 c1 hfs1
  obtain ⟨gm, hgm⟩ : ∃ gm, gm = w.heap.size + 1 + 1 := ⟨_, rfl⟩
  rw [← hgm] at m0 m1 hgnge ⊢
  obtain ⟨lo, hlo2⟩ : ∃ lo, lo = w2.heap.size := ⟨_, rfl⟩
  have hgulo : gu < lo := by omega
  have hgnlo : gn < lo := by have := hg2.size; omega
  have hgmlo : gm < lo := by omega
  have hgum : gu ≠ gm := by omega
  have hgnm : gn ≠ gm := by omega
  have hgun : gu ≠ gn := by omega
  have hWam : Wa.heap.size ≤ gm := by have := hWas.out; omega
  replace hulen := hide hulen
  go_loopw [17] (fun i wr => ∃ (k : Nat) (Aq : Option Addr) (cq : Nat), k ≤ vs.length ∧ i = .int .i64 k ∧ Own wr lo 47 Aq cq (keepTo vs U k) ∧ Cell wr gm 0 (.slice Aq (keepTo vs U k).length cq) ∧ TrR Wa gm gu gn vs.length U (numTo vs U k) wr ∧ lo ≤ wr.heap.size) (fun i _ => vs.length - (intOf i).toNat)
  case atStart => exact ⟨0, none, 0, by omega, rfl, Own.nil _ _ _, m0, ⟨hgWw, m1, hUo, hnumO⟩, by omega⟩
  case round =>
    obtain ⟨k, Aq, cq, hk, rfl, hown, n0, hT, hlw⟩ := hrel
    clear m0 m1 hUo hnumO
    by_cases hlt : k < vs.length
    · have hku : k < U.length := by rw [hulen.out]; exact hlt
      have u0 := hT.2.2.1.cell_bool hku
      have hkl := keepTo_len vs U k
      cases hub : U[k] with
      | false =>
        have e1 := hide (keepTo_no (vs := vs) hku hub)
        have e2 := hide (numTo_no (vs := vs) hku hub)
        rw [hub] at u0
        clear hub
        go_wp2_with fail
        (go_roundw; (case rel => exact ⟨k + 1, Aq, cq, by omega, by go_num, by rw [e1.out]; exact hown, by rw [e1.out]; exact n0, by rw [e2.out]; exact hT, hlw⟩); (case measure => simp [intOf]; omega))
      | true =>
        have e1 := hide (keepTo_yes hlt hku hub)
        have e2 := hide (numTo_yes (vs := vs) hku hub)
        rw [hub] at u0
        clear hub
        have hkn : k < (numTo vs U k).length := by rw [numTo_len]; exact hlt
        have s0 := hT.2.2.2.cell_int hkn
        have sf := hT.2.2.2.frozen k
        have hn0 := hide n0
        obtain ⟨v0, -⟩ := n0
        rw [hgm] at v0
        rw [hgn] at s0 sf
        have hgn2 : gn < wr.heap.size := by omega
        have hgm2 : gm < wr.heap.size := by omega
        have hTh := hide hT
        have hltN := hlt
        go_upto_region 8 with fail
        rw [← hgn, ← hgm]
        have hgs := gr_set (World.grownBy.refl wr (some gn)) (p := ⟨gn, k, none⟩) (.inl rfl) (.int .i64 (rkI vs U k))
        have hT := hTh.out
        have hT2 : TrR Wa gm gu gn vs.length U (numTo vs U (k + 1)) (wr.setCell ⟨gn, k, none⟩ (.int .i64 (rkI vs U k))) :=
          ⟨gr_set hT.1 (.inr (by simp only; omega)) _, hT.2.1.gr hgs (fun e => by injection e; omega), hT.2.2.1.ne hgs (fun g e1 e2 => by simp only [blk, Option.map_some, Option.some.injEq] at e1; injection e2; omega), by rw [e2.out]; exact hT.2.2.2.set_int k _⟩
        have hown2 := hown.ne hgs (fun g e1 e2 => by have := (hown.blk_lt e1).1; injection e2; omega)
        have n02 := hn0.out.gr hgs (fun e => by injection e; omega)
        have hqA0 : ∀ g, blk Aq = some g → lo ≤ g ∧ g < wr.heap.size := fun g e => hown.blk_lt e
        have hszs : (wr.setCell ⟨gn, k, none⟩ (.int .i64 (rkI vs U k))).heap.size = wr.heap.size := heap_set _ _ _
        clear hown hT hTh hn0 v0 s0 sf u0 hgs
        unfold rkI at *
        generalize (wr.setCell ⟨gn, k, none⟩ (.int .i64 ((keepTo vs U k).length : Int))) = wv at *
        obtain ⟨gv, ov, rfl, -, -, -⟩ := hl.v3 (by omega)
        have hrd0 : ∀ wx, TrR Wa gm gu gn vs.length U (numTo vs U (k + 1)) wx → wx.cell? ⟨w.heap.size, 0, none⟩ = some (.slice (some ⟨gv, ov, none⟩) vs.length c) ∧ wx.cell? ⟨gv, ov + k * 3, none⟩ = some (.int .i64 vs[k].x) ∧ wx.cell? ⟨gv, ov + k * 3 + 1, none⟩ = some (.int .i64 vs[k].y) ∧ wx.cell? ⟨gv, ov + k * 3 + 2, none⟩ = some (.int .i64 vs[k].z) := fun wx hx => by
          obtain ⟨g', o', e, -, -, hcc⟩ := (hl.pure (gr_trans hga hx.1)).v3 (by omega)
          cases e
          exact ⟨hx.1.k b0, hcc k hlt⟩
        have hR0 := TrR.ok (Wa := Wa) (U := U) (n := vs.length) (NL := numTo vs U (k + 1)) (Aq := Aq) hWam hgmlo hgulo hgnlo hgum hgnm (fun g e => (hqA0 g e).1)
        obtain ⟨R, hRd⟩ : ∃ R, R = TrR Wa gm gu gn vs.length U (numTo vs U (k + 1)) := ⟨_, rfl⟩
        rw [← hRd] at hR0 hT2
        simp only [← hRd] at hrd0
        obtain ⟨n1, hn1⟩ : ∃ n1, n1 = (keepTo vs U k).length := ⟨_, rfl⟩
        rw [← hn1] at n02 ⊢
        obtain ⟨lq, hlq⟩ : ∃ lq, lq = keepTo vs U k := ⟨_, rfl⟩
        rw [← hlq] at hown2 hn1 e1 hkl
        obtain ⟨gx, hgx⟩ : ∃ gx, gx = w.heap.size := ⟨_, rfl⟩
        rw [← hgx] at hrd0 ⊢
        obtain ⟨nv, hnv⟩ : ∃ nv, nv = vs.length := ⟨_, rfl⟩
        simp only [← hnv] at hrd0 ⊢
        obtain ⟨ii, hii⟩ : ∃ ii, ii = k := ⟨_, rfl⟩
        obtain ⟨cv, hcv⟩ : ∃ cv, cv = c := ⟨_, rfl⟩
        obtain ⟨uq, huq⟩ : ∃ uq, uq = vs[k] := ⟨_, rfl⟩
        rw [← huq] at hrd0 e1
        simp only [← hii, ← hcv] at hrd0 ⊢
        rw [← hii, ← hnv] at hltN
        obtain ⟨lo2, hlo2d⟩ : ∃ lo2, lo2 = wr.heap.size := ⟨_, rfl⟩
        have hqA : ∀ g, blk Aq = some g → g < lo2 := fun g e => by have := hqA0 g e; omega
        have hlo := hgmlo
        have hq1 : lq.length = n1 := hn1.symm
        have hn1000 : n1 ≤ 1000 := by omega
        have hlolo2 : lo ≤ lo2 := by omega
        have hgmlo2 : gm < lo2 := by omega
        have hI0 : ∀ m : Nat → Bool, m 10 = false → GpI V3 8 10 47 gm 0 lo lo2 n1 cq Aq lq uq R m 0 wv.drew := fun m hm => by
          have hd := gr_drew (World.grownBy.refl wv none)
          exact ⟨hR0.pure _ _ hT2 hd, by show lo2 ≤ wv.heap.size; omega, fun _ => hown2.pure hd, fun _ => n02.gr hd (by simp), fun h => by rw [hm] at h; cases h⟩
        have hrd := hide hrd0
        have hR := hR0
        clear hrd0 hR0 hown2 n02 hT2 hqA0 hszs
        replace hI0 := hide hI0
        replace hq1 := hide hq1
        replace hnv := hide hnv
        replace hii := hide hii
        replace hcv := hide hcv
        replace hgx := hide hgx
        replace hgm := hide hgm
        replace hgn := hide hgn
        replace hlq := hide hlq
        replace hRd := hide hRd
        replace huq := hide huq
        replace hn1 := hide hn1
        replace hlo2d := hide hlo2d
        refine wp_region_minvF (GpI V3 8 10 47 gm 0 lo lo2 n1 cq Aq lq uq R) (fun m => Wrt (fun g => g = gm ∨ (m 8 = false ∧ lo ≤ g ∧ g < lo2))) [VIs (.pointer (some ⟨gm, 0, none⟩)), VIs (.slice Aq n1 cq), VIs (.pointer (some ⟨gx, 0, none⟩)), VIs (.slice (some ⟨gv, ov, none⟩) nv cv), VIs (.int .i64 ii), VIs (.pointer (some ⟨gv, ov + ii * 3, none⟩)), VIs (.agg #[.int .i64 uq.x, .int .i64 uq.y, .int .i64 uq.z]), VOneG V3 lo2 uq, VGp V3 47 lo n1 lq uq, VIs (.pointer (some ⟨gm, 0, none⟩)), (fun _ _ => True)] [0, 0, 0, 0, 0, 0, 0, 0, 0, 0, 0] (by kernel_rfl) (by kernel_rfl) (by intro vs; simp only [putAll, Act.put, List.setIfInBounds_toArray, List.set_cons_zero, List.set_cons_succ, Nat.reduceAdd]; exact rfl) ?iv0 ?iv1 rfl ?iv2 ?iv3
        case iv1 => exact Stab.ok ⟨fun m v w w' _ _ h => h, fun m v w w' _ _ h => h, fun m v w w' _ _ h => h, fun m v w w' _ _ h => h, fun m v w w' _ _ h => h, fun m v w w' _ _ h => h, fun m v w w' _ _ h => h, fun m v w w' _ hw h => h.stab hw (fun g h => by rcases h with h | ⟨_, h1, h2⟩ <;> omega), fun m v w w' hm hw h => h.stab hw (fun g h => by rcases h with h | ⟨h, _⟩ <;> first | omega | (rw [show m 8 = true from hm] at h; cases h)), fun m v w w' _ _ h => h, fun m v w w' _ _ h => h, trivial⟩
        case iv2 =>
          refine MOpsF.op (fun vs wx m k hmj hcl hI hk hf K hK => ?_) ?_
          · clear hf hcl
            replace hK := hide hK
            replace hI := hide hI
            go_wp2_with fail
            replace hK := hK.out (.pointer (some ⟨gm, 0, none⟩))
            simp only [Act.put, List.setIfInBounds_toArray, List.set_cons_zero, List.set_cons_succ, Nat.add_zero] at hK
            exact hK _ ((hI.out.same (by decide) (by decide))) (Wrt.pure (World.grownBy.refl _ _)) (rfl)
          refine MOpsF.op (fun vs wx m k hmj hcl hI hk hf K hK => ?_) ?_
          · have e0 : vs 0 = .pointer (some ⟨gm, 0, none⟩) := hf 0 (by decide) (by kernel_rfl)
            clear hf
            have h10 : m 10 = false := by
              cases hq : m 10 with
              | false => rfl
              | true => exact absurd (hcl 10 1 (by decide) (by decide) hq (by kernel_rfl)) (by rw [show m 1 = false from hmj]; simp)
            have c := (hI.2.2.2.1 h10).1
            clear hcl h10
            replace hK := hide hK
            replace hI := hide hI
            rw [e0]
            replace e0 := hide e0
            go_wp2_with fail
            replace hK := hK.out (.slice Aq n1 cq)
            simp only [Act.put, List.setIfInBounds_toArray, List.set_cons_zero, List.set_cons_succ, e0.out, Nat.add_zero] at hK
            exact hK _ ((hI.out.same (by decide) (by decide))) (Wrt.pure (World.grownBy.refl _ _)) (rfl)
          refine MOpsF.op (fun vs wx m k hmj hcl hI hk hf K hK => ?_) ?_
          · clear hf hcl
            replace hK := hide hK
            replace hI := hide hI
            go_wp2_with fail
            replace hK := hK.out (.pointer (some ⟨gx, 0, none⟩))
            simp only [Act.put, List.setIfInBounds_toArray, List.set_cons_zero, List.set_cons_succ, Nat.add_zero] at hK
            exact hK _ ((hI.out.same (by decide) (by decide))) (Wrt.pure (World.grownBy.refl _ _)) (rfl)
          refine MOpsF.op (fun vs wx m k hmj hcl hI hk hf K hK => ?_) ?_
          · have e2 : vs 2 = .pointer (some ⟨gx, 0, none⟩) := hf 2 (by decide) (by kernel_rfl)
            clear hf hcl
            obtain ⟨c, -⟩ := hrd.out wx hI.1
            replace hK := hide hK
            replace hI := hide hI
            rw [e2]
            replace e2 := hide e2
            go_wp2_with fail
            replace hK := hK.out (.slice (some ⟨gv, ov, none⟩) nv cv)
            simp only [Act.put, List.setIfInBounds_toArray, List.set_cons_zero, List.set_cons_succ, e2.out, Nat.add_zero] at hK
            exact hK _ ((hI.out.same (by decide) (by decide))) (Wrt.pure (World.grownBy.refl _ _)) (rfl)
          refine MOpsF.op (fun vs wx m k hmj hcl hI hk hf K hK => ?_) ?_
          · clear hf hcl
            replace hK := hide hK
            replace hI := hide hI
            go_wp2_with fail
            replace hK := hK.out (.int .i64 ii)
            simp only [Act.put, List.setIfInBounds_toArray, List.set_cons_zero, List.set_cons_succ, Nat.add_zero] at hK
            exact hK _ ((hI.out.same (by decide) (by decide))) (Wrt.pure (World.grownBy.refl _ _)) (rfl)
          refine MOpsF.op (fun vs wx m k hmj hcl hI hk hf K hK => ?_) ?_
          · have e3 : vs 3 = .slice (some ⟨gv, ov, none⟩) nv cv := hf 3 (by decide) (by kernel_rfl)
            have e4 : vs 4 = .int .i64 ii := hf 4 (by decide) (by kernel_rfl)
            clear hf hcl
            replace hK := hide hK
            replace hI := hide hI
            rw [e3, e4]
            replace e3 := hide e3
            replace e4 := hide e4
            go_wp2_with fail
            replace hK := hK.out (.pointer (some ⟨gv, ov + ii * 3, none⟩))
            simp only [Act.put, List.setIfInBounds_toArray, List.set_cons_zero, List.set_cons_succ, e3.out, e4.out, Nat.add_zero] at hK
            exact hK _ ((hI.out.same (by decide) (by decide))) (Wrt.pure (World.grownBy.refl _ _)) (rfl)
          refine MOpsF.op (fun vs wx m k hmj hcl hI hk hf K hK => ?_) ?_
          · have e5 : vs 5 = .pointer (some ⟨gv, ov + ii * 3, none⟩) := hf 5 (by decide) (by kernel_rfl)
            clear hf hcl
            obtain ⟨-, q0, q1, q2⟩ := hrd.out wx hI.1
            replace hK := hide hK
            replace hI := hide hI
            rw [e5]
            replace e5 := hide e5
            go_wp2_with fail
            replace hK := hK.out (.agg #[.int .i64 uq.x, .int .i64 uq.y, .int .i64 uq.z])
            simp only [Act.put, List.setIfInBounds_toArray, List.set_cons_zero, List.set_cons_succ, e5.out, Nat.add_zero] at hK
            exact hK _ ((hI.out.same (by decide) (by decide))) (Wrt.pure (World.grownBy.refl _ _)) (rfl)
          refine MOpsF.op (fun vs wx m k hmj hcl hI hk hf K hK => ?_) ?_
          · have e6 : vs 6 = .agg #[.int .i64 uq.x, .int .i64 uq.y, .int .i64 uq.z] := hf 6 (by decide) (by kernel_rfl)
            clear hf hcl
            replace hK := hide hK
            replace hI := hide hI
            rw [e6]
            replace e6 := hide e6
            go_wp2_with fail
            replace hK := hK.out (.slice (some ⟨wx.heap.size, 0, none⟩) 1 1)
            simp only [Act.put, List.setIfInBounds_toArray, List.set_cons_zero, List.set_cons_succ, e6.out, Nat.add_zero] at hK
            exact hK _ (((hI.out.same (by decide) (by decide)).pure hR (gr_alloc (World.grownBy.refl _ _) _))) (Wrt.pure (gr_alloc (World.grownBy.refl _ _) _)) (⟨wx.heap.size, rfl, sl_oneAt _ _ _ _ _ _ rfl hI.out.2.1 rfl⟩)
          refine MOpsF.op (fun vs wx m k hmj hcl hI hk hf K hK => ?_) ?_
          · have e1 : vs 1 = .slice Aq n1 cq := hf 1 (by decide) (by kernel_rfl)
            obtain ⟨g7, e7, hsl⟩ := hf 7 (by decide) (by kernel_rfl)
            clear hf
            have h10 : m 10 = false := by
              cases hq : m 10 with
              | false => rfl
              | true => exact absurd (hcl 10 8 (by decide) (by decide) hq (by kernel_rfl)) (by rw [show m 8 = false from hmj]; simp)
            have hown := hI.2.2.1 hmj
            obtain ⟨i0, hi, hz, h1, h2⟩ := info_parts info_v3
            replace hK := hide hK
            replace hI := hide hI
            rw [e1, e7]
            replace e1 := hide e1
            replace e7 := hide e7
            refine wp_pushAt (α := V3) _ (.tmp 30) (.tmp 36) _ rfl lo 47 i0 _ 24 Tryz.underlying26 hi hz h1 h2 rfl _ _ _ lq rfl ?_ hown lo2 ⟨g7, 0, none⟩ 1 1 [uq] rfl ?_ hsl ?_ ?_ ?_ ?_
            · exact hq1.out.symm
            · rfl
            · have := hq1.out; simp; omega
            · have := hq1.out; simp [maxLen]; omega
            · have := hI.out.2.1; omega
            intro A5 c5 w5 hown5 hG5
            simp only [Act.put, List.setIfInBounds_toArray, List.set_cons_zero, List.set_cons_succ]
            replace hK := hK.out (.slice A5 (lq ++ [uq]).length c5)
            simp only [Act.put, List.setIfInBounds_toArray, List.set_cons_zero, List.set_cons_succ, e1.out, e7.out, Nat.add_zero] at hK
            exact hK _ ((hI.out.app hR hlo (by decide) h10 hG5 hown)) (⟨_, hG5.1, fun g e => .inr ⟨hmj, (hown.blk_lt e).1, hqA g e⟩⟩) (⟨A5, c5, by rw [List.length_append, hq1.out]; rfl, hown5⟩)
          refine MOpsF.op (fun vs wx m k hmj hcl hI hk hf K hK => ?_) ?_
          · clear hf hcl
            replace hK := hide hK
            replace hI := hide hI
            go_wp2_with fail
            replace hK := hK.out (.pointer (some ⟨gm, 0, none⟩))
            simp only [Act.put, List.setIfInBounds_toArray, List.set_cons_zero, List.set_cons_succ, Nat.add_zero] at hK
            exact hK _ ((hI.out.same (by decide) (by decide))) (Wrt.pure (World.grownBy.refl _ _)) (rfl)
          refine MOpsF.op (fun vs wx m k hmj hcl hI hk hf K hK => ?_) ?_
          · have e9 : vs 9 = .pointer (some ⟨gm, 0, none⟩) := hf 9 (by decide) (by kernel_rfl)
            obtain ⟨A8, c8, e8, ho8⟩ := hf 8 (by decide) (by kernel_rfl)
            clear hf hcl
            have c := hI.2.2.2.1 hmj
            obtain ⟨c, fz⟩ := c
            have hgs := gr_set (World.grownBy.refl wx (some gm)) (p := ⟨gm, 0, none⟩) (.inl rfl) (.slice A8 (n1 + 1) c8)
            replace hgs := hide hgs
            replace ho8 := hide ho8
            replace hK := hide hK
            replace hI := hide hI
            rw [e9, e8]
            replace e9 := hide e9
            replace e8 := hide e8
            go_wp2_with fail
            replace hK := hK.out (undef)
            simp only [Act.put, List.setIfInBounds_toArray, List.set_cons_zero, List.set_cons_succ, e9.out, e8.out, Nat.add_zero] at hK
            exact hK _ ((hI.out.fin hR hlo (by decide) ⟨c, fz⟩ ho8.out)) (Wrt.one hgs.out (.inl rfl)) (trivial)
          exact MOpsF.done
        case iv0 => exact fun m hm => hI0.out m (hm 10 (by decide))
        case iv3 =>
          intro vs' w9 m hm' hI hf
          have e10 := hm' 10 (by decide)
          obtain ⟨k1, k2, -, -, k5⟩ := hI
          obtain ⟨A9, c9, n9, o9⟩ := k5 e10
          clear hf hm' hI0 e10
          replace hlo := hide hlo
          rw [hRd.out] at k1
          obtain rfl := hnv.out
          obtain rfl := hgx.out
          obtain rfl := hgm.out
          obtain rfl := hii.out
          obtain rfl := hcv.out
          obtain rfl := hn1.out
          obtain rfl := hgn.out
          go_wp2_with fail
          (go_roundw; (case rel => exact ⟨ii + 1, A9, c9, by omega, by go_num, by rw [e1.out]; exact o9, by rw [e1.out, List.length_append]; exact n9, k1, by omega⟩); (case measure => simp [intOf]; omega))
    · have hkn : k = vs.length := by omega
      subst hkn
      have hg0 := hT.1
      have fb1 := hg0.k b1
      obtain ⟨-, n1, -, hnum⟩ := hT
      go_upto_if 44 with fail
      have hlw2 := hlw
      obtain ⟨wc, rfl⟩ : ∃ x, x = wr := ⟨wr, rfl⟩
      obtain ⟨Av, rfl⟩ : ∃ x, x = Aq := ⟨Aq, rfl⟩
      obtain ⟨cv, rfl⟩ : ∃ x, x = cq := ⟨cq, rfl⟩
      have hV2 : ∀ g, blk Av = some g → g < wc.heap.size := fun g e => (hown.blk_lt e).2
      clear hlt hlw
      obtain ⟨V, hV⟩ : ∃ V, V = keepTo vs U vs.length := ⟨_, rfl⟩
      rw [← hV] at hown n0
      obtain ⟨NL, hNL⟩ : ∃ NL, NL = numTo vs U vs.length := ⟨_, rfl⟩
      rw [← hNL] at hnum
      have hnl : NL.length = vs.length := by rw [hNL]; exact numTo_len _ _ _
      replace hV := hide hV
      replace hNL := hide hNL
      replace hnl := hide hnl
      go_loopw [43] (fun i wr => ∃ (k : Nat) (Aq : Option Addr) (cq : Nat), k ≤ fs.length ∧ i = .int .i64 k ∧ Own wr wc.heap.size 54 Aq cq ((fs.take k).map (renum vs U)) ∧ Cell wr (gm) 1 (.slice Aq k cq) ∧ Wa.grownBy wr none ∧ Cell wr (gm) 0 (.slice Av V.length cv) ∧ Own wr lo 47 Av cv V ∧ Own wr 0 3 (some ⟨gn, 0, none⟩) vs.length NL ∧ wc.heap.size ≤ wr.heap.size) (fun i _ => fs.length - (intOf i).toNat)
      case atStart => exact ⟨0, none, 0, by omega, rfl, Own.nil _ _ _, n1, hg0, n0, hown, hnum, by omega⟩
      case round =>
        clear n1 hg0 n0 hown hnum
        obtain ⟨k, Aq, cq, hk, rfl, fown, f1, hgr, f0, vown, hnum, hlw⟩ := hrel
        by_cases hlt : k < fs.length
        · obtain ⟨g, o, rfl, -, hbg, hcc⟩ := (hfs.pure (gr_trans hga hgr)).fc (by omega)
          obtain ⟨x0, x1, x2⟩ := hcc k hlt
          clear hcc
          have hmem := List.getElem_mem hlt
          have hfi := inF_bd (hin.out _ hmem)
          obtain ⟨ia, eia⟩ := Int.eq_ofNat_of_zero_le hfi.1.1
          obtain ⟨ib, eib⟩ := Int.eq_ofNat_of_zero_le hfi.2.1.1
          obtain ⟨ic, eic⟩ := Int.eq_ofNat_of_zero_le hfi.2.2.1
          have hia : ia < vs.length := by omega
          have hib : ib < vs.length := by omega
          have hic : ic < vs.length := by omega
          have y0 := hnum.cell_int (j := ia) (by have := hnl.out; omega)
          have y1 := hnum.cell_int (j := ib) (by have := hnl.out; omega)
          have y2 := hnum.cell_int (j := ic) (by have := hnl.out; omega)
          have he : (fs.take (k + 1)).map (renum vs U) = (fs.take k).map (renum vs U) ++ [(⟨rkI vs U ia, rkI vs U ib, rkI vs U ic⟩ : Fc)] := by
            rw [take_snoc hlt, List.map_append, List.map_singleton]
            unfold renum
            rw [eia, eib, eic]
            simp
          have eN : ∀ i (hi : i < vs.length) (hl : i < NL.length), (fs[k].a = i ∨ fs[k].b = i ∨ fs[k].c = i) → NL[i] = rkI vs U i := fun i hi hl h => by
            have e1 := hNL.out
            have e2 := hUd.out
            subst e2
            subst e1
            exact num_hit hmem hi h hl
          rw [eN ia hia _ (.inl eia)] at y0
          rw [eN ib hib _ (.inr (.inl eib))] at y1
          rw [eN ic hic _ (.inr (.inr eic))] at y2
          clear eN
          rw [eia] at x0
          rw [eib] at x1
          rw [eic] at x2
          replace he := hide he
          clear hfi eia eib eic hmem
          replace fown := hide fown
          replace vown := hide vown
          go_upto_region 13 with fail
          have hal := gr_alloc (r := none) (World.grownBy.refl wr none) (.cells #[.int .i64 ia, .int .i64 ib, .int .i64 ic] 54)
          have z0 := Cell.new wr [.int .i64 ia, .int .i64 ib, .int .i64 ic] 54 0 _ rfl _ rfl
          have z1 := Cell.new wr [.int .i64 ia, .int .i64 ib, .int .i64 ic] 54 1 _ rfl _ rfl
          have z2 := Cell.new wr [.int .i64 ia, .int .i64 ib, .int .i64 ic] 54 2 _ rfl _ rfl
          simp only [List.toArray] at z0 z1 z2
          have hsa : (wr.alloc (.cells #[.int .i64 ia, .int .i64 ib, .int .i64 ic] 54)).heap.size = wr.heap.size + 1 := by simp
          have hA2 : ∀ g, blk Aq = some g → wc.heap.size ≤ g ∧ g < wr.heap.size := fun g e => fown.out.blk_lt e
          have hT2 : TrF Wa gm gn lo wr.heap.size Av cv vs.length V NL (.int .i64 ia) (.int .i64 ib) (.int .i64 ic) (wr.alloc (.cells #[.int .i64 ia, .int .i64 ib, .int .i64 ic] 54)) :=
            ⟨gr_trans hgr hal, f0.gr hal (by simp), vown.out.pure hal, hnum.pure hal, z0, z1, z2⟩
          have f12 := f1.gr hal (by simp)
          have fown2 := fown.out.pure hal
          have hR := TrF.ok (Wa := Wa) (gm := gm) (gn := gn) (n := vs.length) (lo := lo) (lo3 := wc.heap.size) (gb := wr.heap.size) (cv := cv) (Av := Av) (Bq := Aq) (V := V) (NL := NL) (x := .int .i64 ia) (y := .int .i64 ib) (z := .int .i64 ic) hWam hgmlo hgnlo hgnm hlw hlw2 hV2 hA2
          have hn3 : NL[ia]'(by have := hnl.out; omega) = rkI vs U ia ∧ True := ⟨by have a := hnum.cell_int (j := ia) (by have := hnl.out; omega); rw [y0] at a; injection a with a; injection a with _ a; exact a.symm, trivial⟩
          have hn4 : NL[ib]'(by have := hnl.out; omega) = rkI vs U ib ∧ True := ⟨by have a := hnum.cell_int (j := ib) (by have := hnl.out; omega); rw [y1] at a; injection a with a; injection a with _ a; exact a.symm, trivial⟩
          have hn5 : NL[ic]'(by have := hnl.out; omega) = rkI vs U ic ∧ True := ⟨by have a := hnum.cell_int (j := ic) (by have := hnl.out; omega); rw [y2] at a; injection a with a; injection a with _ a; exact a.symm, trivial⟩
          obtain ⟨R, hRd⟩ : ∃ R, R = TrF Wa gm gn lo wr.heap.size Av cv vs.length V NL (.int .i64 ia) (.int .i64 ib) (.int .i64 ic) := ⟨_, rfl⟩
          obtain ⟨gb, hgb⟩ : ∃ gb, gb = wr.heap.size := ⟨_, rfl⟩
          obtain ⟨uq, huq⟩ : ∃ uq : Fc, uq = ⟨rkI vs U ia, rkI vs U ib, rkI vs U ic⟩ := ⟨_, rfl⟩
          have hrd : ∀ wx, R wx → wx.cell? ⟨gb, 0, none⟩ = some (.int .i64 (ia : Nat)) ∧ wx.cell? ⟨gb, 1, none⟩ = some (.int .i64 (ib : Nat)) ∧ wx.cell? ⟨gb, 2, none⟩ = some (.int .i64 (ic : Nat)) ∧ wx.cell? ⟨gn, ia, none⟩ = some (.int .i64 uq.a) ∧ wx.cell? ⟨gn, ib, none⟩ = some (.int .i64 uq.b) ∧ wx.cell? ⟨gn, ic, none⟩ = some (.int .i64 uq.c) := fun wx hx => by
            rw [hRd] at hx
            obtain ⟨-, -, -, p3, p4, p5, p6⟩ := hx
            rw [hgb, huq]
            exact ⟨p4.1, p5.1, p6.1, by rw [p3.cell_int (j := ia) (by have := hnl.out; omega), hn3.1], by rw [p3.cell_int (j := ib) (by have := hnl.out; omega), hn4.1], by rw [p3.cell_int (j := ic) (by have := hnl.out; omega), hn5.1]⟩
          rw [← hRd] at hR hT2
          rw [← huq] at he
          have hlenq : ((fs.take k).map (renum vs U)).length = k := by rw [List.length_map, List.length_take]; omega
          obtain ⟨lq, hlq⟩ : ∃ lq, lq = (fs.take k).map (renum vs U) := ⟨_, rfl⟩
          rw [← hlq] at fown2 hlenq he
          obtain ⟨n1, hn1⟩ : ∃ n1, n1 = k := ⟨_, rfl⟩
          obtain ⟨nn, hnn⟩ : ∃ nn, nn = vs.length := ⟨_, rfl⟩
          obtain ⟨lo3, hlo3⟩ : ∃ lo3, lo3 = wc.heap.size := ⟨_, rfl⟩
          simp only [← hn1] at f12 hlenq
          rw [← hlo3] at fown2
          obtain ⟨lo2, hlo2d⟩ : ∃ lo2, lo2 = gb := ⟨_, rfl⟩
          have hqA : ∀ g, blk Aq = some g → g < lo2 := fun g e => by have := hA2 g e; omega
          have hlo : gm < lo3 := by omega
          have hq1 : lq.length = n1 := hlenq
          have hn1000 : n1 ≤ 2000 := by omega
          have hlolo2 : lo3 ≤ lo2 := by omega
          have hgmlo2 : gm < lo2 := by omega
          have hia2 : ia < nn := by omega
          have hib2 : ib < nn := by omega
          have hic2 : ic < nn := by omega
          have fown3 := fown2
          clear fown x0 x1 x2 y0 y1 y2 hbg z0 z1 z2 hn3 hn4 hn5 f0 f1 vown hnum hgr fown2 hal hA2
          rw [← hgb]
          generalize (wr.alloc (.cells #[.int .i64 ia, .int .i64 ib, .int .i64 ic] 54)) = wv at *
          have hI0 : ∀ m : Nat → Bool, m 21 = false → GpI Fc 19 21 54 gm 1 lo3 lo2 n1 cq Aq lq uq R m 0 wv.drew := fun m hm => by
            have hd := gr_drew (World.grownBy.refl wv none)
            exact ⟨hR.pure _ _ hT2 hd, by show lo2 ≤ wv.heap.size; omega, fun _ => fown3.pure hd, fun _ => f12.gr hd (by simp), fun h => by rw [hm] at h; cases h⟩
          rw [← hnn]
          clear fown3 f12 hT2
          have hlo4 : gm < lo3 := hlo
          clear hlo hlo2
          obtain ⟨lo0, rfl⟩ : ∃ x, x = lo := ⟨lo, rfl⟩
          obtain ⟨lo, hlo5⟩ : ∃ x, x = lo3 := ⟨lo3, rfl⟩
          rw [← hlo5] at hlo4 hlolo2
          simp only [← hlo5] at hI0
          have hlo := hlo4
          replace hI0 := hide hI0
          replace hrd := hide hrd
          replace hq1 := hide hq1
          replace hgb := hide hgb
          replace hn1 := hide hn1
          replace hlq := hide hlq
          replace huq := hide huq
          replace hRd := hide hRd
          replace hlo2d := hide hlo2d
          replace hlo3 := hide hlo3
          replace hlo5 := hide hlo5
          replace hnn := hide hnn
          replace hgm := hide hgm
          replace hgn := hide hgn
          replace hlenq := hide hlenq
          refine wp_region_minvF (GpI Fc 19 21 54 gm 1 lo lo2 n1 cq Aq lq uq R) (fun m => Wrt (fun g => g = gm ∨ (m 19 = false ∧ lo ≤ g ∧ g < lo2))) [VIs (.pointer (some ⟨gm, 1, none⟩)), VIs (.slice Aq n1 cq), VIs (.slice (some ⟨gn, 0, none⟩) nn nn), VIs (.pointer (some ⟨gb, 0, none⟩)), VIs (.int .i64 (ia : Nat)), VIs (.pointer (some ⟨gn, ia, none⟩)), VIs (.int .i64 uq.a), VIs (.slice (some ⟨gn, 0, none⟩) nn nn), VIs (.pointer (some ⟨gb, 1, none⟩)), VIs (.int .i64 (ib : Nat)), VIs (.pointer (some ⟨gn, ib, none⟩)), VIs (.int .i64 uq.b), VIs (.slice (some ⟨gn, 0, none⟩) nn nn), VIs (.pointer (some ⟨gb, 2, none⟩)), VIs (.int .i64 (ic : Nat)), VIs (.pointer (some ⟨gn, ic, none⟩)), VIs (.int .i64 uq.c), VIs (.agg #[.int .i64 uq.a, .int .i64 uq.b, .int .i64 uq.c]), VOneG Fc lo2 uq, VGp Fc 54 lo n1 lq uq, VIs (.pointer (some ⟨gm, 1, none⟩)), (fun _ _ => True)] [0, 0, 0, 0, 0, 0, 0, 0, 0, 0, 0, 0, 0, 0, 0, 0, 0, 0, 0, 0, 0, 0] (by kernel_rfl) (by kernel_rfl) (by intro vs; simp only [putAll, Act.put, List.setIfInBounds_toArray, List.set_cons_zero, List.set_cons_succ, Nat.reduceAdd]; exact rfl) ?iv0 ?iv1 rfl ?iv2 ?iv3
          case iv1 => exact Stab.ok ⟨fun m v w w' _ _ h => h, fun m v w w' _ _ h => h, fun m v w w' _ _ h => h, fun m v w w' _ _ h => h, fun m v w w' _ _ h => h, fun m v w w' _ _ h => h, fun m v w w' _ _ h => h, fun m v w w' _ _ h => h, fun m v w w' _ _ h => h, fun m v w w' _ _ h => h, fun m v w w' _ _ h => h, fun m v w w' _ _ h => h, fun m v w w' _ _ h => h, fun m v w w' _ _ h => h, fun m v w w' _ _ h => h, fun m v w w' _ _ h => h, fun m v w w' _ _ h => h, fun m v w w' _ _ h => h, fun m v w w' _ hw h => h.stab hw (fun g h => by rcases h with h | ⟨_, h1, h2⟩ <;> omega), fun m v w w' hm hw h => h.stab hw (fun g h => by rcases h with h | ⟨h, _⟩ <;> first | omega | (rw [show m 19 = true from hm] at h; cases h)), fun m v w w' _ _ h => h, fun m v w w' _ _ h => h, trivial⟩
          case iv2 =>
            refine MOpsF.op (fun vs wx m k hmj hcl hI hk hf K hK => ?_) ?_
            · clear hf hcl
              replace hK := hide hK
              replace hI := hide hI
              go_wp2_with fail
              replace hK := hK.out (.pointer (some ⟨gm, 1, none⟩))
              simp only [Act.put, List.setIfInBounds_toArray, List.set_cons_zero, List.set_cons_succ, Nat.add_zero] at hK
              exact hK _ ((hI.out.same (by decide) (by decide))) (Wrt.pure (World.grownBy.refl _ _)) (rfl)
            refine MOpsF.op (fun vs wx m k hmj hcl hI hk hf K hK => ?_) ?_
            · have e0 : vs 0 = .pointer (some ⟨gm, 1, none⟩) := hf 0 (by decide) (by kernel_rfl)
              clear hf
              have h21 : m 21 = false := by
                cases hq : m 21 with
                | false => rfl
                | true => exact absurd (hcl 21 1 (by decide) (by decide) hq (by kernel_rfl)) (by rw [show m 1 = false from hmj]; simp)
              have c := (hI.2.2.2.1 h21).1
              clear hcl h21
              replace hK := hide hK
              replace hI := hide hI
              rw [e0]
              replace e0 := hide e0
              go_wp2_with fail
              replace hK := hK.out (.slice Aq n1 cq)
              simp only [Act.put, List.setIfInBounds_toArray, List.set_cons_zero, List.set_cons_succ, e0.out, Nat.add_zero] at hK
              exact hK _ ((hI.out.same (by decide) (by decide))) (Wrt.pure (World.grownBy.refl _ _)) (rfl)
            refine MOpsF.op (fun vs wx m k hmj hcl hI hk hf K hK => ?_) ?_
            · clear hf hcl
              replace hK := hide hK
              replace hI := hide hI
              go_wp2_with fail
              replace hK := hK.out (.slice (some ⟨gn, 0, none⟩) nn nn)
              simp only [Act.put, List.setIfInBounds_toArray, List.set_cons_zero, List.set_cons_succ, Nat.add_zero] at hK
              exact hK _ ((hI.out.same (by decide) (by decide))) (Wrt.pure (World.grownBy.refl _ _)) (rfl)
            refine MOpsF.op (fun vs wx m k hmj hcl hI hk hf K hK => ?_) ?_
            · clear hf hcl
              replace hK := hide hK
              replace hI := hide hI
              go_wp2_with fail
              replace hK := hK.out (.pointer (some ⟨gb, 0, none⟩))
              simp only [Act.put, List.setIfInBounds_toArray, List.set_cons_zero, List.set_cons_succ, Nat.add_zero] at hK
              exact hK _ ((hI.out.same (by decide) (by decide))) (Wrt.pure (World.grownBy.refl _ _)) (rfl)
            refine MOpsF.op (fun vs wx m k hmj hcl hI hk hf K hK => ?_) ?_
            · have e3 : vs 3 = .pointer (some ⟨gb, 0, none⟩) := hf 3 (by decide) (by kernel_rfl)
              clear hf hcl
              obtain ⟨z0, z1, z2, y0, y1, y2⟩ := hrd.out wx hI.1
              have c := z0
              clear z0 z1 z2 y0 y1 y2
              replace hK := hide hK
              replace hI := hide hI
              rw [e3]
              replace e3 := hide e3
              go_wp2_with fail
              replace hK := hK.out (.int .i64 (ia : Nat))
              simp only [Act.put, List.setIfInBounds_toArray, List.set_cons_zero, List.set_cons_succ, e3.out, Nat.add_zero] at hK
              exact hK _ ((hI.out.same (by decide) (by decide))) (Wrt.pure (World.grownBy.refl _ _)) (rfl)
            refine MOpsF.op (fun vs wx m k hmj hcl hI hk hf K hK => ?_) ?_
            · have e2 : vs 2 = .slice (some ⟨gn, 0, none⟩) nn nn := hf 2 (by decide) (by kernel_rfl)
              have e4 : vs 4 = .int .i64 (ia : Nat) := hf 4 (by decide) (by kernel_rfl)
              clear hf hcl
              replace hK := hide hK
              replace hI := hide hI
              rw [e2, e4]
              replace e2 := hide e2
              replace e4 := hide e4
              go_wp2_with fail
              replace hK := hK.out (.pointer (some ⟨gn, ia, none⟩))
              simp only [Act.put, List.setIfInBounds_toArray, List.set_cons_zero, List.set_cons_succ, e2.out, e4.out, Nat.add_zero] at hK
              exact hK _ ((hI.out.same (by decide) (by decide))) (Wrt.pure (World.grownBy.refl _ _)) (rfl)
            refine MOpsF.op (fun vs wx m k hmj hcl hI hk hf K hK => ?_) ?_
            · have e5 : vs 5 = .pointer (some ⟨gn, ia, none⟩) := hf 5 (by decide) (by kernel_rfl)
              clear hf hcl
              obtain ⟨z0, z1, z2, y0, y1, y2⟩ := hrd.out wx hI.1
              have c := y0
              clear z0 z1 z2 y0 y1 y2
              replace hK := hide hK
              replace hI := hide hI
              rw [e5]
              replace e5 := hide e5
              go_wp2_with fail
              replace hK := hK.out (.int .i64 uq.a)
              simp only [Act.put, List.setIfInBounds_toArray, List.set_cons_zero, List.set_cons_succ, e5.out, Nat.add_zero] at hK
              exact hK _ ((hI.out.same (by decide) (by decide))) (Wrt.pure (World.grownBy.refl _ _)) (rfl)
            refine MOpsF.op (fun vs wx m k hmj hcl hI hk hf K hK => ?_) ?_
            · clear hf hcl
              replace hK := hide hK
              replace hI := hide hI
              go_wp2_with fail
              replace hK := hK.out (.slice (some ⟨gn, 0, none⟩) nn nn)
              simp only [Act.put, List.setIfInBounds_toArray, List.set_cons_zero, List.set_cons_succ, Nat.add_zero] at hK
              exact hK _ ((hI.out.same (by decide) (by decide))) (Wrt.pure (World.grownBy.refl _ _)) (rfl)
            refine MOpsF.op (fun vs wx m k hmj hcl hI hk hf K hK => ?_) ?_
            · clear hf hcl
              replace hK := hide hK
              replace hI := hide hI
              go_wp2_with fail
              replace hK := hK.out (.pointer (some ⟨gb, 1, none⟩))
              simp only [Act.put, List.setIfInBounds_toArray, List.set_cons_zero, List.set_cons_succ, Nat.add_zero] at hK
              exact hK _ ((hI.out.same (by decide) (by decide))) (Wrt.pure (World.grownBy.refl _ _)) (rfl)
            refine MOpsF.op (fun vs wx m k hmj hcl hI hk hf K hK => ?_) ?_
            · have e8 : vs 8 = .pointer (some ⟨gb, 1, none⟩) := hf 8 (by decide) (by kernel_rfl)
              clear hf hcl
              obtain ⟨z0, z1, z2, y0, y1, y2⟩ := hrd.out wx hI.1
              have c := z1
              clear z0 z1 z2 y0 y1 y2
              replace hK := hide hK
              replace hI := hide hI
              rw [e8]
              replace e8 := hide e8
              go_wp2_with fail
              replace hK := hK.out (.int .i64 (ib : Nat))
              simp only [Act.put, List.setIfInBounds_toArray, List.set_cons_zero, List.set_cons_succ, e8.out, Nat.add_zero] at hK
              exact hK _ ((hI.out.same (by decide) (by decide))) (Wrt.pure (World.grownBy.refl _ _)) (rfl)
            refine MOpsF.op (fun vs wx m k hmj hcl hI hk hf K hK => ?_) ?_
            · have e7 : vs 7 = .slice (some ⟨gn, 0, none⟩) nn nn := hf 7 (by decide) (by kernel_rfl)
              have e9 : vs 9 = .int .i64 (ib : Nat) := hf 9 (by decide) (by kernel_rfl)
              clear hf hcl
              replace hK := hide hK
              replace hI := hide hI
              rw [e7, e9]
              replace e7 := hide e7
              replace e9 := hide e9
              go_wp2_with fail
              replace hK := hK.out (.pointer (some ⟨gn, ib, none⟩))
              simp only [Act.put, List.setIfInBounds_toArray, List.set_cons_zero, List.set_cons_succ, e7.out, e9.out, Nat.add_zero] at hK
              exact hK _ ((hI.out.same (by decide) (by decide))) (Wrt.pure (World.grownBy.refl _ _)) (rfl)
            refine MOpsF.op (fun vs wx m k hmj hcl hI hk hf K hK => ?_) ?_
            · have e10 : vs 10 = .pointer (some ⟨gn, ib, none⟩) := hf 10 (by decide) (by kernel_rfl)
              clear hf hcl
              obtain ⟨z0, z1, z2, y0, y1, y2⟩ := hrd.out wx hI.1
              have c := y1
              clear z0 z1 z2 y0 y1 y2
              replace hK := hide hK
              replace hI := hide hI
              rw [e10]
              replace e10 := hide e10
              go_wp2_with fail
              replace hK := hK.out (.int .i64 uq.b)
              simp only [Act.put, List.setIfInBounds_toArray, List.set_cons_zero, List.set_cons_succ, e10.out, Nat.add_zero] at hK
              exact hK _ ((hI.out.same (by decide) (by decide))) (Wrt.pure (World.grownBy.refl _ _)) (rfl)
            refine MOpsF.op (fun vs wx m k hmj hcl hI hk hf K hK => ?_) ?_
            · clear hf hcl
              replace hK := hide hK
              replace hI := hide hI
              go_wp2_with fail
              replace hK := hK.out (.slice (some ⟨gn, 0, none⟩) nn nn)
              simp only [Act.put, List.setIfInBounds_toArray, List.set_cons_zero, List.set_cons_succ, Nat.add_zero] at hK
              exact hK _ ((hI.out.same (by decide) (by decide))) (Wrt.pure (World.grownBy.refl _ _)) (rfl)
            refine MOpsF.op (fun vs wx m k hmj hcl hI hk hf K hK => ?_) ?_
            · clear hf hcl
              replace hK := hide hK
              replace hI := hide hI
              go_wp2_with fail
              replace hK := hK.out (.pointer (some ⟨gb, 2, none⟩))
              simp only [Act.put, List.setIfInBounds_toArray, List.set_cons_zero, List.set_cons_succ, Nat.add_zero] at hK
              exact hK _ ((hI.out.same (by decide) (by decide))) (Wrt.pure (World.grownBy.refl _ _)) (rfl)
            refine MOpsF.op (fun vs wx m k hmj hcl hI hk hf K hK => ?_) ?_
            · have e13 : vs 13 = .pointer (some ⟨gb, 2, none⟩) := hf 13 (by decide) (by kernel_rfl)
              clear hf hcl
              obtain ⟨z0, z1, z2, y0, y1, y2⟩ := hrd.out wx hI.1
              have c := z2
              clear z0 z1 z2 y0 y1 y2
              replace hK := hide hK
              replace hI := hide hI
              rw [e13]
              replace e13 := hide e13
              go_wp2_with fail
              replace hK := hK.out (.int .i64 (ic : Nat))
              simp only [Act.put, List.setIfInBounds_toArray, List.set_cons_zero, List.set_cons_succ, e13.out, Nat.add_zero] at hK
              exact hK _ ((hI.out.same (by decide) (by decide))) (Wrt.pure (World.grownBy.refl _ _)) (rfl)
            refine MOpsF.op (fun vs wx m k hmj hcl hI hk hf K hK => ?_) ?_
            · have e12 : vs 12 = .slice (some ⟨gn, 0, none⟩) nn nn := hf 12 (by decide) (by kernel_rfl)
              have e14 : vs 14 = .int .i64 (ic : Nat) := hf 14 (by decide) (by kernel_rfl)
              clear hf hcl
              replace hK := hide hK
              replace hI := hide hI
              rw [e12, e14]
              replace e12 := hide e12
              replace e14 := hide e14
              go_wp2_with fail
              replace hK := hK.out (.pointer (some ⟨gn, ic, none⟩))
              simp only [Act.put, List.setIfInBounds_toArray, List.set_cons_zero, List.set_cons_succ, e12.out, e14.out, Nat.add_zero] at hK
              exact hK _ ((hI.out.same (by decide) (by decide))) (Wrt.pure (World.grownBy.refl _ _)) (rfl)
            refine MOpsF.op (fun vs wx m k hmj hcl hI hk hf K hK => ?_) ?_
            · have e15 : vs 15 = .pointer (some ⟨gn, ic, none⟩) := hf 15 (by decide) (by kernel_rfl)
              clear hf hcl
              obtain ⟨z0, z1, z2, y0, y1, y2⟩ := hrd.out wx hI.1
              have c := y2
              clear z0 z1 z2 y0 y1 y2
              replace hK := hide hK
              replace hI := hide hI
              rw [e15]
              replace e15 := hide e15
              go_wp2_with fail
              replace hK := hK.out (.int .i64 uq.c)
              simp only [Act.put, List.setIfInBounds_toArray, List.set_cons_zero, List.set_cons_succ, e15.out, Nat.add_zero] at hK
              exact hK _ ((hI.out.same (by decide) (by decide))) (Wrt.pure (World.grownBy.refl _ _)) (rfl)
            refine MOpsF.op (fun vs wx m k hmj hcl hI hk hf K hK => ?_) ?_
            · have e6 : vs 6 = .int .i64 uq.a := hf 6 (by decide) (by kernel_rfl)
              have e11 : vs 11 = .int .i64 uq.b := hf 11 (by decide) (by kernel_rfl)
              have e16 : vs 16 = .int .i64 uq.c := hf 16 (by decide) (by kernel_rfl)
              clear hf hcl
              replace hK := hide hK
              replace hI := hide hI
              rw [e6, e11, e16]
              replace e6 := hide e6
              replace e11 := hide e11
              replace e16 := hide e16
              go_wp2_with fail
              replace hK := hK.out (.agg #[.int .i64 uq.a, .int .i64 uq.b, .int .i64 uq.c])
              simp only [Act.put, List.setIfInBounds_toArray, List.set_cons_zero, List.set_cons_succ, e6.out, e11.out, e16.out, Nat.add_zero] at hK
              exact hK _ ((hI.out.same (by decide) (by decide))) (Wrt.pure (World.grownBy.refl _ _)) (rfl)
            refine MOpsF.op (fun vs wx m k hmj hcl hI hk hf K hK => ?_) ?_
            · have e17 : vs 17 = .agg #[.int .i64 uq.a, .int .i64 uq.b, .int .i64 uq.c] := hf 17 (by decide) (by kernel_rfl)
              clear hf hcl
              replace hK := hide hK
              replace hI := hide hI
              rw [e17]
              replace e17 := hide e17
              go_wp2_with fail
              replace hK := hK.out (.slice (some ⟨wx.heap.size, 0, none⟩) 1 1)
              simp only [Act.put, List.setIfInBounds_toArray, List.set_cons_zero, List.set_cons_succ, e17.out, Nat.add_zero] at hK
              exact hK _ (((hI.out.same (by decide) (by decide)).pure hR (gr_alloc (World.grownBy.refl _ _) _))) (Wrt.pure (gr_alloc (World.grownBy.refl _ _) _)) (⟨wx.heap.size, rfl, sl_oneAt _ _ _ _ _ _ rfl hI.out.2.1 rfl⟩)
            refine MOpsF.op (fun vs wx m k hmj hcl hI hk hf K hK => ?_) ?_
            · have e1 : vs 1 = .slice Aq n1 cq := hf 1 (by decide) (by kernel_rfl)
              obtain ⟨g18, e18, hsl⟩ := hf 18 (by decide) (by kernel_rfl)
              clear hf
              have h21 : m 21 = false := by
                cases hq : m 21 with
                | false => rfl
                | true => exact absurd (hcl 21 19 (by decide) (by decide) hq (by kernel_rfl)) (by rw [show m 19 = false from hmj]; simp)
              have hown := hI.2.2.1 hmj
              obtain ⟨i0, hi, hz, h1, h2⟩ := info_parts info_face
              replace hK := hide hK
              replace hI := hide hI
              rw [e1, e18]
              replace e1 := hide e1
              replace e18 := hide e18
              refine wp_pushAt (α := Fc) _ (.tmp 48) (.tmp 65) _ rfl lo 54 i0 _ 24 Tryz.underlying27 hi hz h1 h2 rfl _ _ _ lq rfl ?_ hown lo2 ⟨g18, 0, none⟩ 1 1 [uq] rfl ?_ hsl ?_ ?_ ?_ ?_
              · exact hq1.out.symm
              · rfl
              · have := hq1.out; simp; omega
              · have := hq1.out; simp [maxLen]; omega
              · have := hI.out.2.1; omega
              intro A5 c5 w5 hown5 hG5
              simp only [Act.put, List.setIfInBounds_toArray, List.set_cons_zero, List.set_cons_succ]
              replace hK := hK.out (.slice A5 (lq ++ [uq]).length c5)
              simp only [Act.put, List.setIfInBounds_toArray, List.set_cons_zero, List.set_cons_succ, e1.out, e18.out, Nat.add_zero] at hK
              exact hK _ ((hI.out.app hR hlo (by decide) h21 hG5 hown)) (⟨_, hG5.1, fun g e => .inr ⟨hmj, (hown.blk_lt e).1, hqA g e⟩⟩) (⟨A5, c5, by rw [List.length_append, hq1.out]; rfl, hown5⟩)
            refine MOpsF.op (fun vs wx m k hmj hcl hI hk hf K hK => ?_) ?_
            · clear hf hcl
              replace hK := hide hK
              replace hI := hide hI
              go_wp2_with fail
              replace hK := hK.out (.pointer (some ⟨gm, 1, none⟩))
              simp only [Act.put, List.setIfInBounds_toArray, List.set_cons_zero, List.set_cons_succ, Nat.add_zero] at hK
              exact hK _ ((hI.out.same (by decide) (by decide))) (Wrt.pure (World.grownBy.refl _ _)) (rfl)
            refine MOpsF.op (fun vs wx m k hmj hcl hI hk hf K hK => ?_) ?_
            · have e20 : vs 20 = .pointer (some ⟨gm, 1, none⟩) := hf 20 (by decide) (by kernel_rfl)
              obtain ⟨A19, c19, e19, ho19⟩ := hf 19 (by decide) (by kernel_rfl)
              clear hf hcl
              have c := hI.2.2.2.1 hmj
              obtain ⟨c, fz⟩ := c
              have hgs := gr_set (World.grownBy.refl wx (some gm)) (p := ⟨gm, 1, none⟩) (.inl rfl) (.slice A19 (n1 + 1) c19)
              replace hgs := hide hgs
              replace ho19 := hide ho19
              replace hK := hide hK
              replace hI := hide hI
              rw [e20, e19]
              replace e20 := hide e20
              replace e19 := hide e19
              go_wp2_with fail
              replace hK := hK.out (undef)
              simp only [Act.put, List.setIfInBounds_toArray, List.set_cons_zero, List.set_cons_succ, e20.out, e19.out, Nat.add_zero] at hK
              exact hK _ ((hI.out.fin hR hlo (by decide) ⟨c, fz⟩ ho19.out)) (Wrt.one hgs.out (.inl rfl)) (trivial)
            exact MOpsF.done
          case iv0 => exact fun m hm => hI0.out m (hm 21 (by decide))
          case iv3 =>
            intro vs' w9 m hm' hI hf
            have e21 := hm' 21 (by decide)
            obtain ⟨k1, k2, -, -, k5⟩ := hI
            obtain ⟨A9, c9, n9, o9⟩ := k5 e21
            clear hf hm' hI0 e21
            replace hlo := hide hlo
            rw [hRd.out] at k1
            obtain rfl := hnn.out
            obtain rfl := hn1.out
            obtain rfl := hgb.out
            obtain ⟨p0, p1, p2, p3, -, -, -⟩ := k1
            rw [hlo5.out, hlo3.out] at o9
            go_wp2_with fail
            (go_roundw; (case rel => exact ⟨n1 + 1, A9, c9, by omega, by go_num, by rw [he.out]; exact o9, n9, p0, p1, p2, p3, by have := hlo3.out; have := hlo5.out; omega⟩); (case measure => simp [intOf]; omega))
        · have hkn : k = fs.length := by omega
          subst hkn
          rw [List.take_length] at fown
          obtain ⟨k0, kf0⟩ := q0.gr hgr (by simp)
          obtain ⟨k1, kf1⟩ := q1.gr hgr (by simp)
          replace fown := hide fown
          replace vown := hide vown
          obtain ⟨v0, -⟩ := f0
          obtain ⟨v1, -⟩ := f1
          have hgs := hgr.size
          replace hgm := hide hgm
          replace hgn := hide hgn
          go_wp2_with fail
          have hw3 := fun a b => gr_set (gr_set (gr_trans hga hgr) (p := ⟨w.heap.size + 1, 0, none⟩) (.inr (by simp)) a) (p := ⟨w.heap.size + 1, 1, none⟩) (.inr (by simp)) b
          have hw4 := fun a b => gr_set (gr_set (World.grownBy.refl wr (some (w.heap.size + 1))) (p := ⟨w.heap.size + 1, 0, none⟩) (.inl rfl) a) (p := ⟨w.heap.size + 1, 1, none⟩) (.inl rfl) b
          have hVn : ∀ g, blk Av = some g → some (w.heap.size + 1) ≠ some g := fun g e1 e2 => by have := (vown.out.blk_lt e1).1; have := hgm.out; injection e2; omega
          have hFn : ∀ g, blk Aq = some g → some (w.heap.size + 1) ≠ some g := fun g e1 e2 => by have := (fown.out.blk_lt e1).1; have := hgm.out; injection e2; omega
          have eV : (trimM ⟨vs, fs⟩).vs = V := by rw [hV.out, hUd.out]; rfl
          have eF : (trimM ⟨vs, fs⟩).fs = fs.map (renum vs U) := by rw [hUd.out]; rfl
          refine bodyPost_ret (v := .agg #[.slice Av V.length cv, .slice Aq fs.length cq]) (by simp [results, Tryz.results33, go_sem, k0, k1, kf0, kf1]) rfl ⟨Av, cv, Aq, cq, ?_, ?_, ?_, ?_⟩
          · rw [eV, eF, List.length_map]
          · rw [eV]; exact (vown.out.ne (hw4 _ _) hVn).lower (by have := hgm.out; omega)
          · rw [eF]; exact (fown.out.ne (hw4 _ _) hFn).lower (by have := hgm.out; omega)
          · exact hw3 _ _

end Go.Proofs.YtbpkkgeedkegcaaGreatDoor

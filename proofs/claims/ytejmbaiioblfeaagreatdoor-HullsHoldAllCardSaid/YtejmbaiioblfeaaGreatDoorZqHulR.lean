/- Contracts of functions that this seat's laws reach, each: what one call returns and what it leaves in memory; no condition beyond each theorem's own hypotheses. -/
import Derived.Test.YtejmbaiioblfeaaGreatDoorZqHulQ
import Derived.Test.YtejmbaiioblfeaaGreatDoorZqFillOut
set_option linter.unusedVariables false
set_option linter.unusedSimpArgs false
namespace Go.Proofs.YtejmbaiioblfeaaGreatDoor
open Go Go.RowKit Go.Bl

theorem gd_l {α : Type} {l m : List α} {i : Nat} {d : α} (h : i < l.length) : (l ++ m).getD i d = l.getD i d := by rw [List.getD_eq_getElem?_getD, List.getD_eq_getElem?_getD, List.getElem?_append_left h]

theorem gd_r {α : Type} {l m : List α} {i : Nat} {d : α} (h : l.length ≤ i) : (l ++ m).getD i d = m.getD (i - l.length) d := by rw [List.getD_eq_getElem?_getD, List.getD_eq_getElem?_getD, List.getElem?_append_right h]

theorem Cvx.ne {n : Nat} {f : Nat → Pt} (h : Cvx n f) (i : Nat) : f i ≠ f (i + 1) := h.rr.inj i (i + 1) (by omega) (by have := h.n3; omega)

def upL (ps : List Pt) : List Pt := (halfS ps).reverse

def hullL (ps : List Pt) : List Pt := (upL ps).dropLast ++ (upL ps.reverse).dropLast
/-- both sides of a hull, with their ends -/
structure Hul (ps : List Pt) (s t : Nat) : Prop where
  up : Chain (fun p => p ∈ ps) (fun i => (upL ps).getD i default) s
  dn : Back (fun p => p ∈ ps) (fun j => (upL ps.reverse).getD j default) t
  ul : (upL ps).length = s + 1
  dl : (upL ps.reverse).length = t + 1
  u0 : ps.head? = some ((upL ps).getD 0 default)
  us : ps.getLast? = some ((upL ps).getD s default)
  d0 : ps.getLast? = some ((upL ps.reverse).getD 0 default)
  dt : ps.head? = some ((upL ps.reverse).getD t default)
  s1 : 1 ≤ s
  t1 : 1 ≤ t

theorem neg_at (l : List Pt) (i : Nat) (h : i < l.length) : (l.map negP).getD i default = negP (l.getD i default) := by
  rw [List.getD_eq_getElem?_getD, List.getD_eq_getElem?_getD, List.getElem?_map, List.getElem?_eq_getElem h]; rfl

theorem hul_of {ps : List Pt} (h2 : 2 ≤ ps.length) (hs : SrtP ps) : ∃ s t, Hul ps s t := by
  obtain ⟨s, ul, up, u0, us⟩ := half_chain (by omega) hs
  have hrs : SrtP (ps.reverse.map negP) := by
    unfold SrtP
    rw [List.pairwise_map, List.pairwise_reverse]
    exact hs.imp fun {a b} k => (neg_cmp b a).2 k
  obtain ⟨t, dl, dn, d0, dt⟩ := half_chain (l := ps.reverse.map negP) (by simp; omega) hrs
  rw [neg_half, List.length_map] at dl
  rw [neg_half, ← List.map_reverse] at dn d0 dt
  have hl : (upL ps.reverse).length = t + 1 := by unfold upL; rw [List.length_reverse]; exact dl
  have hat : ∀ i, i ≤ t → ((halfS ps.reverse).reverse.map negP).getD i default = negP ((upL ps.reverse).getD i default) := fun i hi => neg_at _ i (by show i < (upL ps.reverse).length; omega)
  have hmem : ∀ p : Pt, p ∈ ps.reverse.map negP ↔ negP p ∈ ps := fun p => by
    rw [List.mem_map]
    constructor
    · rintro ⟨q, hq, rfl⟩; rw [neg_neg]; exact List.mem_reverse.1 hq
    · intro h; exact ⟨negP p, List.mem_reverse.2 h, neg_neg p⟩
  rw [hat 0 (by omega), List.head?_map, List.head?_reverse] at d0
  rw [hat t (by omega), List.getLast?_map, List.getLast?_reverse] at dt
  have inj : ∀ {a : Option Pt} {b : Pt}, a.map negP = some (negP b) → a = some b := fun {a b} h => by
    cases a with
    | none => simp at h
    | some a =>
      simp only [Option.map_some, Option.some.injEq] at h
      rw [← neg_neg a, h, neg_neg]
  have dn2 : Back (fun p => p ∈ ps) (fun j => (upL ps.reverse).getD j default) t := by
    refine ⟨fun i hi => ?_, fun i hi p hp => ?_, fun i hi => ?_, fun i hi => ?_⟩
    · have := dn.inc i hi; simp only [hat i (by omega), hat (i + 1) (by omega)] at this; exact this
    · have := dn.lft i hi p ((hmem p).2 hp); simp only [hat i (by omega), hat (i + 1) (by omega)] at this; exact this
    · have := dn.trn i hi; simp only [hat i (by omega), hat (i + 1) (by omega), hat (i + 2) (by omega)] at this; exact this
    · have := dn.mem i hi; simp only [hat i (by omega)] at this; exact (hmem _).1 this
  have hne : ps.head? ≠ ps.getLast? := by
    obtain ⟨a, b, l, rfl⟩ : ∃ a b l, ps = a :: b :: l := by
      match ps, h2 with
      | a :: b :: l, _ => exact ⟨a, b, l, rfl⟩
    intro e
    have h1 : (a :: b :: l).getLast? = some ((b :: l).getLast (by simp)) := by rw [List.getLast?_cons_cons, List.getLast?_eq_some_getLast (by simp)]
    rw [h1, List.head?_cons] at e
    injection e with e
    have h3 := (List.pairwise_cons.1 hs).1 _ (List.getLast_mem (l := b :: l) (by simp))
    rw [← e] at h3
    exact cmp_irrefl _ h3
  refine ⟨s, t, up, dn2, by unfold upL; rw [List.length_reverse]; exact ul, hl, u0, us, inj d0, inj dt, ?_, ?_⟩
  · rcases Nat.eq_zero_or_pos s with k | k
    · subst k; exact absurd (u0.trans us.symm) hne
    · exact k
  · rcases Nat.eq_zero_or_pos t with k | k
    · subst k; exact absurd ((inj dt).trans (inj d0).symm) hne
    · exact k
section
variable {ps : List Pt} {s t : Nat}

theorem Hul.len (h : Hul ps s t) : (hullL ps).length = s + t := by
  unfold hullL
  rw [List.length_append, List.length_dropLast, List.length_dropLast, h.ul, h.dl]; omega

theorem drop_at {l : List Pt} {i : Nat} (h : i + 1 < l.length) : l.dropLast.getD i default = l.getD i default := by
  rw [List.getD_eq_getElem?_getD, List.getD_eq_getElem?_getD, List.getElem?_dropLast, if_pos (by omega)]

theorem Hul.cu (h : Hul ps s t) {i : Nat} (hi : i ≤ s) : cor (hullL ps) i = (upL ps).getD i default := by
  have hl := h.len
  have s1 := h.s1
  have t1 := h.t1
  unfold cor
  rw [hl, Nat.mod_eq_of_lt (by omega)]
  unfold hullL
  by_cases e : i < s
  · rw [gd_l (by rw [List.length_dropLast, h.ul]; omega), drop_at (by rw [h.ul]; omega)]
  · have e2 : i = s := by omega
    subst e2
    rw [gd_r (by rw [List.length_dropLast, h.ul]; omega), List.length_dropLast, h.ul, show i - (i + 1 - 1) = 0 by omega, drop_at (by rw [h.dl]; omega)]
    have := h.us.symm.trans h.d0
    injection this with this
    exact this.symm

theorem Hul.cd (h : Hul ps s t) {j : Nat} (hj : j ≤ t) : cor (hullL ps) (s + j) = (upL ps.reverse).getD j default := by
  have hl := h.len
  have s1 := h.s1
  have t1 := h.t1
  by_cases e : j < t
  · unfold cor
    rw [hl, Nat.mod_eq_of_lt (by omega)]
    unfold hullL
    rw [gd_r (by rw [List.length_dropLast, h.ul]; omega), List.length_dropLast, h.ul, show s + j - (s + 1 - 1) = j by omega, drop_at (by rw [h.dl]; omega)]
  · have e2 : j = t := by omega
    subst e2
    have e3 : cor (hullL ps) (s + j) = cor (hullL ps) 0 := by rw [← hl]; exact cor_len _
    rw [e3, h.cu (by omega)]
    have := h.u0.symm.trans h.dt
    injection this

theorem Hul.left (h : Hul ps s t) : ∀ i p, p ∈ ps → 0 ≤ turnP (cor (hullL ps) i) (cor (hullL ps) (i + 1)) p := fun i p hp => by
  have hl := h.len
  have s1 := h.s1
  have hpos : 0 < (hullL ps).length := by omega
  have e0 := cor_mm (hullL ps) i 0
  have e1 := cor_mm (hullL ps) i 1
  simp only [Nat.add_zero] at e0
  rw [← e0, ← e1]
  have hm := Nat.mod_lt i hpos
  generalize i % (hullL ps).length = k at *
  by_cases c : k < s
  · rw [h.cu (by omega), h.cu (by omega)]; exact h.up.lft k c p hp
  · have := h.dn.lft (k - s) (by omega) (negP p) (by simp only [neg_neg]; exact hp)
    simp only [neg_turn] at this
    rw [show k = s + (k - s) by omega, h.cd (by omega), show s + (k - s) + 1 = s + (k - s + 1) by omega, h.cd (by omega)]
    exact this

theorem Hul.sub (h : Hul ps s t) : ∀ x ∈ hullL ps, x ∈ ps := fun x hx => by
  obtain ⟨i, hi, rfl⟩ := List.mem_iff_getElem.1 hx
  have hl := h.len
  rw [← cor_lt hi]
  by_cases c : i ≤ s
  · rw [h.cu c]; exact h.up.mem i c
  · rw [show i = s + (i - s) by omega, h.cd (by omega)]
    have := h.dn.mem (i - s) (by omega)
    simpa [neg_neg] using this

theorem Hul.cvx (h : Hul ps s t) (h3 : 3 ≤ (hullL ps).length) : Cvx (hullL ps).length (cor (hullL ps)) := by
  have hl := h.len
  refine ⟨h3, cor_mod _, fun i k hi hk n1 n2 => ?_⟩
  by_cases c : i < s
  · rw [h.cu (by omega), h.cu (show i + 1 ≤ s by omega)]
    rw [Nat.mod_eq_of_lt (by have := h.t1; omega)] at n2
    by_cases ck : k ≤ s
    · rw [h.cu ck]; exact h.up.off c ck n1 n2
    · rw [show k = s + (k - s) by omega, h.cd (by omega)]
      exact h.up.opp h.dn c (by omega) (by omega)
  · rw [show i = s + (i - s) by omega, h.cd (by omega), show s + (i - s) + 1 = s + (i - s + 1) by omega, h.cd (by omega)]
    rw [← neg_turn]
    by_cases ck : s ≤ k ∨ k = 0
    · -- a corner of the way back
      obtain ⟨m, hm, e⟩ : ∃ m, m ≤ t ∧ cor (hullL ps) k = (upL ps.reverse).getD m default ∧ m ≠ i - s ∧ m ≠ i - s + 1 := by
        by_cases c0 : s ≤ k
        · refine ⟨k - s, by omega, by rw [← h.cd (by omega)]; congr 1; omega, by omega, fun e => ?_⟩
          rw [Nat.mod_eq_of_lt (by omega)] at n2
          omega
        · have k0 : k = 0 := by omega
          subst k0
          refine ⟨t, Nat.le_refl _, ?_, by omega, fun e => ?_⟩
          · rw [← h.cd (Nat.le_refl _), ← hl, cor_len]
          · rw [show i + 1 = (hullL ps).length by omega, Nat.mod_self] at n2
            exact n2 rfl
      obtain ⟨e1, e2, e3⟩ := e
      rw [e1]
      exact h.dn.off (by omega) hm e2 e3
    · rw [h.cu (by omega)]
      exact Chain.opp h.dn (Back.back h.up) (by omega) (by omega) (by omega)
/-- fewer than three corners: all points lie on one line -/
theorem cr_zero {e u v : Pt} (he : posV e) (h1 : crV e u = 0) (h2 : crV e v = 0) : crV u v = 0 := by
  have i1 : crV u v * e.y = -crV e u * v.y + crV e v * u.y := by unfold crV; grind
  have i2 : crV u v * e.x = -crV e u * v.x + crV e v * u.x := by unfold crV; grind
  rw [h1, h2] at i1 i2
  simp only [Int.neg_zero, Int.zero_mul, Int.add_zero] at i1 i2
  rcases he with he | ⟨-, he⟩
  · rcases Int.mul_eq_zero.1 i1 with k | k
    · exact k
    · omega
  · rcases Int.mul_eq_zero.1 i2 with k | k
    · exact k
    · omega

theorem Hul.flat (h : Hul ps s t) (h3 : (hullL ps).length < 3) : ∀ x ∈ ps, ∀ a ∈ ps, ∀ b ∈ ps, turnP x a b = 0 := by
  have hl := h.len
  have s1 := h.s1
  have t1 := h.t1
  have hs : s = 1 := by omega
  have ht : t = 1 := by omega
  subst hs; subst ht
  have hline : ∀ p ∈ ps, turnP (cor (hullL ps) 0) (cor (hullL ps) 1) p = 0 := fun p hp => by
    have l0 := h.left 0 p hp
    have l1 := h.left 1 p hp
    have e : cor (hullL ps) (1 + 1) = cor (hullL ps) 0 := by have := cor_len (hullL ps); rw [hl] at this; exact this
    rw [e, turn_flip] at l1
    rw [Nat.zero_add] at l0
    omega
  have hp : posV (subP (cor (hullL ps) 1) (cor (hullL ps) 0)) := by
    rw [h.cu (Nat.le_refl 1), h.cu (Nat.zero_le 1)]
    exact h.up.pos (i := 0) (by omega)
  intro x hx a ha b hb
  rw [turn_cr]
  refine cr_zero hp ?_ ?_
  · have h1 := hline a ha
    have h2 := hline x hx
    rw [turn_more _ _ x, h2] at h1; omega
  · have h1 := hline b hb
    have h2 := hline x hx
    rw [turn_more _ _ x, h2] at h1; omega
end

/-! ### there is only one -/

theorem on_line {a b b' : Pt} (hz : turnP a b b' = 0) (h1 : a ≠ b) : ∀ p, turnP a b p = 0 → turnP a b' p = 0 := fun p hp => by
  have hn : (subP b a).x ≠ 0 ∨ (subP b a).y ≠ 0 := by
    unfold subP; simp only
    rcases Classical.em (b.x - a.x = 0) with k | k
    · refine .inr fun k2 => h1 ?_
      cases a; cases b; simp only [Pt.mk.injEq] at *; omega
    · exact .inl k
  rw [turn_cr] at *
  generalize subP b a = e at *
  generalize subP b' a = u at *
  generalize subP p a = v at *
  have i1 : crV u v * e.y = -crV e u * v.y + crV e v * u.y := by unfold crV; grind
  have i2 : crV u v * e.x = -crV e u * v.x + crV e v * u.x := by unfold crV; grind
  rw [hz, hp] at i1 i2
  simp only [Int.neg_zero, Int.zero_mul, Int.add_zero] at i1 i2
  rcases hn with he | he
  · rcases Int.mul_eq_zero.1 i2 with k | k
    · exact k
    · exact absurd k he
  · rcases Int.mul_eq_zero.1 i1 with k | k
    · exact k
    · exact absurd k he
/-- on the line of a side, no point lies beyond it -/
theorem not_beyond {a b c p : Pt} (h1 : 0 < turnP a b c) (h2 : 0 ≤ turnP b c p) : ¬ parV (subP b a) (subP p b) := fun hp => by
  rw [turn_fwd] at h1
  have h3 : 0 ≤ crV (subP c b) (subP p b) := by rw [← turn_cr]; exact h2
  have := (par_cr hp (subP c b)).1.1 h1
  rw [cr_swap] at h3
  omega

theorem cvx_next {P : Pt → Prop} {n m : Nat} {f g : Nat → Pt} (hf : Cvx n f) (hg : Cvx m g) (mf : ∀ i, P (f i)) (mg : ∀ i, P (g i)) (lf : ∀ i p, P p → 0 ≤ turnP (f i) (f (i + 1)) p) (lg : ∀ i p, P p → 0 ≤ turnP (g i) (g (i + 1)) p) {i j : Nat} (e : f i = g j) : f (i + 1) = g (j + 1) := by
  have n3 := hf.n3
  have m3 := hg.n3
  have l1 := lf i (g (j + 1)) (mg _)
  have l2 := lg j (f (i + 1)) (mf _)
  rw [← e] at l2
  have hz : turnP (f i) (f (i + 1)) (g (j + 1)) = 0 := by
    have : turnP (f i) (g (j + 1)) (f (i + 1)) = -turnP (f i) (f (i + 1)) (g (j + 1)) := by unfold turnP; grind
    omega
  have nf : f i ≠ f (i + 1) := hf.ne i
  have ng : f i ≠ g (j + 1) := by rw [e]; exact hg.ne j
  have sf := hf.off' (i := i) (k := i + 2) (mod_ne (by omega) (by omega)) (mod_ne (by omega) (by omega))
  have sg := hg.off' (i := j) (k := j + 2) (mod_ne (by omega) (by omega)) (mod_ne (by omega) (by omega))
  refine Classical.byContradiction fun hne => ?_
  -- the three points on one line: f i, f (i+1), g (j+1)
  by_cases c1 : foldB (f (i + 1)) (f i) (g (j + 1)) = false
  · exact not_beyond sf (lf (i + 1) _ (mg _)) (par_of hz c1 nf hne)
  by_cases c2 : foldB (g (j + 1)) (f i) (f (i + 1)) = false
  · have hz2 : turnP (f i) (g (j + 1)) (f (i + 1)) = 0 := on_line hz nf _ (turn_self2 _ _)
    rw [e] at hz2 c2
    exact not_beyond sg (lg (j + 1) _ (mf _)) (par_of hz2 c2 (by rw [← e]; exact ng) (fun k => hne k.symm))
  · -- both fold back: they lie on both sides of the corner
    rw [Bool.not_eq_false] at c1 c2
    unfold foldB at c1 c2
    simp only [Bool.and_eq_true, decide_eq_true_eq] at c1 c2
    have d1 := c1.2
    have d2 := c2.2
    have s2 := lg j (f (i + 2)) (mf _)
    rw [← e] at s2
    have s1 := sf
    rw [turn_cr] at s1 s2 hz
    have e1 : (f i).x = (f i).x := rfl
    have q1 : doV (subP (f (i + 1)) (f i)) (subP (g (j + 1)) (f i)) < doV (subP (f (i + 1)) (f i)) (subP (f (i + 1)) (f i)) := by
      have : ((f i).x - (f (i + 1)).x) * ((g (j + 1)).x - (f (i + 1)).x) + ((f i).y - (f (i + 1)).y) * ((g (j + 1)).y - (f (i + 1)).y) = doV (subP (f (i + 1)) (f i)) (subP (f (i + 1)) (f i)) - doV (subP (f (i + 1)) (f i)) (subP (g (j + 1)) (f i)) := by unfold doV subP; grind
      omega
    have q2 : doV (subP (f (i + 1)) (f i)) (subP (g (j + 1)) (f i)) < doV (subP (g (j + 1)) (f i)) (subP (g (j + 1)) (f i)) := by
      have : ((f i).x - (g (j + 1)).x) * ((f (i + 1)).x - (g (j + 1)).x) + ((f i).y - (g (j + 1)).y) * ((f (i + 1)).y - (g (j + 1)).y) = doV (subP (g (j + 1)) (f i)) (subP (g (j + 1)) (f i)) - doV (subP (f (i + 1)) (f i)) (subP (g (j + 1)) (f i)) := by unfold doV subP; grind
      omega
    generalize subP (f (i + 1)) (f i) = u at *
    generalize subP (g (j + 1)) (f i) = v at *
    generalize subP (f (i + 2)) (f i) = x at *
    have hid : doV u v * doV u v = doV u u * doV v v - crV u v * crV u v := by unfold doV crV; grind
    have hneg : doV u v < 0 := by
      refine Classical.byContradiction fun hc => ?_
      have h1 := Int.mul_le_mul (a := doV u v + 1) (b := doV u v + 1) (c := doV u u) (d := doV v v) (by omega) (by omega) (by omega) (by omega)
      have h2 : (doV u v + 1) * (doV u v + 1) = doV u v * doV u v + 2 * doV u v + 1 := by grind
      rw [hz, Int.mul_zero, Int.sub_zero] at hid
      omega
    have hp : parV u ⟨-v.x, -v.y⟩ := ⟨by
      have : crV u ⟨-v.x, -v.y⟩ = -crV u v := by unfold crV; grind
      omega, by
      have : doV u ⟨-v.x, -v.y⟩ = -doV u v := by unfold doV; grind
      omega⟩
    have := (par_cr hp x).1.1 s1
    have e3 : crV ⟨-v.x, -v.y⟩ x = -crV v x := by unfold crV; grind
    omega

theorem cvx_all {P : Pt → Prop} {n m : Nat} {f g : Nat → Pt} (hf : Cvx n f) (hg : Cvx m g) (mf : ∀ i, P (f i)) (mg : ∀ i, P (g i)) (lf : ∀ i p, P p → 0 ≤ turnP (f i) (f (i + 1)) p) (lg : ∀ i p, P p → 0 ≤ turnP (g i) (g (i + 1)) p) (h0 : f 0 = g 0) : ∀ i, f i = g i
  | 0 => h0
  | i + 1 => cvx_next hf hg mf mg lf lg (cvx_all hf hg mf mg lf lg h0 i)

theorem cvx_len {n m : Nat} {f g : Nat → Pt} (hf : Cvx n f) (hg : Cvx m g) (h : ∀ i, f i = g i) : n = m := by
  have n3 := hf.n3
  have m3 := hg.n3
  have key : ∀ {n m : Nat} {f g : Nat → Pt}, Cvx n f → Cvx m g → (∀ i, f i = g i) → ¬ n < m := fun {n m f g} hf hg h hlt => by
    have := hg.rr.inj 0 n (by have := hf.n3; omega) (by omega)
    rw [← h, ← h] at this
    have e := hf.per 0
    rw [Nat.zero_add] at e
    exact this e.symm
  have k1 := key hf hg h
  have k2 := key hg hf (fun i => (h i).symm)
  omega

theorem srt_least {ps : List Pt} (hs : SrtP ps) {a : Pt} (h : ps.head? = some a) : ∀ p ∈ ps, ¬ cmpPt p a < 0 := fun p hp => by
  cases ps with
  | nil => cases h
  | cons b l =>
    rw [List.head?_cons] at h
    injection h with h
    subst h
    rcases List.mem_cons.1 hp with rfl | hp
    · exact cmp_irrefl _
    · exact cmp_asymm ((List.pairwise_cons.1 hs).1 p hp)

theorem nodup_le : ∀ {l m : List Pt}, l.Nodup → (∀ x ∈ l, x ∈ m) → l.length ≤ m.length
  | [], _, _, _ => Nat.zero_le _
  | x :: l, m, hl, hm => by
    obtain ⟨h1, h2⟩ := List.nodup_cons.1 hl
    have hx := hm x (List.mem_cons_self ..)
    have := nodup_le (m := m.erase x) h2 fun y hy => by
      rw [List.mem_erase_of_ne (fun e => h1 (by rw [← e]; exact hy))]
      exact hm y (List.mem_cons_of_mem _ hy)
    rw [List.length_erase_of_mem hx] at this
    have hp := List.length_pos_of_mem hx
    simp only [List.length_cons]; omega
/-- the hull of a hull's corners is the hull -/
theorem hull_twice {ps qs : List Pt} (hs : SrtP ps) (h2 : 2 ≤ ps.length) (h3 : 3 ≤ (hullL ps).length) (hq : SrtP qs) (hm : ∀ x, x ∈ qs ↔ x ∈ hullL ps) : 3 ≤ qs.length ∧ hullL qs = hullL ps := by
  obtain ⟨s, t, H⟩ := hul_of h2 hs
  have C := H.cvx h3
  have hpos : 0 < (hullL ps).length := by omega
  have hin : ∀ i, cor (hullL ps) i ∈ hullL ps := fun i => cor_mem hpos i
  have hq3 : 3 ≤ qs.length := by
    have hnd : (hullL ps).Nodup := by
      rw [List.nodup_iff_pairwise_ne, List.pairwise_iff_getElem]
      intro i j hi hj hij
      rw [← cor_lt hi, ← cor_lt hj]
      exact C.rr.inj i j hij (by omega)
    have := nodup_le hnd (m := qs) fun x hx => (hm x).2 hx
    omega
  refine ⟨hq3, ?_⟩
  obtain ⟨s', t', H'⟩ := hul_of (by omega) hq
  have hq4 : 3 ≤ (hullL qs).length := by
    refine Classical.byContradiction fun hc => ?_
    have hfl := H'.flat (by omega) _ ((hm _).2 (hin 0)) _ ((hm _).2 (hin 1)) _ ((hm _).2 (hin 2))
    have := C.off' (i := 0) (k := 2) (mod_ne (by omega) (by omega)) (mod_ne (by omega) (by omega))
    rw [Nat.zero_add] at this
    omega
  have C' := H'.cvx hq4
  have hin' : ∀ i, cor (hullL qs) i ∈ hullL qs := fun i => cor_mem (by omega) i
  have h0 : cor (hullL qs) 0 = cor (hullL ps) 0 := by
    have e1 : qs.head? = some (cor (hullL qs) 0) := by rw [H'.cu (Nat.zero_le _)]; exact H'.u0
    have e2 : ps.head? = some (cor (hullL ps) 0) := by rw [H.cu (Nat.zero_le _)]; exact H.u0
    refine cmp_anti' (srt_least hs e2 _ (H.sub _ ((hm _).1 (H'.sub _ (hin' 0))))) (srt_least hq e1 _ ((hm _).2 (hin 0)))
  have hall := cvx_all (P := fun p => p ∈ hullL ps) C' C (fun i => (hm _).1 (H'.sub _ (hin' i))) hin (fun i p hp => H'.left i p ((hm p).2 hp)) (fun i p hp => H.left i p (H.sub p hp)) h0
  have hlen := cvx_len C' C hall
  refine List.ext_getElem hlen fun i h1 h2 => ?_
  rw [← cor_lt h1, ← cor_lt h2]
  exact hall i

/-! ### no point lies outside -/

theorem fold_tel (d : Nat → Bool) (s0 : Nat) : ∀ l, foldW Bool.xor false (fun k => d k != d (k + 1)) s0 l = (d s0 != d (s0 + l))
  | 0 => by simp [foldW]
  | l + 1 => by
    show (foldW Bool.xor false (fun k => d k != d (k + 1)) s0 l ^^ (d (s0 + l) != d (s0 + l + 1))) = _
    rw [fold_tel d s0 l, ← Nat.add_assoc]
    cases d s0 <;> cases d (s0 + l) <;> cases d (s0 + l + 1) <;> rfl

theorem fold_no {F : Nat → Bool} {s0 : Nat} : ∀ l, (∀ k, k < l → F (s0 + k) = false) → foldW Bool.xor false F s0 l = false
  | 0, _ => rfl
  | l + 1, h => by
    show (foldW Bool.xor false F s0 l ^^ F (s0 + l)) = false
    rw [fold_no l fun k hk => h k (by omega), h l (by omega)]
    rfl

theorem fold_same {F G : Nat → Bool} {s0 : Nat} : ∀ l, (∀ k, k < l → F (s0 + k) = G (s0 + k)) → foldW Bool.xor false F s0 l = foldW Bool.xor false G s0 l
  | 0, _ => rfl
  | l + 1, h => by
    show (foldW Bool.xor false F s0 l ^^ F (s0 + l)) = (foldW Bool.xor false G s0 l ^^ G (s0 + l))
    rw [fold_same l fun k hk => h k (by omega), h l (by omega)]

theorem on_flat {p a b : Pt} (h : turnP a b p = 0) (h1 : a.y = p.y) (h2 : b.y = p.y) (h3 : min a.x b.x ≤ p.x) (h4 : p.x ≤ max a.x b.x) : onB p a b = true := onB_iff.2 ⟨h, ⟨h3, h4⟩, by omega⟩
section
variable {ps : List Pt} {s t : Nat}

theorem Hul.inn (h : Hul ps s t) (h3 : 3 ≤ (hullL ps).length) (hs : SrtP ps) {p : Pt} (hp : p ∈ ps) (hoff : ∀ i, onB p (cor (hullL ps) i) (cor (hullL ps) (i + 1)) = false) : isInF (hullL ps) p = true := by
  have hl := h.len
  have s1 := h.s1
  have t1 := h.t1
  have ymono : ∀ i, i < s → (cor (hullL ps) i).y ≤ (cor (hullL ps) (i + 1)).y := fun i hi => by
    have := h.up.inc i hi
    rw [← h.cu (i := i) (by omega), ← h.cu (i := i + 1) (by omega), cmpPt_neg] at this
    omega
  have ydown : ∀ j, j < t → (cor (hullL ps) (s + j + 1)).y ≤ (cor (hullL ps) (s + j)).y := fun j hj => by
    have := h.dn.inc j hj
    simp only [neg_cmp] at this
    rw [← h.cd (j := j) (by omega), ← h.cd (j := j + 1) (by omega), cmpPt_neg] at this
    rw [show s + j + 1 = s + (j + 1) by omega]
    omega
  have cross : ∀ i, ¬ ((cor (hullL ps) i).y > p.y ↔ (cor (hullL ps) (i + 1)).y > p.y) → 0 < turnP (cor (hullL ps) i) (cor (hullL ps) (i + 1)) p := fun i hi => by
    have hz := h.left i p hp
    have : turnP (cor (hullL ps) i) (cor (hullL ps) (i + 1)) p ≠ 0 := fun e => by
      have := onB_iff.2 ⟨e, line_boxY e (by omega) (by omega) (by omega)⟩
      rw [hoff i] at this
      cases this
    omega
  unfold isInF
  rw [isInK_fold, hl, foldW_add cm_xor]
  have e1 : foldW Bool.xor false (fun i => crs (cor (hullL ps) i) (cor (hullL ps) (i + 1)) p) 0 s = (decide ((cor (hullL ps) 0).y > p.y) != decide ((cor (hullL ps) s).y > p.y)) := by
    rw [fold_same (G := fun k => decide ((cor (hullL ps) k).y > p.y) != decide ((cor (hullL ps) (k + 1)).y > p.y)) s fun k hk => ?_]
    · rw [fold_tel (fun k => decide ((cor (hullL ps) k).y > p.y)) 0 s, Nat.zero_add]
    · rw [Nat.zero_add]
      have ym := ymono k hk
      rw [Bool.eq_iff_iff, crs_iff, bne_iff_ne, ne_eq, decide_eq_decide]
      constructor
      · exact fun q => q.1
      · intro q
        have := cross k q
        exact ⟨q, by omega⟩
  have e2 : foldW Bool.xor false (fun i => crs (cor (hullL ps) i) (cor (hullL ps) (i + 1)) p) (0 + s) t = false := fold_no t fun k hk => by
    rw [Nat.zero_add]
    have ym := ydown k hk
    rw [Bool.eq_false_iff]
    intro q
    have q := crs_iff.1 q
    have := cross (s + k) q.1
    omega
  rw [e1, e2, Bool.xor_false]
  -- the first and the last point of all
  have f0 : ps.head? = some (cor (hullL ps) 0) := by rw [h.cu (Nat.zero_le _)]; exact h.u0
  have fl : ps.getLast? = some (cor (hullL ps) s) := by rw [h.cu (Nat.le_refl _)]; exact h.us
  have lo := srt_least hs f0 p hp
  have hi : ¬ cmpPt (cor (hullL ps) s) p < 0 := by
    have hr : SrtP (ps.reverse.map negP) := by
      unfold SrtP
      rw [List.pairwise_map, List.pairwise_reverse]
      exact hs.imp fun {a b} k => (neg_cmp b a).2 k
    have := srt_least hr (a := negP (cor (hullL ps) s)) (by rw [List.head?_map, List.head?_reverse, fl]; rfl) (negP p) (List.mem_map.2 ⟨p, List.mem_reverse.2 hp, rfl⟩)
    rwa [neg_cmp] at this
  rw [cmpPt_neg] at lo hi
  have a0 : decide ((cor (hullL ps) 0).y > p.y) = false := decide_eq_false (by omega)
  rw [a0]
  by_cases top : (cor (hullL ps) s).y > p.y
  · rw [decide_eq_true top]; rfl
  · exfalso
    have hy : (cor (hullL ps) s).y = p.y := by omega
    have hx : p.x ≤ (cor (hullL ps) s).x := by omega
    have l0 := h.left s p hp
    have o0 := hoff s
    have i0 := h.dn.inc 0 (by omega)
    simp only [neg_cmp] at i0
    rw [← h.cd (j := 0) (by omega), ← h.cd (j := 0 + 1) (by omega), cmpPt_neg] at i0
    simp only [Nat.add_zero, Nat.zero_add] at i0
    have et : turnP (cor (hullL ps) s) (cor (hullL ps) (s + 1)) p = ((cor (hullL ps) s).y - (cor (hullL ps) (s + 1)).y) * (p.x - (cor (hullL ps) s).x) := by
      unfold turnP
      rw [← hy, Int.sub_self, Int.mul_zero]
      grind
    by_cases c : (cor (hullL ps) (s + 1)).y < (cor (hullL ps) s).y
    · -- only the last point is as high
      have hpx : (cor (hullL ps) s).x ≤ p.x := by
        refine Classical.byContradiction fun k => ?_
        have := Int.mul_neg_of_pos_of_neg (show 0 < (cor (hullL ps) s).y - (cor (hullL ps) (s + 1)).y by omega) (show p.x - (cor (hullL ps) s).x < 0 by omega)
        omega
      have : onB p (cor (hullL ps) s) (cor (hullL ps) (s + 1)) = true := onB_iff.2 ⟨by rw [et, show p.x - (cor (hullL ps) s).x = 0 by omega, Int.mul_zero], ⟨by omega, by omega⟩, by omega⟩
      rw [o0] at this
      cases this
    · have hy1 : (cor (hullL ps) (s + 1)).y = (cor (hullL ps) s).y := by omega
      have ez : turnP (cor (hullL ps) s) (cor (hullL ps) (s + 1)) p = 0 := by rw [et, hy1, Int.sub_self, Int.zero_mul]
      have hx1 : (cor (hullL ps) (s + 1)).x ≤ p.x := by
        by_cases ct : t = 1
        · -- all points are level
          exfalso
          have e4 : cor (hullL ps) (s + 1) = cor (hullL ps) 0 := by rw [← ct, ← hl]; exact cor_len _
          have lev : ∀ i, i ≤ s → (cor (hullL ps) i).y = p.y := fun i hi2 => by
            have m1 : ∀ k, k ≤ i → (cor (hullL ps) 0).y ≤ (cor (hullL ps) k).y := fun k => by
              induction k with
              | zero => intro _; exact Int.le_refl _
              | succ k ih => intro hk; have := ih (by omega); have := ymono k (by omega); omega
            have m2 : ∀ k, i + k ≤ s → (cor (hullL ps) i).y ≤ (cor (hullL ps) (i + k)).y := fun k => by
              induction k with
              | zero => intro _; exact Int.le_refl _
              | succ k ih => intro hk; have := ih (by omega); have := ymono (i + k) (by omega); rw [show i + (k + 1) = i + k + 1 by omega]; omega
            have a1 := m1 i (Nat.le_refl _)
            have a2 := m2 (s - i) (by omega)
            rw [show i + (s - i) = s by omega] at a2
            rw [e4] at hy1
            omega
          have tr := h.up.trn 0 (by omega)
          rw [← h.cu (i := 0) (by omega), ← h.cu (i := 0 + 1) (by omega), ← h.cu (i := 0 + 2) (by omega)] at tr
          unfold turnP at tr
          rw [lev 0 (by omega), lev (0 + 1) (by omega), lev (0 + 2) (by omega), Int.sub_self] at tr
          simp at tr
        · have tr := h.dn.trn 0 (by omega)
          simp only [neg_turn] at tr
          rw [← h.cd (j := 0) (by omega), ← h.cd (j := 0 + 1) (by omega), ← h.cd (j := 0 + 2) (by omega), Nat.add_zero, show s + (0 + 1) = s + 1 by omega, show s + (0 + 2) = s + 2 by omega, turn_fwd] at tr
          have l1 := h.left (s + 1) p hp
          rw [show s + 1 + 1 = s + 2 by omega, turn_cr] at l1
          unfold crV subP at tr l1
          simp only at tr l1
          rw [hy1, Int.sub_self, Int.zero_mul, Int.sub_zero] at tr
          rw [hy1, hy, Int.sub_self, Int.mul_zero, Int.zero_sub] at l1
          have hlt : (cor (hullL ps) (s + 1)).x < (cor (hullL ps) s).x := by omega
          have hyd : (cor (hullL ps) (s + 2)).y - (cor (hullL ps) s).y < 0 := by
            refine Classical.byContradiction fun k => ?_
            have := Int.mul_nonpos_of_nonpos_of_nonneg (show (cor (hullL ps) (s + 1)).x - (cor (hullL ps) s).x ≤ 0 by omega) (show 0 ≤ (cor (hullL ps) (s + 2)).y - (cor (hullL ps) s).y by omega)
            omega
          refine Classical.byContradiction fun k => ?_
          rw [hy] at hyd
          have := Int.mul_pos_of_neg_of_neg hyd (show p.x - (cor (hullL ps) (s + 1)).x < 0 by omega)
          omega
      have := on_flat ez hy (hy1.trans hy) (by omega) (by omega)
      rw [o0] at this
      cases this
/-- no point lies outside of the hull -/
theorem hull_holds (hs : SrtP ps) (h2 : 2 ≤ ps.length) (h3 : 3 ≤ (hullL ps).length) {p : Pt} (hp : p ∈ ps) : 0 ≤ insF [hullL ps] p := by
  obtain ⟨s, t, h⟩ := hul_of h2 hs
  unfold insF
  cases ho : onAny [hullL ps] p
  · simp only [Bool.false_eq_true, if_false]
    have hoff : ∀ i, onB p (cor (hullL ps) i) (cor (hullL ps) (i + 1)) = false := fun i => by
      rw [Bool.eq_false_iff] at ho ⊢
      intro hb
      refine ho ?_
      unfold onAny
      rw [List.any_eq_true]
      refine ⟨⟨0, cor (hullL ps) (i % (hullL ps).length), cor (hullL ps) (i % (hullL ps).length + 1)⟩, ?_, ?_⟩
      · rw [mem_sidesK]
        exact ⟨0, by simp, i % (hullL ps).length, Nat.mod_lt _ (by show 0 < (hullL ps).length; omega), rfl⟩
      · have e0 := cor_mm (hullL ps) i 0
        have e1 := cor_mm (hullL ps) i 1
        simp only [Nat.add_zero] at e0
        simp only [e0, e1]
        exact hb
    have : parR [hullL ps] p [hullL ps].length = true := by
      show (false ^^ isInF (hullL ps) p) = true
      rw [h.inn h3 hs hp hoff]; rfl
    rw [this]
    simp
  · simp
end

end Go.Proofs.YtejmbaiioblfeaaGreatDoor

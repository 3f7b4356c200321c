/- Contracts of functions that this seat's laws reach, each: what one call returns and what it leaves in memory; no condition beyond each theorem's own hypotheses. -/
import Derived.Test.YtejmbaiioblfeaaGreatDoorZqRegRefA
import Derived.Test.YtejmbaiioblfeaaGreatDoorZqRegH
import Derived.Test.YtejmbaiioblfeaaGreatDoorZqHulX
set_option linter.unusedVariables false
set_option linter.unusedSimpArgs false
namespace Go.Proofs.YtejmbaiioblfeaaGreatDoor
open Go Go.RowKit Go.Bl

def crs (a b p : Pt) : Bool := (decide (a.y > p.y) != decide (b.y > p.y)) && (decide (turnP a b p > 0) == decide (b.y > a.y))

/-- where both ways are, a b is on the left of p q -/
def Lft (a b p q : Pt) : Prop := (a.y < b.y → a.y ≤ p.y → p.y ≤ b.y → turnP a b p < 0) ∧ (a.y < b.y → a.y ≤ q.y → q.y ≤ b.y → turnP a b q < 0) ∧
  (p.y < q.y → p.y ≤ a.y → a.y ≤ q.y → 0 < turnP p q a) ∧ (p.y < q.y → p.y ≤ b.y → b.y ≤ q.y → 0 < turnP p q b)

theorem crs_iff {a b p : Pt} : crs a b p = true ↔ ¬ (a.y > p.y ↔ b.y > p.y) ∧ (turnP a b p > 0 ↔ b.y > a.y) := by
  unfold crs
  rw [Bool.and_eq_true, bne_iff_ne, beq_iff_eq, decide_eq_decide, ne_eq, decide_eq_decide]
/-- above p, not above q, and on the right of p q -/
def ins (p q v : Pt) : Bool := decide (p.y < v.y ∧ v.y ≤ q.y ∧ turnP p q v < 0)

def insW (p q v : Pt) : Bool := if p.y ≤ q.y then ins p q v else ins q p v

theorem isInK_xor (r : List Pt) (p : Pt) (k : Nat) : isInK r p (k + 1) = (isInK r p k ^^ crossG r p k) := by
  show (if crossG r p k then !isInK r p k else isInK r p k) = _
  cases crossG r p k <;> simp

end Go.Proofs.YtejmbaiioblfeaaGreatDoor

namespace Go.Proofs.YtejmbaiioblfeaaGreatDoor
open Go Go.RowKit Go.Bl

/-- forward: up, or level and to the right -/
def posV (u : Pt) : Prop := 0 < u.y ∨ (u.y = 0 ∧ 0 < u.x)

theorem pos_cmp {a b : Pt} : posV (subP b a) ↔ cmpPt a b < 0 := by
  rw [cmpPt_neg]; unfold posV subP; simp only; omega

theorem nn_of_mul {a b : Int} (hb : 0 < b) (h : 0 ≤ a * b) : 0 ≤ a := by
  rcases Int.lt_or_le a 0 with k | k
  · have := Int.mul_neg_of_neg_of_pos k hb; omega
  · exact k

theorem slope_id (u v w : Pt) : crV u w * v.y = crV u v * w.y + crV v w * u.y := by unfold crV; grind

theorem pos_y {u : Pt} (h : posV u) : 0 ≤ u.y := by unfold posV at h; omega

theorem slope_le {u v w : Pt} (hu : posV u) (hv : posV v) (hw : posV w) (h1 : 0 ≤ crV u v) (h2 : 0 ≤ crV v w) : 0 ≤ crV u w := by
  have hi := slope_id u v w
  have uy := pos_y hu
  have wy := pos_y hw
  rcases hv with hv | ⟨hv, hvx⟩
  · refine nn_of_mul hv ?_
    rw [hi]
    have := Int.mul_nonneg h1 wy
    have := Int.mul_nonneg h2 uy
    omega
  · have e : crV u v = -(u.y * v.x) := by unfold crV; rw [hv]; grind
    have hu0 : u.y = 0 := by
      rcases Int.lt_or_le 0 u.y with k | k
      · have := Int.mul_pos k hvx; omega
      · omega
    have e2 : crV u w = u.x * w.y := by unfold crV; rw [hu0]; grind
    rw [e2]
    exact Int.mul_nonneg (by unfold posV at hu; omega) wy

theorem slope_lt1 {u v w : Pt} (hu : posV u) (hv : posV v) (hw : posV w) (h1 : 0 < crV u v) (h2 : 0 ≤ crV v w) : 0 < crV u w := by
  have hi := slope_id u v w
  have uy := pos_y hu
  rcases hv with hv | ⟨hv, hvx⟩
  · rcases hw with hw | ⟨hw, hwx⟩
    · refine pos_of_mul hv ?_
      rw [hi]
      have := Int.mul_pos h1 hw
      have := Int.mul_nonneg h2 uy
      omega
    · have e : crV v w = -(v.y * w.x) := by unfold crV; rw [hw]; grind
      have := Int.mul_pos hv hwx
      omega
  · have e : crV u v = -(u.y * v.x) := by unfold crV; rw [hv]; grind
    have := Int.mul_nonneg uy (Int.le_of_lt hvx)
    omega

theorem cmp_trans {a b c : Pt} (h1 : cmpPt a b < 0) (h2 : cmpPt b c < 0) : cmpPt a c < 0 := by rw [cmpPt_neg] at *; omega

theorem cmp_asymm {a b : Pt} (h1 : cmpPt a b < 0) : ¬ cmpPt b a < 0 := by rw [cmpPt_neg] at *; omega

theorem cmp_anti' {a b : Pt} (h1 : ¬ cmpPt a b < 0) (h2 : ¬ cmpPt b a < 0) : a = b := by
  rw [cmpPt_neg] at h1 h2
  cases a; cases b
  simp only [Pt.mk.injEq] at *
  omega

/-! ### a stack of corners -/

def popF (q : Pt) : List Pt → List Pt
  | a :: b :: t => if turnP b a q ≤ 0 then popF q (b :: t) else a :: b :: t
  | t => t

def halfS (l : List Pt) : List Pt := l.foldl (fun st q => q :: popF q st) []

def headLeft (q : Pt) : Pt → List Pt → Prop
  | _, [] => True
  | h, c :: _ => 0 < turnP c h q

def Good (P : Pt → Prop) : List Pt → Prop
  | [] => True
  | [_] => True
  | a :: b :: t => cmpPt b a < 0 ∧ (∀ p, P p → 0 ≤ turnP b a p) ∧ headLeft a b t ∧ Good P (b :: t)

def TopP (P : Pt → Prop) (q h : Pt) : Prop := (∀ p, P p → p = h ∨ cmpPt p h < 0) ∨ ∃ a, cmpPt h a < 0 ∧ (∀ p, P p → 0 ≤ turnP h a p) ∧ turnP h a q ≤ 0

theorem pop_good {P : Pt → Prop} {q : Pt} : ∀ {st : List Pt} {a : Pt}, Good P (a :: st) → TopP P q a → ∃ h t, popF q (a :: st) = h :: t ∧ Good P (h :: t) ∧ TopP P q h ∧ headLeft q h t ∧ (h :: t) <:+ (a :: st)
  | [], a, hg, ht => ⟨a, [], rfl, hg, ht, trivial, List.suffix_refl _⟩
  | b :: t, a, hg, ht => by
    obtain ⟨h1, h2, h3, h4⟩ := hg
    unfold popF
    by_cases hc : turnP b a q ≤ 0
    · rw [if_pos hc]
      obtain ⟨h, t', e, k1, k2, k3, k4⟩ := pop_good (q := q) h4 (.inr ⟨a, h1, h2, hc⟩)
      exact ⟨h, t', e, k1, k2, k3, k4.trans (List.suffix_cons _ _)⟩
    · rw [if_neg hc]
      exact ⟨a, b :: t, rfl, ⟨h1, h2, h3, h4⟩, ht, by show 0 < turnP b a q; omega, List.suffix_refl _⟩

theorem turn_fwd (a b c : Pt) : turnP a b c = crV (subP b a) (subP c b) := turn_cr2 a b c

theorem cr_neg2 (u a b : Pt) : crV u (subP a b) = -crV u (subP b a) := by unfold crV subP; grind

theorem cr_swap (u v : Pt) : crV u v = -crV v u := by unfold crV; grind
/-- what comes later lies on the left of all that is there -/
theorem later_left {P : Pt → Prop} {q : Pt} : ∀ {t : List Pt} {a b : Pt}, Good P (a :: b :: t) → cmpPt a q < 0 → 0 ≤ turnP b a q → Good (fun p => P p ∨ p = q) (a :: b :: t)
  | [], a, b, ⟨h1, h2, h3, h4⟩, hq, hl => ⟨h1, fun p hp => by rcases hp with hp | rfl; exact h2 p hp; exact hl, h3, trivial⟩
  | c :: t, a, b, ⟨h1, h2, h3, h4⟩, hq, hl => by
    refine ⟨h1, fun p hp => by rcases hp with hp | rfl; exact h2 p hp; exact hl, h3, later_left h4 (cmp_trans h1 hq) ?_⟩
    obtain ⟨k1, -⟩ := h4
    have e1 : 0 < crV (subP b c) (subP a b) := by rw [← turn_fwd]; exact h3
    have e2 : 0 ≤ crV (subP a b) (subP q b) := by rw [← turn_cr]; exact hl
    rw [turn_fwd]
    exact Int.le_of_lt (slope_lt1 (pos_cmp.2 k1) (pos_cmp.2 h1) (pos_cmp.2 (cmp_trans h1 hq)) e1 e2)

theorem Good.mono {P Q : Pt → Prop} (hPQ : ∀ p, Q p → P p) : ∀ {st : List Pt}, Good P st → Good Q st
  | [], _ => trivial
  | [_], _ => trivial
  | a :: b :: t, ⟨h1, h2, h3, h4⟩ => ⟨h1, fun p hp => h2 p (hPQ p hp), h3, Good.mono hPQ h4⟩

theorem turn_self1 (a q : Pt) : turnP a q a = 0 := by unfold turnP; grind

theorem turn_self2 (a q : Pt) : turnP a q q = 0 := by unfold turnP; grind
/-- a step of one side -/
theorem push_good {P : Pt → Prop} {q : Pt} {a b0 : Pt} {st : List Pt} (hg : Good P (a :: st)) (htop : ∀ p, P p → p = a ∨ cmpPt p a < 0) (hbot : ∀ p, P p → p = b0 ∨ cmpPt b0 p < 0)
    (hlast : (a :: st).getLast? = some b0) (hmem : ∀ p ∈ a :: st, P p) (hq : ∀ p, P p → cmpPt p q < 0) :
    Good (fun p => P p ∨ p = q) (q :: popF q (a :: st)) ∧ (q :: popF q (a :: st)).getLast? = some b0 ∧ ∀ p ∈ q :: popF q (a :: st), P p ∨ p = q := by
  obtain ⟨h, t, e, k1, k2, k3, k4⟩ := pop_good (q := q) hg (.inl htop)
  rw [e]
  have hPh : P h := hmem h (k4.subset (List.mem_cons_self ..))
  have hhq := hq h hPh
  have hl2 : (h :: t).getLast? = some b0 := by
    obtain ⟨pre, hpre⟩ := k4
    rw [← hpre, List.getLast?_append] at hlast
    cases hx : (h :: t).getLast? with
    | none => simp at hx
    | some y => rw [hx] at hlast; simpa using hlast
  refine ⟨?_, ?_, fun p hp => ?_⟩
  · have hnew : ∀ p, P p → 0 ≤ turnP h q p := fun p hp => by
      by_cases e1 : p = h
      · rw [e1, turn_self1]; exact Int.le_refl _
      by_cases e2 : cmpPt h p < 0
      · rcases k2 with k2 | ⟨x, x1, x2, x3⟩
        · rcases k2 p hp with k | k
          · exact absurd k e1
          · exact absurd k (cmp_asymm e2)
        · rw [turn_cr]
          have y1 := x2 p hp
          rw [turn_cr] at y1 x3
          exact slope_le (pos_cmp.2 hhq) (pos_cmp.2 x1) (pos_cmp.2 e2) (by rw [cr_swap]; omega) y1
      · have e3 : cmpPt p h < 0 := Classical.byContradiction fun k => e1 (cmp_anti' k e2)
        cases t with
        | nil =>
          simp at hl2
          subst hl2
          rcases hbot p hp with k | k
          · exact absurd k e1
          · exact absurd k e2
        | cons c t =>
          obtain ⟨g1, g2, g3, g4⟩ := k1
          have y1 := g2 p hp
          have y2 : 0 < turnP c h q := k3
          rw [turn_fwd, cr_neg2] at y1
          rw [turn_fwd] at y2
          have y3 := slope_le (u := subP h p) (v := subP h c) (w := subP q h) (pos_cmp.2 e3) (pos_cmp.2 g1) (pos_cmp.2 hhq) (by rw [cr_swap]; omega) (Int.le_of_lt y2)
          rw [turn_cr, cr_neg2, cr_swap]
          omega
    have hold : Good (fun p => P p ∨ p = q) (h :: t) := by
      cases t with
      | nil => trivial
      | cons c t => exact later_left k1 hhq (Int.le_of_lt k3)
    refine ⟨hhq, fun p hp => ?_, k3, hold⟩
    rcases hp with hp | rfl
    · exact hnew p hp
    · rw [turn_self2]; exact Int.le_refl _
  · rw [List.getLast?_cons_cons]; exact hl2
  · rcases List.mem_cons.1 hp with rfl | hp
    · exact .inr rfl
    · exact .inl (hmem p (k4.subset hp))

end Go.Proofs.YtejmbaiioblfeaaGreatDoor

namespace Go.Proofs.YtejmbaiioblfeaaGreatDoor
open Go Go.RowKit Go.Bl

structure CM {G : Type} (op : G → G → G) (e : G) : Prop where
  assoc : ∀ a b c, op (op a b) c = op a (op b c)
  comm : ∀ a b, op a b = op b a
  idr : ∀ a, op a e = a

def foldW {G : Type} (op : G → G → G) (e : G) (F : Nat → G) (s : Nat) : Nat → G
  | 0 => e
  | k + 1 => op (foldW op e F s k) (F (s + k))

theorem foldW_add {G : Type} {op : G → G → G} {e : G} (h : CM op e) (F : Nat → G) (s k : Nat) : ∀ l, foldW op e F s (k + l) = op (foldW op e F s k) (foldW op e F (s + k) l)
  | 0 => (h.idr _).symm
  | l + 1 => by
    show op (foldW op e F s (k + l)) (F (s + (k + l))) = op _ (op (foldW op e F (s + k) l) (F (s + k + l)))
    rw [foldW_add h F s k l, h.assoc, Nat.add_assoc]

theorem cm_xor : CM Bool.xor false := ⟨by decide, by decide, by decide⟩

/-- a right ring, as what goes round -/
structure RR (n : Nat) (f : Nat → Pt) : Prop where
  n3 : 3 ≤ n
  per : ∀ i, f (i + n) = f i
  inj : ∀ i j, i < j → j < i + n → f i ≠ f j
  fold : ∀ i, foldB (f (i + 1)) (f i) (f (i + 2)) = false
  side : ∀ i j, i + 2 ≤ j → j + 2 ≤ i + n → meetM (f i) (f (i + 1)) (f j) (f (j + 1)) = false

theorem cor_mm (r : List Pt) (i k : Nat) : cor r (i % r.length + k) = cor r (i + k) := by unfold cor; rw [Nat.mod_add_mod]

theorem ringF_of {r : List Pt} (hl : r.length ≤ 500) (hb : r.any farP = false) (h : RR r.length (cor r)) : ringF r = 0 := by
  have h3 := h.n3
  have ht : twiceB r = false := any_no fun k hk => by
    rw [decide_eq_false_iff_not]
    intro hm
    obtain ⟨i, hi, e⟩ := List.mem_take_iff_getElem.1 hm
    have : cor r i = cor r k := by rw [cor_lt (by omega)]; exact e
    exact h.inj i k (by omega) (by omega) this
  have hs : sidesF r = 0 := by
    unfold sidesF
    rw [any_no fun i hi => ?_]
    · rfl
    · unfold badI
      rw [h.fold i, Bool.false_or]
      refine any_no fun k hk => ?_
      unfold sidesM
      by_cases hd : i + 2 ≤ k ∧ ¬(i = 0 ∧ k + 1 = r.length)
      · rw [h.side i k (by omega) (by omega), Bool.and_false]
      · rw [decide_eq_false hd, Bool.false_and]
  unfold ringF
  rw [if_neg (by omega), if_neg (by omega), hb, ht, if_neg (by decide), if_neg (by decide)]
  exact hs

def vecF (f : Nat → Pt) (k : Nat) : Pt := subP (f (k + 1)) (f k)

def dblP (a b : Pt) : Int := a.x * b.y - a.y * b.x

theorem sub_zero (a : Pt) : ∀ u, ¬ parV u (subP a a) := by
  intro u h
  have := h.2
  have e : doV u (subP a a) = 0 := by unfold doV subP; simp
  omega

/-- the corner's turn -/
def tzF (n : Nat) (f : Nat → Pt) (k : Nat) : Int := turnP (f (k + n - 1)) (f k) (f (k + 1))

/-- the corners that are not straight -/
def keepI (r : List Pt) : List Nat := (List.range r.length).filter fun k => decide (tzF r.length (cor r) k ≠ 0)

def simpR (r : List Pt) : List Pt := (keepI r).map (cor r)

def sgI (r : List Pt) (i : Nat) : Nat := (keepI r).getD (i % (keepI r).length) 0 + r.length * (i / (keepI r).length)

theorem isInK_fold (r : List Pt) (p : Pt) : ∀ k, isInK r p k = foldW Bool.xor false (fun i => crs (cor r i) (cor r (i + 1)) p) 0 k
  | 0 => rfl
  | k + 1 => by
    rw [isInK_xor, isInK_fold r p k]
    show _ = Bool.xor _ (crs (cor r (0 + k)) (cor r (0 + k + 1)) p)
    rw [Nat.zero_add]; rfl

end Go.Proofs.YtejmbaiioblfeaaGreatDoor

namespace Go.Proofs.YtejmbaiioblfeaaGreatDoor
open Go Go.RowKit Go.Bl

def SrtP (l : List Pt) : Prop := l.Pairwise fun a b => cmpPt a b < 0

theorem half_snoc (l : List Pt) (q : Pt) : halfS (l ++ [q]) = q :: popF q (halfS l) := by unfold halfS; rw [List.foldl_append]; rfl

theorem half_all : ∀ (n : Nat) (l : List Pt), l.length = n + 1 → SrtP l → ∃ a st, halfS l = a :: st ∧ Good (fun p => p ∈ l) (a :: st) ∧ (∀ p ∈ l, p = a ∨ cmpPt p a < 0) ∧ l.getLast? = some a ∧ (a :: st).getLast? = l.head? ∧ ∀ p ∈ a :: st, p ∈ l
  | 0, l, hl, _ => by
    obtain ⟨a, rfl⟩ := List.length_eq_one_iff.1 hl
    exact ⟨a, [], rfl, trivial, fun p hp => .inl (List.mem_singleton.1 hp), rfl, rfl, fun p hp => hp⟩
  | n + 1, l, hl, hs => by
    have hne : l ≠ [] := by rintro rfl; simp at hl
    obtain ⟨l', q, rfl⟩ : ∃ l' q, l = l' ++ [q] := ⟨l.dropLast, l.getLast hne, (List.dropLast_concat_getLast hne).symm⟩
    have hl' : l'.length = n + 1 := by simpa using hl
    obtain ⟨s1, -, s3⟩ := List.pairwise_append.1 hs
    obtain ⟨a, st, e, g, ht, h1, h2, h3⟩ := half_all n l' hl' s1
    have hq : ∀ p ∈ l', cmpPt p q < 0 := fun p hp => s3 p hp q (List.mem_singleton.2 rfl)
    obtain ⟨b0, t0, hb0⟩ : ∃ b0 t0, l' = b0 :: t0 := by
      cases l' with
      | nil => simp at hl'
      | cons b t => exact ⟨b, t, rfl⟩
    have hbot : ∀ p, p ∈ l' → p = b0 ∨ cmpPt b0 p < 0 := fun p hp => by
      rw [hb0] at hp s1
      rcases List.mem_cons.1 hp with k | k
      · exact .inl k
      · exact .inr ((List.pairwise_cons.1 s1).1 p k)
    obtain ⟨k1, k2, k3⟩ := push_good g ht hbot (by rw [h2, hb0]; rfl) h3 hq
    rw [half_snoc, e]
    refine ⟨q, _, rfl, Good.mono (fun p hp => ?_) k1, fun p hp => ?_, by simp, by rw [k2, hb0]; rfl, fun p hp => ?_⟩
    · rcases List.mem_append.1 hp with k | k
      · exact .inl k
      · exact .inr (List.mem_singleton.1 k)
    · rcases List.mem_append.1 hp with k | k
      · exact .inr (hq p k)
      · exact .inl (List.mem_singleton.1 k)
    · rcases k3 p hp with k | k
      · exact List.mem_append_left _ k
      · rw [k]; simp

structure Chain (P : Pt → Prop) (u : Nat → Pt) (s : Nat) : Prop where
  inc : ∀ i, i < s → cmpPt (u i) (u (i + 1)) < 0
  lft : ∀ i, i < s → ∀ p, P p → 0 ≤ turnP (u i) (u (i + 1)) p
  trn : ∀ i, i + 2 ≤ s → 0 < turnP (u i) (u (i + 1)) (u (i + 2))
  mem : ∀ i, i ≤ s → P (u i)

theorem good_at {P : Pt → Prop} : ∀ {st : List Pt}, Good P st → ∀ j, j + 1 < st.length → cmpPt (st.getD (j + 1) default) (st.getD j default) < 0 ∧ (∀ p, P p → 0 ≤ turnP (st.getD (j + 1) default) (st.getD j default) p) ∧ (j + 2 < st.length → 0 < turnP (st.getD (j + 2) default) (st.getD (j + 1) default) (st.getD j default))
  | [], _, j, h => by simp at h
  | [_], _, j, h => by simp at h
  | a :: b :: t, ⟨h1, h2, h3, h4⟩, 0, _ => by
    refine ⟨h1, h2, fun h => ?_⟩
    cases t with
    | nil => simp at h
    | cons c t => exact h3
  | a :: b :: t, ⟨h1, h2, h3, h4⟩, j + 1, h => by
    have := good_at h4 j (by simp at h ⊢; omega)
    refine ⟨this.1, this.2.1, fun hh => this.2.2 (by simp at hh ⊢; omega)⟩

theorem rev_at {st : List Pt} {i : Nat} (h : i < st.length) : st.reverse.getD i default = st.getD (st.length - 1 - i) default := by
  rw [List.getD_eq_getElem?_getD, List.getD_eq_getElem?_getD, List.getElem?_reverse h]
/-- one side of a hull -/
theorem half_chain {l : List Pt} (h0 : 0 < l.length) (hs : SrtP l) : ∃ s, (halfS l).length = s + 1 ∧ Chain (fun p => p ∈ l) (fun i => (halfS l).reverse.getD i default) s ∧ l.head? = some ((halfS l).reverse.getD 0 default) ∧ l.getLast? = some ((halfS l).reverse.getD s default) := by
  obtain ⟨a, st, e, g, -, h1, h2, h3⟩ := half_all (l.length - 1) l (by omega) hs
  rw [e]
  refine ⟨st.length, rfl, ⟨fun i hi => ?_, fun i hi p hp => ?_, fun i hi => ?_, fun i hi => ?_⟩, ?_, ?_⟩
  · have := (good_at g (st.length - 1 - i) (by simp; omega)).1
    rw [rev_at (by simp; omega), rev_at (by simp; omega)]
    rw [show (a :: st).length - 1 - i = st.length - 1 - i + 1 by simp; omega, show (a :: st).length - 1 - (i + 1) = st.length - 1 - i by simp; omega]
    exact this
  · have := (good_at g (st.length - 1 - i) (by simp; omega)).2.1 p hp
    rw [rev_at (by simp; omega), rev_at (by simp; omega)]
    rw [show (a :: st).length - 1 - i = st.length - 1 - i + 1 by simp; omega, show (a :: st).length - 1 - (i + 1) = st.length - 1 - i by simp; omega]
    exact this
  · have := (good_at g (st.length - 2 - i) (by simp; omega)).2.2 (by simp; omega)
    rw [rev_at (by simp; omega), rev_at (by simp; omega), rev_at (by simp; omega)]
    rw [show (a :: st).length - 1 - i = st.length - 2 - i + 2 by simp; omega, show (a :: st).length - 1 - (i + 1) = st.length - 2 - i + 1 by simp; omega, show (a :: st).length - 1 - (i + 2) = st.length - 2 - i by simp; omega]
    exact this
  · refine h3 _ ?_
    have hlt : i < (a :: st).reverse.length := by simp; omega
    show (a :: st).reverse.getD i default ∈ _
    rw [List.getD_eq_getElem?_getD, List.getElem?_eq_getElem hlt, Option.getD_some]
    exact List.mem_reverse.1 (List.getElem_mem hlt)
  · rw [← h2, rev_at (by simp), List.getLast?_eq_getElem?]
    simp only [List.length_cons, Nat.add_sub_cancel, Nat.sub_zero]
    rw [List.getD_eq_getElem?_getD, List.getElem?_eq_getElem (by simp), Option.getD_some]
  · rw [h1, rev_at (by simp)]
    simp

section
variable {P : Pt → Prop} {u d : Nat → Pt} {s t : Nat}

theorem turn_more (a b c c' : Pt) : turnP a b c' = turnP a b c + crV (subP b a) (subP c' c) := by unfold turnP crV subP; grind

theorem Chain.pos (h : Chain P u s) {i : Nat} (hi : i < s) : posV (subP (u (i + 1)) (u i)) := pos_cmp.2 (h.inc i hi)

theorem Chain.slope (h : Chain P u s) {i : Nat} : ∀ {j : Nat}, i < j → j < s → 0 < crV (subP (u (i + 1)) (u i)) (subP (u (j + 1)) (u j))
  | 0, hij, _ => by omega
  | j + 1, hij, hj => by
    have ht := h.trn j (by omega)
    rw [turn_fwd] at ht
    by_cases e : i = j
    · subst e; exact ht
    · exact slope_lt1 (h.pos (by omega)) (h.pos (by omega)) (h.pos hj) (h.slope (j := j) (by omega) (by omega)) (Int.le_of_lt ht)

theorem Chain.up (h : Chain P u s) {i : Nat} : ∀ {k : Nat}, i + 2 ≤ k → k ≤ s → 0 < turnP (u i) (u (i + 1)) (u k)
  | 0, hk, _ => by omega
  | k + 1, hk, hks => by
    by_cases e : k = i + 1
    · subst e; exact h.trn i hks
    · rw [turn_more _ _ (u k)]
      have := h.up (i := i) (k := k) (by omega) (by omega)
      have := h.slope (i := i) (j := k) (by omega) (by omega)
      omega

theorem Chain.dn (h : Chain P u s) {i : Nat} (hi : i < s) : ∀ m, m < i → 0 < turnP (u i) (u (i + 1)) (u (i - 1 - m)) := by
  intro m
  induction m with
  | zero =>
    intro hm
    rw [turn_more _ _ (u i), turn_self1, cr_neg2]
    have := h.slope (i := i - 1) (j := i) (by omega) hi
    rw [show i - 1 + 1 = i by omega] at this
    rw [cr_swap] at this
    rw [Nat.sub_zero]
    omega
  | succ m ih =>
    intro hm
    rw [turn_more _ _ (u (i - 1 - m)), cr_neg2]
    have h1 := ih (by omega)
    have := h.slope (i := i - 1 - (m + 1)) (j := i) (by omega) hi
    rw [show i - 1 - (m + 1) + 1 = i - 1 - m by omega] at this
    rw [cr_swap] at this
    omega

theorem Chain.off (h : Chain P u s) {i k : Nat} (hi : i < s) (hk : k ≤ s) (h1 : k ≠ i) (h2 : k ≠ i + 1) : 0 < turnP (u i) (u (i + 1)) (u k) := by
  rcases Nat.lt_or_gt_of_ne h1 with c | c
  · have := h.dn hi (i - 1 - k) (by omega)
    rwa [show i - 1 - (i - 1 - k) = k by omega] at this
  · exact h.up (by omega) hk

theorem Chain.mono (h : Chain P u s) {i : Nat} : ∀ {j : Nat}, i < j → j ≤ s → cmpPt (u i) (u j) < 0
  | 0, hij, _ => by omega
  | j + 1, hij, hj => by
    by_cases e : i = j
    · subst e; exact h.inc i hj
    · exact cmp_trans (h.mono (j := j) (by omega) (by omega)) (h.inc j hj)

def negP (p : Pt) : Pt := ⟨-p.x, -p.y⟩

theorem neg_neg (p : Pt) : negP (negP p) = p := by unfold negP; simp

theorem neg_turn (a b c : Pt) : turnP (negP a) (negP b) (negP c) = turnP a b c := by unfold turnP negP; grind

theorem neg_cmp (a b : Pt) : cmpPt (negP a) (negP b) < 0 ↔ cmpPt b a < 0 := by rw [cmpPt_neg, cmpPt_neg]; unfold negP; simp only; omega

theorem neg_pop (q : Pt) : ∀ st : List Pt, popF (negP q) (st.map negP) = (popF q st).map negP
  | [] => rfl
  | [_] => rfl
  | a :: b :: t => by
    show (if turnP (negP b) (negP a) (negP q) ≤ 0 then popF (negP q) ((b :: t).map negP) else (a :: b :: t).map negP) = (if turnP b a q ≤ 0 then popF q (b :: t) else a :: b :: t).map negP
    rw [neg_turn, neg_pop q (b :: t)]
    split <;> rfl

theorem neg_half (l : List Pt) : halfS (l.map negP) = (halfS l).map negP := by
  have : ∀ (l st : List Pt), (l.map negP).foldl (fun st q => q :: popF q st) (st.map negP) = (l.foldl (fun st q => q :: popF q st) st).map negP := by
    intro l
    induction l with
    | nil => intro st; rfl
    | cons a l ih =>
      intro st
      rw [List.map_cons, List.foldl_cons, List.foldl_cons, neg_pop, ← List.map_cons, ih]
  exact this l []
/-- the way back: a side of what is turned round -/
def Back (P : Pt → Prop) (d : Nat → Pt) (t : Nat) : Prop := Chain (fun p => P (negP p)) (fun j => negP (d j)) t

theorem Back.back (h : Chain P u s) : Back (fun p => P (negP p)) (fun j => negP (u j)) s :=
  ⟨fun i hi => by simp only [neg_neg]; exact h.inc i hi, fun i hi p hp => by simp only [neg_neg] at *; exact h.lft i hi p hp, fun i hi => by simp only [neg_neg]; exact h.trn i hi, fun i hi => by simp only [neg_neg]; exact h.mem i hi⟩
/-- the inner corners of the other side lie off -/
theorem Chain.opp (h : Chain P u s) (hb : Back P d t) {i j : Nat} (hi : i < s) (h0 : 0 < j) (hj : j < t) : 0 < turnP (u i) (u (i + 1)) (d j) := by
  have hP : ∀ j, j ≤ t → P (d j) := fun j hj => by have := hb.mem j hj; simpa [neg_neg] using this
  have l0 := h.lft i hi _ (hP j (by omega))
  rcases Int.lt_or_le 0 (turnP (u i) (u (i + 1)) (d j)) with k | k
  · exact k
  · exfalso
    have z : turnP (u i) (u (i + 1)) (d j) = 0 := by omega
    have l1 := h.lft i hi _ (hP (j - 1) (by omega))
    have l2 := h.lft i hi _ (hP (j + 1) (by omega))
    rw [turn_more _ _ (d j), z] at l1 l2
    have p1 := hb.inc (j - 1) (by omega)
    have p2 := hb.inc j hj
    have tr := hb.trn (j - 1) (by omega)
    simp only [neg_cmp, neg_turn] at p1 p2 tr
    rw [show j - 1 + 1 = j by omega] at p1 tr
    rw [show j - 1 + 2 = j + 1 by omega, turn_fwd, cr_neg2] at tr
    have tr2 : 0 < crV (subP (d (j - 1)) (d j)) (subP (d j) (d (j + 1))) := by
      have e : crV (subP (d j) (d (j - 1))) (subP (d j) (d (j + 1))) = -crV (subP (d (j - 1)) (d j)) (subP (d j) (d (j + 1))) := by unfold crV subP; grind
      omega
    rw [cr_neg2] at l2
    have s1 := slope_le (u := subP (d j) (d (j + 1))) (v := subP (u (i + 1)) (u i)) (w := subP (d (j - 1)) (d j)) (pos_cmp.2 p2) (h.pos hi) (pos_cmp.2 p1) (by rw [cr_swap]; omega) (by omega)
    rw [cr_swap] at s1
    omega
end

/-- a ring of which all other corners lie on the left of each side -/
structure Cvx (n : Nat) (f : Nat → Pt) : Prop where
  n3 : 3 ≤ n
  per : ∀ i, f (i + n) = f i
  off : ∀ i k, i < n → k < n → k ≠ i → k ≠ (i + 1) % n → 0 < turnP (f i) (f (i + 1)) (f k)

theorem Cvx.mod {n : Nat} {f : Nat → Pt} (h : Cvx n f) (i : Nat) : f i = f (i % n) := by
  have hn := h.n3
  induction i using Nat.strongRecOn with
  | ind i ih =>
    by_cases c : i < n
    · rw [Nat.mod_eq_of_lt c]
    · have := h.per (i - n)
      rw [Nat.sub_add_cancel (by omega)] at this
      rw [this, ih (i - n) (by omega), ← Nat.mod_eq_sub_mod (by omega)]

theorem Cvx.mod1 {n : Nat} {f : Nat → Pt} (h : Cvx n f) (i : Nat) : f (i + 1) = f (i % n + 1) := by
  rw [h.mod (i + 1), h.mod (i % n + 1), Nat.mod_add_mod]

theorem Cvx.off' {n : Nat} {f : Nat → Pt} (h : Cvx n f) {i k : Nat} (h1 : k % n ≠ i % n) (h2 : k % n ≠ (i + 1) % n) : 0 < turnP (f i) (f (i + 1)) (f k) := by
  have hn := h.n3
  have := h.off (i % n) (k % n) (Nat.mod_lt _ (by omega)) (Nat.mod_lt _ (by omega)) h1 (by rw [Nat.mod_add_mod]; exact h2)
  rwa [← h.mod1, ← h.mod i, ← h.mod k] at this

theorem mod_ne {n i k : Nat} (h1 : i < k) (h2 : k < i + n) : k % n ≠ i % n := fun e => by
  have := Nat.sub_mod_eq_zero_of_mod_eq e
  rw [Nat.mod_eq_of_lt (by omega)] at this
  omega

theorem Cvx.rr {n : Nat} {f : Nat → Pt} (h : Cvx n f) : RR n f := by
  have hn := h.n3
  refine ⟨hn, h.per, fun i j h1 h2 e => ?_, fun i => ?_, fun i j h1 h2 => ?_⟩
  · have m1 := mod_ne h1 h2
    by_cases c : j = i + 1
    · have := h.off' (i := j) (k := i) m1.symm (fun q => by
        subst c
        exact mod_ne (n := n) (i := i) (k := i + 1 + 1) (by omega) (by omega) q.symm)
      rw [e, turn_self1] at this
      omega
    · have := h.off' (i := i) (k := j) m1 (fun q => mod_ne (n := n) (i := i + 1) (k := j) (by omega) (by omega) q)
      rw [← e, turn_self1] at this
      omega
  · have := h.off' (i := i) (k := i + 2) (mod_ne (by omega) (by omega)) (mod_ne (by omega) (by omega))
    unfold foldB
    rw [turn_flip, decide_eq_false (by omega), Bool.false_and]
  · have a1 := h.off' (i := i) (k := j) (mod_ne (by omega) (by omega)) (mod_ne (by omega) (by omega))
    have a2 := h.off' (i := i) (k := j + 1) (mod_ne (by omega) (by omega)) (mod_ne (by omega) (by omega))
    rw [Bool.eq_false_iff]
    intro k
    have := (meetM_iff.1 k).2.1
    omega

end Go.Proofs.YtejmbaiioblfeaaGreatDoor

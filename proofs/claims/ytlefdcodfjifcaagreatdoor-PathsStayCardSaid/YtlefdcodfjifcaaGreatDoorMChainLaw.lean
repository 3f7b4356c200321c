/- Contracts of functions that this seat's laws reach, each: what one call returns and what it leaves in memory; no condition beyond each theorem's own hypotheses. -/
import Derived.Test.YtlefdcodfjifcaaGreatDoorMChainBT
import Derived.Test.YtlefdcodfjifcaaGreatDoorMChainC
import Derived.Test.YtlefdcodfjifcaaGreatDoorMPrintData
set_option linter.unusedVariables false
set_option linter.unusedSimpArgs false
namespace Go.Proofs.YtlefdcodfjifcaaGreatDoor
open Go Go.Bl

theorem sumF_set (f : PathV → Int) {l : List PathV} {i : Nat} (h : i < l.length) (x : PathV) : ((l.set i x).map f).sum + f l[i] = (l.map f).sum + f x := by
  induction l generalizing i with
  | nil => simp at h
  | cons y l ih => cases i with
    | zero => simp; omega
    | succ i =>
      have := ih (i := i) (by simpa using h)
      simp only [List.set_cons_succ, List.map_cons, List.sum_cons, List.getElem_cons_succ]; omega

theorem sumF_erase (f : PathV → Int) {l : List PathV} {k : Nat} (h : k < l.length) : ((l.eraseIdx k).map f).sum + f l[k] = (l.map f).sum := by
  induction l generalizing k with
  | nil => simp at h
  | cons y l ih => cases k with
    | zero => simp; omega
    | succ k =>
      have := ih (k := k) (by simpa using h)
      simp only [List.eraseIdx_cons_succ, List.map_cons, List.sum_cons, List.getElem_cons_succ]; omega

theorem sumF_join (f : PathV → Int) {l : List PathV} {i k : Nat} (hi : i < l.length) (hk : k < l.length) (hki : k ≠ i) : ((joinP l i k).map f).sum + f l[i] + f l[k] = (l.map f).sum + f (joinedP l i k) := by
  have e1 := sumF_set f hi (joinedP l i k)
  have hk2 : k < (l.set i (joinedP l i k)).length := by simpa using hk
  have e2 := sumF_erase f hk2
  rw [List.getElem_set_ne (fun e => hki e.symm)] at e2
  unfold joinP
  omega

def plen : List Pt → Int
  | [] => 0
  | [_] => 0
  | a :: b :: r => distP a b + plen (b :: r)

theorem plen_snoc : ∀ (l : List Pt) (x : Pt), plen (l ++ [x]) = plen l + (if l = [] then 0 else distP (l.getD (l.length - 1) default) x)
  | [], x => by simp [plen]
  | [a], x => by simp [plen]
  | a :: b :: r, x => by
    have ih := plen_snoc (b :: r) x
    simp only [List.cons_append] at ih ⊢
    unfold plen
    rw [ih]
    simp only [reduceCtorEq, if_false, List.length_cons]
    have e : (a :: b :: r).getD (r.length + 1 + 1 - 1) default = (b :: r).getD (r.length + 1 - 1) default := by
      rw [show r.length + 1 + 1 - 1 = (r.length + 1 - 1) + 1 by omega, List.getD_cons_succ]
    rw [e]; omega

theorem plen_join (f : Pt) (r : List Pt) : ∀ (a : List Pt), a ≠ [] → a.getD (a.length - 1) default = f → plen (a ++ r) = plen a + plen (f :: r)
  | [], h, _ => absurd rfl h
  | [x], _, h => by
    have : x = f := by simpa using h
    subst this
    simp [plen]
  | x :: y :: a, _, h => by
    have ih := plen_join f r (y :: a) (by simp) (by
      rw [← h]
      simp only [List.length_cons]
      rw [show a.length + 1 + 1 - 1 = (a.length + 1 - 1) + 1 by omega, List.getD_cons_succ])
    simp only [List.cons_append] at ih ⊢
    rw [show plen (x :: y :: (a ++ r)) = distP x y + plen (y :: (a ++ r)) from rfl, show plen (x :: y :: a) = distP x y + plen (y :: a) from rfl, ih]; omega

theorem longTo_open {p : PathV} (hc : p.cl = false) : ∀ k, k ≤ p.pts.length → longTo p k = plen (p.pts.take k)
  | 0, _ => by simp [longTo, plen]
  | k + 1, hk => by
    have hk2 : k < p.pts.length := by omega
    rw [longTo_succ, longTo_open hc k (by omega), take_snoc hk2, plen_snoc]
    congr 1
    unfold stepL
    rw [hc]
    rcases Nat.eq_zero_or_pos k with h | h
    · subst h; simp
    · have hne : p.pts.take k ≠ [] := by
        intro e
        have := congrArg List.length e
        rw [List.length_take] at this
        simp only [List.length_nil] at this
        omega
      rw [if_neg (show ¬ k = 0 by omega), if_neg hne]
      have hl : (p.pts.take k).length = k := by rw [List.length_take]; omega
      rw [hl]
      congr 1
      · rw [List.getD_eq_getElem?_getD, List.getD_eq_getElem?_getD, List.getElem?_take, if_pos (by omega)]
      · rw [List.getD_eq_getElem?_getD, List.getElem?_eq_getElem hk2, Option.getD_some]

theorem longP_open {p : PathV} (hc : p.cl = false) : longP p = plen p.pts := by
  unfold longP
  rw [longTo_open hc _ (Nat.le_refl _), List.take_length]

theorem closedN_sum (l : List PathV) : (closedN l : Int) = (l.map fun p => if p.cl then (1 : Int) else 0).sum := by
  unfold closedN
  induction l with
  | nil => rfl
  | cons x l ih =>
    rw [List.countP_cons, List.map_cons, List.sum_cons, ← ih]
    cases x.cl <;> simp <;> omega

theorem pathF_of {p : PathV} (h0 : 0 < p.pts.length) (h1 : p.pts.length ≤ 500) (h2 : p.cl = false) (h3 : ∀ q ∈ p.pts, farP q = false) : pathF p = 0 := by
  unfold pathF
  rw [if_neg (by omega), if_neg (by omega), if_neg (by simp [h2]), if_neg]
  simpa using h3

theorem orL_zeros : ∀ (l : List Int), (∀ x ∈ l, x = 0) → orL l = 0
  | [], _ => rfl
  | x :: l, h => by
    have hx := h x (by simp)
    have ih := orL_zeros l (fun y hy => h y (List.mem_cons_of_mem _ hy))
    subst hx
    simp [orL, orS, ih]

theorem pathsF_of {l : List PathV} (h : l.length ≤ 200) (hp : ∀ p ∈ l, pathF p = 0) : pathsF l = 0 := by
  unfold pathsF
  rw [if_neg (by omega)]
  exact orL_zeros _ (fun x hx => by obtain ⟨p, hpm, rfl⟩ := List.mem_map.1 hx; exact hp p hpm)

theorem chain1_keeps {l m : List PathV} (h : chain1 l = some m) (hF : pathsF l = 0) (hT : totP l ≤ 500) :
    pathsF m = 0 ∧ longSum m = longSum l ∧ closedN m = closedN l ∧ totP m + 1 = totP l ∧ m.length + 1 = l.length := by
  obtain ⟨hl, hpf⟩ := pathsF_zero hF
  have hlen := chain1_len h
  obtain ⟨hfm, htm⟩ := chain1_tot h (fun x hx => (pathF_zero (hpf x hx)).1)
  obtain ⟨i, k, hi, hk, hki, hci, hck, hfe, rfl⟩ := chain1_parts h
  have gi := getD_at hi
  have gk := getD_at hk
  rw [gi] at hci
  rw [gk] at hck
  rw [gi, gk] at hfe
  have hJc : (joinedP l i k).cl = false := by unfold joinedP; rw [gi]; exact hci
  have hJp : (joinedP l i k).pts = l[i].pts ++ l[k].pts.drop 1 := by unfold joinedP; rw [gi, gk]
  obtain ⟨pi0, -, pi3⟩ := pathF_zero (hpf _ (List.getElem_mem hi))
  obtain ⟨pk0, -, pk3⟩ := pathF_zero (hpf _ (List.getElem_mem hk))
  refine ⟨pathsF_of (by omega) (fun q hq => ?_), ?_, ?_, htm, hlen⟩
  · have hq0 := hfm q hq
    have hqt := tot_mem q hq
    unfold joinP at hq
    rcases List.mem_or_eq_of_mem_set (List.mem_of_mem_eraseIdx hq) with hq1 | rfl
    · exact hpf q hq1
    · refine pathF_of hq0 (by omega) hJc (fun z hz => ?_)
      rw [hJp] at hz
      rcases List.mem_append.1 hz with hz | hz
      · exact pi3 z hz
      · exact pk3 z (List.mem_of_mem_drop hz)
  · have e := sumF_join longP hi hk hki
    have ej : longP (joinedP l i k) = longP l[i] + longP l[k] := by
      rw [longP_open hJc, longP_open hci, longP_open hck, hJp]
      have hne : l[i].pts ≠ [] := fun e => by rw [e] at pi0; cases pi0
      rw [plen_join (endP l[i]) _ _ hne rfl]
      congr 2
      rw [← hfe]
      unfold frontP
      cases hh : l[k].pts with
      | nil => rw [hh] at pk0; cases pk0
      | cons a b => rfl
    unfold longSum longs
    omega
  · have e := sumF_join (fun p => if p.cl then (1 : Int) else 0) hi hk hki
    simp only [hci, hck, hJc, Bool.false_eq_true, if_false] at e
    have e1 := closedN_sum (joinP l i k)
    have e2 := closedN_sum l
    omega

theorem chainN_keeps : ∀ (n : Nat) (l : List PathV), pathsF l = 0 → totP l ≤ 500 →
    pathsF (chainN n l) = 0 ∧ longSum (chainN n l) = longSum l ∧ closedN (chainN n l) = closedN l ∧ totP (chainN n l) + l.length = totP l + (chainN n l).length ∧ (chainN n l).length ≤ l.length
  | 0, l, hF, _ => ⟨hF, rfl, rfl, rfl, Nat.le_refl _⟩
  | n + 1, l, hF, hT => by
    unfold chainN
    cases h : chain1 l with
    | none => exact ⟨hF, rfl, rfl, rfl, Nat.le_refl _⟩
    | some m =>
      simp only
      obtain ⟨h1, h2, h3, h4, h5⟩ := chain1_keeps h hF hT
      obtain ⟨k1, k2, k3, k4, k5⟩ := chainN_keeps n m h1 (by omega)
      exact ⟨k1, by omega, by omega, by omega, by omega⟩

end Go.Proofs.YtlefdcodfjifcaaGreatDoor

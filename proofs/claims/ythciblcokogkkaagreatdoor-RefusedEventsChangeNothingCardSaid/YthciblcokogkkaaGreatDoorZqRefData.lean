/- Contracts of functions that this seat's laws reach, each: what one call returns and what it leaves in memory; no condition beyond each theorem's own hypotheses. -/
import Derived.Test.YthciblcokogkkaaGreatDoorZqBusData
import Derived.Test.YthciblcokogkkaaGreatDoorZqPrnBin
set_option linter.unusedVariables false
set_option linter.unusedSimpArgs false
namespace Go.Proofs.YthciblcokogkkaaGreatDoor
open Go Go.RowKit Go.Bl

theorem evs_ord {l : List Ev} (h : evsF l = 0) : ordE 0 l := by
  obtain ⟨hlen, hok⟩ := evsF_zero h
  refine ordE_of (fun e he => (hok e he).at1.1) fun k hk => ?_
  unfold evsF at h
  rw [if_neg (show ¬ 5000 < l.length by omega)] at h
  have h2 := scanN_all h (k + 1) hk
  have e1 : l.getD (k + 1) default = l[k + 1] := by simp [List.getD, hk]
  have e2 : l.getD (k + 1 - 1) default = l[k] := by simp [List.getD, show k < l.length by omega]
  by_cases hl : l[k + 1].at_ < l[k].at_
  · exfalso
    have h3 : lateB l (k + 1) = true := by unfold lateB; rw [e1, e2]; simp [hl]
    unfold evF at h2
    rw [h3] at h2
    split at h2
    · cases h2
    split at h2
    · cases h2
    split at h2
    · cases h2
    split at h2
    · cases h2
    cases h2
  · omega

theorem keyB_okK {b : ByteArray} (h : keyB b = true) : b.size ≤ 40 := by
  unfold keyB at h
  simp only [Bool.and_eq_true, decide_eq_true_eq] at h
  exact h.1.1.2

end Go.Proofs.YthciblcokogkkaaGreatDoor

namespace Go.Proofs.YthciblcokogkkaaGreatDoor
open Go Go.RowKit Go.Bl

theorem goodL_take : ∀ {l : List Ev} {F : Flr} {j : Nat} (h : j < l.length), goodL F (l.take (j + 1)) = goodL F (l.take j) ++ (if doE (runS F (l.take j)) l[j] = 0 then [l[j]] else [])
  | e :: l, F, 0, _ => by
    show (if doE F e = 0 then e :: goodL (doS F e) [] else goodL (doS F e) []) = [] ++ (if doE F e = 0 then [e] else [])
    rfl
  | e :: l, F, j + 1, h => by
    have hj : j < l.length := by simpa using h
    have ih := goodL_take (l := l) (F := doS F e) (j := j) hj
    show (if doE F e = 0 then e :: goodL (doS F e) (l.take (j + 1)) else goodL (doS F e) (l.take (j + 1))) = (if doE F e = 0 then e :: goodL (doS F e) (l.take j) else goodL (doS F e) (l.take j)) ++ (if doE (runS (doS F e) (l.take j)) l[j] = 0 then [l[j]] else [])
    rw [ih]
    by_cases h0 : doE F e = 0
    · rw [if_pos h0, if_pos h0]; rfl
    · rw [if_neg h0, if_neg h0]

theorem mem_badL : ∀ {l : List Ev} {F : Flr} {i j : Nat} (h : j < l.length), i + j ∈ badL F l i ↔ doE (runS F (l.take j)) l[j] ≠ 0
  | e :: l, F, i, 0, _ => by
    show i + 0 ∈ (if doE F e = 0 then badL (doS F e) l (i + 1) else i :: badL (doS F e) l (i + 1)) ↔ doE F e ≠ 0
    by_cases h0 : doE F e = 0
    · rw [if_pos h0]
      exact ⟨fun hm => by have := bad_ge l _ _ _ hm; omega, fun hn => absurd h0 hn⟩
    · rw [if_neg h0]
      exact ⟨fun _ => h0, fun _ => List.mem_cons_self ..⟩
  | e :: l, F, i, j + 1, h => by
    have hj : j < l.length := by simpa using h
    have ih := mem_badL (l := l) (F := doS F e) (i := i + 1) (j := j) hj
    show i + (j + 1) ∈ (if doE F e = 0 then badL (doS F e) l (i + 1) else i :: badL (doS F e) l (i + 1)) ↔ doE (runS (doS F e) (l.take j)) l[j] ≠ 0
    rw [show i + (j + 1) = i + 1 + j by omega, ← ih]
    by_cases h0 : doE F e = 0
    · rw [if_pos h0]
    · rw [if_neg h0, List.mem_cons]
      exact ⟨fun hm => by
        rcases hm with hm | hm
        · omega
        · exact hm, .inr⟩

theorem good_sub : ∀ (l : List Ev) (F : Flr), (goodL F l).Sublist l
  | [], _ => List.Sublist.slnil
  | e :: l, F => by
    have ih := good_sub l (doS F e)
    unfold goodL
    by_cases h : doE F e = 0
    · rw [if_pos h]; exact ih.cons_cons e
    · rw [if_neg h]; exact ih.cons e

theorem ordE.mono : ∀ {l : List Ev} {T U : Int}, ordE U l → T ≤ U → ordE T l
  | [], _, _, _, _ => trivial
  | e :: l, T, U, h, hT => ⟨by have := h.1; omega, h.2⟩

theorem ordE.sub {l' l : List Ev} (h : l'.Sublist l) : ∀ {T : Int}, ordE T l → ordE T l' := by
  induction h with
  | slnil => exact fun h => h
  | cons e h ih => exact fun ho => ih (ho.2.mono ho.1)
  | cons_cons e h ih => exact fun ho => ⟨ho.1, ih ho.2⟩

theorem ordE.step : ∀ {l : List Ev} {T : Int}, ordE T l → ∀ k (h : k + 1 < l.length), l[k].at_ ≤ l[k + 1].at_
  | [], _, _, k, h => by cases h
  | [e], _, _, k, h => by simp at h
  | e :: d :: l, T, ho, 0, _ => ho.2.1
  | e :: d :: l, T, ho, k + 1, h => ordE.step (l := d :: l) ho.2 k (by simpa using h)

/-- an event by itself -/
def evE (p : List Prn) (e : Ev) : Int := if momO e.at_ then 1 else if kindO e.kind then 4 else if !hasP' p e.pr then 8 else eformV e

theorem erF_two {p : List Prn} {l : List Ev} {k : Nat} (h : k < l.length) : erF p l k = if evE p l[k] ≠ 0 then evE p l[k] else if lateB l k then 7 else 0 := by
  rw [erF_at h]
  unfold evE
  by_cases h1 : momO l[k].at_ = true
  · rw [if_pos h1, if_pos h1]; rfl
  · rw [if_neg h1, if_neg h1]
    by_cases h2 : kindO l[k].kind = true
    · rw [if_pos h2, if_pos h2]; rfl
    · rw [if_neg h2, if_neg h2]
      by_cases h3 : (!hasP' p l[k].pr) = true
      · rw [if_pos h3, if_pos h3]; rfl
      · rw [if_neg h3, if_neg h3]

theorem ers_parts {p : List Prn} {l : List Ev} (h : ersF p l = 0) (ho : ordE 0 l) : l.length ≤ 5000 ∧ (∀ e ∈ l, evE p e = 0) := by
  unfold ersF at h
  by_cases h1 : 5000 < l.length
  · rw [if_pos h1] at h; cases h
  · rw [if_neg h1] at h
    refine ⟨by omega, fun e he => ?_⟩
    obtain ⟨k, hk, rfl⟩ := List.getElem_of_mem he
    have h2 := scanN_all h k hk
    rw [erF_two hk] at h2
    refine Classical.byContradiction fun hc => ?_
    rw [if_pos hc] at h2
    exact hc h2

theorem ers_of {p : List Prn} {l : List Ev} (h : l.length ≤ 5000) (he : ∀ e ∈ l, evE p e = 0) (ho : ordE 0 l) : ersF p l = 0 := by
  unfold ersF
  rw [if_neg (by omega)]
  refine scanN_nul fun k hk => ?_
  rw [erF_two hk, he _ (List.getElem_mem hk), if_neg (by decide)]
  have hl : lateB l k = false := by
    unfold lateB
    rcases k with _ | k
    · rfl
    · have h2 := ho.step k hk
      have e1 : l.getD (k + 1) default = l[k + 1] := by simp [List.getD, hk]
      have e2 : l.getD (k + 1 - 1) default = l[k] := by simp [List.getD, show k < l.length by omega]
      rw [e1, e2]
      simp only [Bool.and_eq_false_imp, decide_eq_true_eq, decide_eq_false_iff_not]
      intro _
      omega
  rw [hl]
  rfl

theorem ers_good {p : List Prn} {l : List Ev} (h : ersF p l = 0) (ho : ordE 0 l) (F : Flr) : ersF p (goodL F l) = 0 ∧ ordE 0 (goodL F l) := by
  obtain ⟨h1, h2⟩ := ers_parts h ho
  have hs := good_sub l F
  exact ⟨ers_of (by have := hs.length_le; omega) (fun e he => h2 e (hs.subset he)) (ho.sub hs), ho.sub hs⟩

end Go.Proofs.YthciblcokogkkaaGreatDoor

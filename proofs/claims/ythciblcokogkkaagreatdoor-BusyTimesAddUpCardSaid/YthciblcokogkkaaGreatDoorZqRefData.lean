/- Contracts of functions that this seat's laws reach, each: what one call returns and what it leaves in memory; no condition beyond each theorem's own hypotheses. -/
import Derived.Test.YthciblcokogkkaaGreatDoorZqBusData
import Derived.Test.YthciblcokogkkaaGreatDoorZqPrnBin
set_option linter.unusedVariables false
set_option linter.unusedSimpArgs false
namespace Go.Proofs.YthciblcokogkkaaGreatDoor
open Go Go.RowKit Go.Bl

theorem evs_ord {l : List Ev} (h : evsF l = 0) : ordE 0 l := by
  obtain ⟨hlen, hok⟩ := evsF_zero h
  refine ordE_of (fun e he => (hok e he).at1.1) fun k hk => ?_
  unfold evsF at h
  rw [if_neg (show ¬ 5000 < l.length by omega)] at h
  have h2 := scanN_all h (k + 1) hk
  have e1 : l.getD (k + 1) default = l[k + 1] := by simp [List.getD, hk]
  have e2 : l.getD (k + 1 - 1) default = l[k] := by simp [List.getD, show k < l.length by omega]
  by_cases hl : l[k + 1].at_ < l[k].at_
  · exfalso
    have h3 : lateB l (k + 1) = true := by unfold lateB; rw [e1, e2]; simp [hl]
    unfold evF at h2
    rw [h3] at h2
    split at h2
    · cases h2
    split at h2
    · cases h2
    split at h2
    · cases h2
    split at h2
    · cases h2
    cases h2
  · omega

theorem keyB_okK {b : ByteArray} (h : keyB b = true) : b.size ≤ 40 := by
  unfold keyB at h
  simp only [Bool.and_eq_true, decide_eq_true_eq] at h
  exact h.1.1.2

end Go.Proofs.YthciblcokogkkaaGreatDoor

namespace Go.Proofs.YthciblcokogkkaaGreatDoor
open Go Go.RowKit Go.Bl

theorem ordE.mono : ∀ {l : List Ev} {T U : Int}, ordE U l → T ≤ U → ordE T l
  | [], _, _, _, _ => trivial
  | e :: l, T, U, h, hT => ⟨by have := h.1; omega, h.2⟩

theorem ordE.sub {l' l : List Ev} (h : l'.Sublist l) : ∀ {T : Int}, ordE T l → ordE T l' := by
  induction h with
  | slnil => exact fun h => h
  | cons e h ih => exact fun ho => ih (ho.2.mono ho.1)
  | cons_cons e h ih => exact fun ho => ⟨ho.1, ih ho.2⟩

theorem ordE.step : ∀ {l : List Ev} {T : Int}, ordE T l → ∀ k (h : k + 1 < l.length), l[k].at_ ≤ l[k + 1].at_
  | [], _, _, k, h => by cases h
  | [e], _, _, k, h => by simp at h
  | e :: d :: l, T, ho, 0, _ => ho.2.1
  | e :: d :: l, T, ho, k + 1, h => ordE.step (l := d :: l) ho.2 k (by simpa using h)

/-- an event by itself -/
def evE (p : List Prn) (e : Ev) : Int := if momO e.at_ then 1 else if kindO e.kind then 4 else if !hasP' p e.pr then 8 else eformV e

end Go.Proofs.YthciblcokogkkaaGreatDoor

/- Contracts of functions that this seat's laws reach, each: what one call returns and what it leaves in memory; no condition beyond each theorem's own hypotheses. -/
import Derived.Test.YtanioobepfllgaaGreatDoorZqBusData
import Derived.Test.YtanioobepfllgaaGreatDoorZqPrnBin
set_option linter.unusedVariables false
set_option linter.unusedSimpArgs false
namespace Go.Proofs.YtanioobepfllgaaGreatDoor
open Go Go.RowKit Go.Bl

theorem keyB_okK {b : ByteArray} (h : keyB b = true) : b.size ≤ 40 := by
  unfold keyB at h
  simp only [Bool.and_eq_true, decide_eq_true_eq] at h
  exact h.1.1.2

end Go.Proofs.YtanioobepfllgaaGreatDoor

namespace Go.Proofs.YtanioobepfllgaaGreatDoor
open Go Go.RowKit Go.Bl

theorem ordE.mono : ∀ {l : List Ev} {T U : Int}, ordE U l → T ≤ U → ordE T l
  | [], _, _, _, _ => trivial
  | e :: l, T, U, h, hT => ⟨by have := h.1; omega, h.2⟩

theorem ordE.step : ∀ {l : List Ev} {T : Int}, ordE T l → ∀ k (h : k + 1 < l.length), l[k].at_ ≤ l[k + 1].at_
  | [], _, _, k, h => by cases h
  | [e], _, _, k, h => by simp at h
  | e :: d :: l, T, ho, 0, _ => ho.2.1
  | e :: d :: l, T, ho, k + 1, h => ordE.step (l := d :: l) ho.2 k (by simpa using h)

/-- an event by itself -/
def evE (p : List Prn) (e : Ev) : Int := if momO e.at_ then 1 else if kindO e.kind then 4 else if !hasP' p e.pr then 8 else eformV e

end Go.Proofs.YtanioobepfllgaaGreatDoor

/- Contracts of functions that this seat's laws reach, each: what one call returns and what it leaves in memory; no condition beyond each theorem's own hypotheses. -/
import Derived.Test.YtoomjnbccfbkkaaGreatDoorMChgA
import Derived.Test.YtoomjnbccfbkkaaGreatDoorMRightP
set_option linter.unusedVariables false
set_option linter.unusedSimpArgs false
namespace Go.Proofs.YtoomjnbccfbkkaaGreatDoor
open Go Go.RowKit Go.Bl

theorem ended_len {L : List (List UInt8)} (h : ∀ x ∈ L, x.length ≤ 50) : (ended L).length ≤ 51 * L.length := by
  induction L with
  | nil => simp [ended]
  | cons x L ih =>
    have h1 := h x (by simp)
    have h2 := ih (fun y hy => h y (List.mem_cons_of_mem _ hy))
    rw [ended_cons, List.length_append, List.length_cons, List.length_cons]; omega

theorem text_small {l : List PathV} (hp : pathsF l = 0) (hl : l.length ≤ 5) (h4 : ∀ p ∈ l, p.pts.length ≤ 4) : (pathText l).length ≤ 2000 := by
  have h1 : ∀ x ∈ allLines l, x.length ≤ 50 := by
    intro x hx
    unfold allLines at hx
    obtain ⟨y, hy, hxy⟩ := List.mem_flatten.1 hx
    obtain ⟨p, hpm, rfl⟩ := List.mem_map.1 hy
    rcases List.mem_cons.1 hxy with rfl | h
    · cases p.cl <;> decide
    · obtain ⟨q, hq, rfl⟩ := List.mem_map.1 h
      exact ptLine_len (near_of ((pathF_zero ((pathsF_zero hp).2 p hpm)).2.2 q hq))
  have h2 : (allLines l).length ≤ 5 * l.length := by
    clear h1 hl hp
    induction l with
    | nil => simp [allLines]
    | cons p l ih =>
      have e1 := h4 p (by simp)
      have e2 := ih (fun q hq => h4 q (List.mem_cons_of_mem _ hq))
      rw [allLines_cons, List.length_append, List.length_cons]
      have : (pathLines p).length = p.pts.length + 1 := by simp [pathLines]
      omega
  have := ended_len h1
  unfold pathText
  omega

/-- the table lies below a block -/
def TabLt (b : Nat) : Prop := ∀ g, Tryz.prog.globalNamed "internal/strconv.uint64pow10" = some g → g < b

theorem Tab.lt {w : World} (h : Tab w) : TabLt w.heap.size := by
  intro g hg
  unfold Tab Lib.TabIs World.var? at h
  rw [hg] at h
  simp only [Option.bind_some] at h
  cases hb : w.heap[g]? with
  | none => rw [hb] at h; cases h
  | some o => exact (Array.getElem?_eq_some_iff.1 hb).1

theorem Tab.s {w w' : World} {b : Nat} {N : Int} (h : Tab w) (k : SOut b N w w') (hb : TabLt b) : Tab w' := by
  have hlt := Tab.lt h
  unfold Tab Lib.TabIs World.var? at *
  cases hgl : Tryz.prog.globalNamed "internal/strconv.uint64pow10" with
  | none => rw [hgl] at h; cases h
  | some g =>
    rw [hgl] at h
    simp only [Option.bind_some] at h ⊢
    rw [k.1.block g (hlt g hgl) (fun e => by injection e with e; have := hb g hgl; omega)]
    exact h

end Go.Proofs.YtoomjnbccfbkkaaGreatDoor

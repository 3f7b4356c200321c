/- Contracts of functions that this seat's laws reach, each: what one call returns and what it leaves in memory; no condition beyond each theorem's own hypotheses. -/
import Derived.Test.YtejmbaiioblfeaaGreatDoorZqKit3
import Derived.Lib.AppendZerosOnto
import Derived.Lib.SliceRun
import Derived.Lib.AppendStr
set_option linter.unusedVariables false
set_option linter.unusedSimpArgs false
namespace Go.Bl
open Go Go.RowKit
variable {P : Program}

theorem run_growNil {α : Type} [Enc α] [Flat α] (w : World) (t tn e : TypeId) (i : TypeInfo) (z : Value) (kn : IntKind) (ht : P.underlying t = some (.slice e)) (htn : P.underlying tn = some (.int kn)) (hi : P.info? e = some i) (hz : i.zero = some z)
    (hsize : i.size = Enc.sz α) (hzs : z.cells.size = Enc.sz α) (n : Nat) (hn : 0 < n) (hby : n * i.bytes ≤ 140737488355328) (h63 : n ≤ 1000000000000) :
    ∃ G w', (∀ ty, (Builtin.append_ #[t, tn] ty #[.slice none 0 0, .int .i64 (n : Int)]).run P w = .ok (.slice (some ⟨w.heap.size, 0, none⟩) n G) w') ∧ Own w' w.heap.size e (some ⟨w.heap.size, 0, none⟩) G ([] : List α) ∧ w.grownBy w' none ∧ n ≤ G ∧ G ≤ 9223372036854775807 := by
  have hp : 0 < i.size := by rw [hsize]; exact Flat.pos
  have h := fun ty => Lib.run_append_grow_zeros (P := P) w t tn ty e i z .i64 kn ht htn hi hz none 0 0 [] (run_firstCells_none w.drew i.size 0 0 0) n hn hp (by omega) (by omega) (by omega) (growslice_fits (by omega) (by simpa using hby))
  simp only [Nat.zero_add] at h
  have hge := grownCap_ge w n 0 e
  have hle := grownCap_le_maxLen w n 0 e (by unfold maxLen; omega)
  refine ⟨_, _, h, ⟨by simp [maxLen], [], rfl, by simp, .inr ⟨w.heap.size, grownCap w n 0 e, _, rfl, Nat.le_refl _, heap_alloc_new w.drew _, by simp, hle, ?_, by simp⟩⟩, gr_alloc (gr_drew (World.grownBy.refl _ _)) _, hge, by unfold maxLen at hle; omega⟩
  simp only [Array.size_append, List.size_toArray, List.length_nil, size_zeroCells, hzs, Nat.zero_add, ← Nat.add_mul]
  congr 1
  omega

/-- the slices of a row, each with an address -/
def Heads {α : Type} [Enc α] (w : World) (rs : List RawS) (ls : List (List α)) : Prop := All2 (fun r l => r.n = l.length ∧ (∃ ad, r.A = some ad) ∧ Sl w 0 r.A l) rs ls

theorem Heads.pure {α : Type} [Enc α] {w w' : World} {rs : List RawS} {ls : List (List α)} (h : Heads w rs ls) (hg : w.grownBy w' none) : Heads w' rs ls := All2.imp h fun _ _ ⟨h1, h2, h3⟩ => ⟨h1, h2, h3.pure hg⟩
/-- the first k, one behind the other -/
def flatK {α : Type} (ls : List (List α)) (k : Nat) : List α := (ls.take k).flatten

theorem flatK_snoc {α : Type} {ls : List (List α)} {k : Nat} (h : k < ls.length) : flatK ls (k + 1) = flatK ls k ++ ls[k] := by
  unfold flatK; rw [List.take_succ_eq_append_getElem h, List.flatten_append]; simp

theorem flatK_all {α : Type} {ls : List (List α)} {k : Nat} (h : ls.length ≤ k) : flatK ls k = ls.flatten := by unfold flatK; rw [List.take_of_length_le h]

theorem flatK_le {α : Type} (ls : List (List α)) (k : Nat) : (flatK ls k).length ≤ (flatK ls ls.length).length := by
  rw [flatK_all (Nat.le_refl _)]
  have : ls.flatten = (ls.take k).flatten ++ (ls.drop k).flatten := by rw [← List.flatten_append, List.take_append_drop]
  rw [this, List.length_append]; unfold flatK; omega

/-- the outer k of both ends exchanged -/
def revK {α : Type} [Inhabited α] (l : List α) (k : Nat) : List α := (List.range l.length).map fun j => if j < k ∨ l.length - k ≤ j then l.getD (l.length - 1 - j) default else l.getD j default
section
variable {α : Type} [Inhabited α]

theorem revK_len (l : List α) (k : Nat) : (revK l k).length = l.length := by simp [revK]

theorem revK_get {l : List α} {k j : Nat} (h : j < (revK l k).length) : (revK l k)[j] = if j < k ∨ l.length - k ≤ j then l.getD (l.length - 1 - j) default else l.getD j default := by simp [revK]

theorem revK_zero (l : List α) : revK l 0 = l := by
  apply List.ext_getElem
  · exact revK_len _ _
  · intro j h1 h2
    rw [revK_get, if_neg (by omega)]; simp [List.getD, h2]

theorem revK_all {l : List α} {k : Nat} (h : l.length ≤ 2 * k + 1) : revK l k = l.reverse := by
  apply List.ext_getElem
  · rw [revK_len]; simp
  · intro j h1 h2
    rw [revK_len] at h1
    rw [revK_get, List.getElem_reverse]
    by_cases hc : j < k ∨ l.length - k ≤ j
    · rw [if_pos hc]; simp [List.getD, show l.length - 1 - j < l.length by omega]
    · rw [if_neg hc]
      have : l.length - 1 - j = j := by omega
      simp [List.getD, h1, this]

theorem revK_lo {l : List α} {k : Nat} (h : 2 * k + 1 < l.length) : (revK l k)[k]'(by rw [revK_len]; omega) = l[k] := by
  rw [revK_get, if_neg (by omega)]; simp [List.getD, show k < l.length by omega]

theorem revK_hi {l : List α} {k : Nat} (h : 2 * k + 1 < l.length) : (revK l k)[l.length - 1 - k]'(by rw [revK_len]; omega) = l[l.length - 1 - k] := by
  rw [revK_get, if_neg (by omega)]; simp [List.getD, show l.length - 1 - k < l.length by omega]

theorem revK_succ {l : List α} {k : Nat} (h : 2 * k + 1 < l.length) : revK l (k + 1) = ((revK l k).set k l[l.length - 1 - k]).set (l.length - 1 - k) l[k] := by
  apply List.ext_getElem
  · simp [revK]
  · intro j h1 h2
    rw [revK_len] at h1
    rw [List.getElem_set, List.getElem_set, revK_get]
    by_cases e1 : l.length - 1 - k = j
    · rw [if_pos e1, if_pos (by omega)]
      have : l.length - 1 - j = k := by omega
      simp [List.getD, this, show k < l.length by omega]
    · rw [if_neg e1]
      by_cases e2 : k = j
      · subst e2
        rw [if_pos rfl, if_pos (by omega)]
        simp [List.getD, show l.length - 1 - k < l.length by omega]
      · rw [if_neg e2, revK_get]
        by_cases hc : j < k ∨ l.length - k ≤ j
        · rw [if_pos hc, if_pos (by omega)]
        · rw [if_neg hc, if_neg (by omega)]

theorem revK_lo' {l : List α} {k m : Nat} (hm : m + k + 1 = l.length) (h : k < m) : (revK l k)[k]'(by rw [revK_len]; omega) = l[k] := revK_lo (by omega)

theorem revK_hi' {l : List α} {k m : Nat} (hm : m + k + 1 = l.length) (h : k < m) : (revK l k)[m]'(by rw [revK_len]; omega) = l[m] := by
  obtain rfl : m = l.length - 1 - k := by omega
  exact revK_hi (by omega)

theorem revK_succ' {l : List α} {k m : Nat} (hm : m + k + 1 = l.length) (h : k < m) : revK l (k + 1) = ((revK l k).set k l[m]).set m l[k] := by
  obtain rfl : m = l.length - 1 - k := by omega
  exact revK_succ (by omega)
end

end Go.Bl

namespace Go.Bl
open Go

theorem run_append_zero {P : Program} (w : World) (t ty e : TypeId) (i : TypeInfo) (ht : P.underlying t = some (.slice e)) (hi : P.info? e = some i)
    (b ad : Option Addr) (n c cc : Nat) (hn : n ≤ c) :
    (Builtin.append_ #[t, t] ty #[.slice b n c, .slice ad 0 cc]).run P w = .ok (.slice b n c) w := by
  have hf : (Builtin.firstCells i.size 0 (.slice ad 0 cc)).run P w = .ok #[] w := by
    cases ad with
    | none => exact run_firstCells_none w _ _ _ _
    | some a => exact run_firstCells_some w _ _ a 0 cc [] (by simp) (by simp)
  cases b <;> simp [Builtin.append_, run_underlying ht, sizeOf, typeInfo, hi, Builtin.lenOf, hn, hf, storeCells]

end Go.Bl

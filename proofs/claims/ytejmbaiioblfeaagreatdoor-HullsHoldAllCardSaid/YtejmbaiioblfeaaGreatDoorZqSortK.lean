/- Contracts of functions that this seat's laws reach, each: what one call returns and what it leaves in memory; no condition beyond each theorem's own hypotheses. -/
import Derived.Test.YtejmbaiioblfeaaGreatDoorZqFillOut
import Derived.Shelf.SlSortCmp.WholeK
import Derived.Sort.OwnSortedInts
set_option linter.unusedVariables false
set_option linter.unusedSimpArgs false
namespace Go.Bl
open Go Go.Sort Go.Proofs
/-- elements whose cells are a list of values, the same in each world -/
class EncL (α : Type) [Enc α] where
  e : α → List Value
  rep : ∀ {w : World} {lo : Nat} {x : α} {cs : List Value}, Enc.rep w lo x cs ↔ cs = e x
section
variable {α : Type} [Enc α] [EncL α]

theorem EncL.len (x : α) : (EncL.e x).length = Enc.sz α := Enc.len (w := default) (lo := 0) (EncL.rep.2 rfl)

theorem EncL.one (x : α) : ∀ v ∈ EncL.e x, v.oneCell' = true := Enc.one (w := default) (lo := 0) (EncL.rep.2 rfl)

theorem row_encL {w : World} {lo : Nat} {l : List α} {cs : List Value} (h : Row w lo l cs) : cs = (l.map EncL.e).flatten := by
  induction l generalizing cs with
  | nil => exact h
  | cons x l ih =>
    obtain ⟨c1, c2, rfl, h1, h2⟩ := h
    rw [EncL.rep.1 h1, ih h2]; rfl

theorem encL_row {w : World} {lo : Nat} (l : List α) : Row w lo l (l.map EncL.e).flatten := by
  induction l with
  | nil => rfl
  | cons x l ih => exact ⟨EncL.e x, (l.map EncL.e).flatten, rfl, EncL.rep.2 rfl, ih⟩
variable [Inhabited α]

theorem flatK_list (hs : 0 < Enc.sz α) (d : Array α) : (Go.Sort.flatK EncL.e (Enc.sz α) d).toList = (d.toList.map EncL.e).flatten := by
  have hr := encL_row (w := default) (lo := 0) d.toList
  have hlen := hr.len
  apply List.ext_getElem?
  intro t
  by_cases ht : t < d.size * Enc.sz α
  · have hi : t / Enc.sz α < d.size := Nat.div_lt_of_lt_mul (by rw [Nat.mul_comm]; exact ht)
    obtain ⟨c1, h1, h2⟩ := hr.at_ (k := t / Enc.sz α) (by simpa using hi)
    have hj := Nat.mod_lt t hs
    have hc := EncL.rep.1 h1
    have := h2 (t % Enc.sz α) _ (List.getElem?_eq_getElem (by rw [hc, EncL.len]; exact hj))
    rw [Nat.div_add_mod' t (Enc.sz α)] at this
    rw [this]
    have hF : t < (Go.Sort.flatK EncL.e (Enc.sz α) d).size := by simpa using ht
    rw [Array.getElem?_toList, Array.getElem?_eq_getElem hF]
    have := get_flatK EncL.e (Enc.sz α) d t ht
    rw [getElem!_pos _ t hF] at this
    rw [this]
    subst hc
    rw [getElem!_pos d _ hi, getElem!_pos _ _ (by rw [EncL.len]; exact hj)]
    rfl
  · rw [List.getElem?_eq_none (by simp; omega), List.getElem?_eq_none (by rw [hlen]; simp; omega)]
end

theorem heap_sortedV {w : World} {g n : Nat} {os : Array Obj} {cur : Array Value} {e : TypeId} {fr : Nat × Nat} (F : Array Value) (hb : w.heap[g]? = some (.cells cur e fr)) :
    (grow (putRow id (Sort.ahead w n) g 0 F) os).heap[g]? = some (.cells (putCells id 0 F cur) e fr) := by
  have hg : g < w.heap.size := (Array.getElem?_eq_some_iff.1 hb).1
  rw [heap_grow_old _ _ (by simpa using hg)]
  simp [putRow, mapBlock, Sort.ahead, Array.getElem?_modify, hb, onCells]

theorem grownBy_sortedV {w : World} {g n : Nat} {os : Array Obj} (F : Array Value) : w.grownBy (grow (putRow id (Sort.ahead w n) g 0 F) os) (some g) := by
  refine ⟨rfl, rfl, rfl, by simp, fun k hk hne => ?_⟩
  rw [heap_grow_old _ _ (by simpa using hk)]
  have : g ≠ k := fun e => hne (by rw [e])
  simp [putRow, mapBlock, Sort.ahead, Array.getElem?_modify, this]

theorem take_putCellsV (cur F : Array Value) (h : F.size ≤ cur.size) : (putCells id 0 F cur).toList.take F.size = F.toList := by
  apply List.ext_getElem?
  intro j
  by_cases hj : j < F.size
  · rw [List.getElem?_take_of_lt hj, Array.getElem?_toList]
    simp [putCells, hj, show j < cur.size by omega]
  · rw [List.getElem?_take_eq_none (by omega), List.getElem?_eq_none (by simp; omega)]

theorem holds_of_blockV {w : World} {g : Nat} {cur : Array Value} {e : TypeId} {F : Array Value} (hb : w.heap[g]? = some (.cells cur e (0, 0))) (ht : cur.toList.take F.size = F.toList) : Holds id w g 0 F := by
  intro j hj
  refine ⟨?_, by simp [World.frozen?, hb]⟩
  have h1 : (cur.toList.take F.size)[j]? = F.toList[j]? := by rw [ht]
  rw [List.getElem?_take_of_lt hj] at h1
  simp only [World.cell?, hb, Nat.zero_add]
  simp only [Option.isSome_none, Bool.false_eq_true, if_false]
  rw [← Array.getElem?_toList, h1]
  simp [hj]

theorem permIn_all {α : Type} [Inhabited α] {d d' : Array α} (h : PermIn 0 d.size d d') : d'.toList.Perm d.toList ∧ d'.size = d.size := by
  obtain ⟨h1, -, h2⟩ := h
  rw [← h1] at h2
  rw [Array.extract_size] at h2
  rw [h1, Array.extract_size] at h2
  exact ⟨h2, h1⟩
section
variable {α : Type} [Enc α] [Flat α] [EncL α] [Inhabited α] {w : World} {lo : Nat} {e : TypeId} {g c : Nat} {l : List α}

theorem Own.holds (h : Own w lo e (some ⟨g, 0, none⟩) c l) : HoldsK EncL.e (Enc.sz α) w g 0 l.toArray := by
  obtain ⟨_, cs, hr, ho⟩ := h
  have hc := row_encL hr
  rcases ho.2 with ⟨h1, _⟩ | ⟨g', cap, cur, hv, hb, hh, hn, hm, hs, ht⟩
  · cases h1
  · cases hv
    refine holds_of_blockV hh ?_
    rw [flatK_list Flat.pos, size_flatK]
    simp only [List.size_toArray]
    rw [ht, hc]

theorem Own.sorted (h : Own w lo e (some ⟨g, 0, none⟩) c l) {d' : Array α} {n : Nat} {os : Array Obj} (hp : PermIn 0 l.toArray.size l.toArray d') :
    d'.toList.Perm l ∧ Own (sortWorldK EncL.e (Enc.sz α) w g 0 n d' os) lo e (some ⟨g, 0, none⟩) c d'.toList ∧ w.grownBy (sortWorldK EncL.e (Enc.sz α) w g 0 n d' os) (some g) := by
  obtain ⟨h1, h2⟩ := permIn_all hp
  simp only [List.size_toArray] at h2
  refine ⟨h1, ?_, grownBy_sortedV _⟩
  obtain ⟨hm, cs, hr, ho⟩ := h
  refine ⟨by simpa [h2] using hm, _, encL_row _, ?_⟩
  rcases ho.2 with ⟨h3, _⟩ | ⟨g', cap, cur, hv, hb, hh, hn, hcm, hs, ht⟩
  · cases h3
  · cases hv
    have hF := flatK_list (α := α) Flat.pos d'
    have hz : (Go.Sort.flatK EncL.e (Enc.sz α) d').size = d'.toList.length * Enc.sz α := by simp
    refine ⟨?_, .inr ⟨g, c, _, rfl, hb, heap_sortedV _ hh, by simpa [h2] using hn, hcm, by simp [putCells, hs], ?_⟩⟩
    · rw [← hF]; simp
    · rw [← hF, ← hz]
      exact take_putCellsV _ _ (by rw [hz, hs]; simp [h2]; exact Nat.mul_le_mul_right _ hn)
end

instance : EncL Sid := ⟨fun p => [.int .i64 p.ring, .int .i64 p.a.x, .int .i64 p.a.y, .int .i64 p.b.x, .int .i64 p.b.y], Iff.rfl⟩

instance : EncL Pt := ⟨fun p => [.int .i64 p.x, .int .i64 p.y], Iff.rfl⟩

end Go.Bl

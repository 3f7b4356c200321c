/- Contracts of functions that this seat's laws reach, each: what one call returns and what it leaves in memory; no condition beyond each theorem's own hypotheses. -/
import Derived.Test.YtpdhbhlnopmifaaGreatDoorZqSortK
import Derived.Test.YtpdhbhlnopmifaaGreatDoorSortInt
import Derived.Test.YtpdhbhlnopmifaaGreatDoorZqFitA
import Derived.Test.YtpdhbhlnopmifaaGreatDoorShelf
import Derived.Shelf.SlSortCmp.Whole1
set_option linter.unusedVariables false
set_option linter.unusedSimpArgs false
namespace Go.Bl
open Go Go.Sort Go.Proofs

theorem sortWorld_eqI {α : Type} [Inhabited α] (enc : α → Value) (w : World) (g m : Nat) (d : Array α) (os : Array Obj) : sortWorld enc w g 0 m d os = grow (putRow id (Sort.ahead w m) g 0 (d.map enc)) os := by
  unfold sortWorld putRow
  congr 2
  funext c
  unfold putCells
  apply Array.ext_getElem?
  intro k
  simp only [Array.getElem?_mapIdx, Array.size_map, Nat.sub_zero, Nat.zero_add, Nat.zero_le, true_and]
  congr 1
  funext x
  by_cases h : k < d.size
  · rw [if_pos h, if_pos h, getElem!_pos d k h, getElem!_pos (d.map enc) k (by simpa using h)]
    simp
  · rw [if_neg h, if_neg h]

theorem row_intI (w : World) (lo : Nat) : ∀ l : List Int, Row w lo l (l.map (Value.int .i64))
  | [] => rfl
  | x :: l => ⟨[.int .i64 x], l.map (Value.int .i64), rfl, rfl, row_intI w lo l⟩

theorem Own.rowPutI {w : World} {lo : Nat} {e : TypeId} {g c : Nat} {l l' : List Int} (h : Own w lo e (some ⟨g, 0, none⟩) c l) {F : Array Value} {n : Nat} {os : Array Obj} (hl : l'.length = l.length) (hF : F.toList = l'.map (Value.int .i64)) :
    Own (grow (putRow id (Sort.ahead w n) g 0 F) os) lo e (some ⟨g, 0, none⟩) c l' ∧ w.grownBy (grow (putRow id (Sort.ahead w n) g 0 F) os) (some g) := by
  refine ⟨?_, grownBy_sortedV _⟩
  obtain ⟨hm, cs, hr, ho⟩ := h
  refine ⟨by rw [hl]; exact hm, _, row_intI _ _ _, ?_⟩
  rcases ho.2 with ⟨h3, _⟩ | ⟨g', cap, cur, hv, hb, hh, hn, hcm, hs, ht⟩
  · cases h3
  · cases hv
    have hz : F.size = l'.length * Enc.sz Int := by
      have := congrArg List.length hF
      simpa [show Enc.sz Int = 1 from rfl] using this
    refine ⟨?_, .inr ⟨g, c, _, rfl, hb, heap_sortedV _ hh, by rw [hl]; exact hn, hcm, by simp [putCells, hs], ?_⟩⟩
    · rw [← hF]; simpa using hz
    · rw [← hF, ← hz]
      exact take_putCellsV _ _ (by rw [hz, hs, hl]; exact Nat.mul_le_mul_right _ hn)
/-- numbers compared the other way round -/
def cmpD (x y : Int) : Int := if y < x then -1 else if x < y then 1 else 0

theorem ltD (x y : Int) : ltOf cmpD x y = decide (y < x) := by
  unfold ltOf cmpD
  by_cases h1 : y < x
  · simp [h1]
  · by_cases h2 : x < y <;> simp [h1, h2]

theorem swoD : SWO (ltOf cmpD) := ⟨fun x => by rw [ltD]; simp, fun x y z => by simp only [ltD, decide_eq_true_eq]; omega, fun x y z => by simp only [ltD, decide_eq_false_iff_not]; omega⟩

end Go.Bl
namespace Go.Proofs.YtpdhbhlnopmifaaGreatDoor
open Go Go.RowKit Go.Bl Go.Sort Go.Lib

theorem lenBitsI_any (w : World) : Calls Tryz.prog 104 #[.int .u64 0] w fun e w' => e = .returned (.int .i64 0) ∧ w = w' :=
  (Tryz.bits_Len 0 w (by omega) (by omega)).mono fun _ _ ⟨he, hw⟩ => ⟨he, hw.symm⟩

set_option maxRecDepth 100000 in
theorem insNilI_any (A : Option Addr) (c : Nat) (w : World) (f : Value) : Calls Tryz.prog 126 #[.slice A 0 c, .int .i64 0, .int .i64 0, f] w fun e w' => e = .returned (.tuple #[]) ∧ w = w' := by
  go_enter Tryz.func126, Tryz.ntmps126
  go_wp2_with fail
  refine wp_loop_once ?_
  go_wp2_with fail
  go_end0
  exact ⟨rfl, rfl⟩

set_option maxRecDepth 100000 in
theorem pdqNilI_any (A : Option Addr) (c : Nat) (w : World) (f : Value) : Calls Tryz.prog 103 #[.slice A 0 c, .int .i64 0, .int .i64 0, .int .i64 0, f] w fun e w' => e = .returned (.tuple #[]) ∧ w = w' := by
  go_enter Tryz.func103, Tryz.ntmps103
  go_wp2_with fail
  refine wp_loop_once ?_
  go_wp2_with (go_at_call 126; refine (insNilI_any _ _ _ _).mono ?_; rintro e w' ⟨rfl, rfl⟩)
  first
    | (go_ret; exact ⟨rfl, rfl⟩)
    | exact bodyPost_ret (v := .tuple #[]) rfl rfl ⟨rfl, rfl⟩
    | exact bodyPost_ret (v := .tuple #[]) (by simp [results, Tryz.results103]) rfl ⟨rfl, rfl⟩

set_option maxRecDepth 100000 in
theorem sortNilI_any (A : Option Addr) (c : Nat) (w : World) (f : Value) : Calls Tryz.prog 74 #[.slice A 0 c, f] w fun e w' => e = .returned (.tuple #[]) ∧ w = w' := by
  go_enter Tryz.func74, Tryz.ntmps74
  go_wp2_with fail
  refine (lenBitsI_any _).mono ?_
  rintro e w' ⟨rfl, rfl⟩
  go_wp2_with fail
  refine (pdqNilI_any _ _ _ _).mono ?_
  rintro e w' ⟨rfl, rfl⟩
  go_wp2_with fail
  go_end0
  exact ⟨rfl, rfl⟩

set_option maxHeartbeats 1000000 in
theorem sortI_any (K : Nat) (g c lo : Nat) (l : List Int) (w : World) (ho : Own w lo 3 (some ⟨g, 0, none⟩) c l) (hl : l.length ≤ 1000000)
    (eg : ∀ args w, (callFunc K args).run Tryz.prog w = .ok (.enter K args) w) (hclo : ∀ x y W, Calls Tryz.prog K #[.int .i64 x, .int .i64 y] W fun e w' => e = .returned (.int .i64 (cmpD x y)) ∧ W = w') :
    Calls Tryz.prog 74 #[.slice (some ⟨g, 0, none⟩) l.length c, .func (.func K) #[] #[]] w fun e w' => e = .returned (.tuple #[]) ∧ Own w' lo 3 (some ⟨g, 0, none⟩) c (srtD l) ∧ w.grownBy w' (some g) := by
  have hlt : g < w.heap.size := (ho.blk_lt rfl).2
  have hH : Holds (Value.int .i64) w g 0 l.toArray := fun j hj => by
    have hj2 : j < l.length := by simpa using hj
    have e : l.toArray[j]! = l[j] := by rw [getElem!_pos l.toArray j hj]; simp
    rw [e, Nat.zero_add]
    exact ⟨ho.cell_int hj2, ho.frozen j⟩
  have hcmp : CmpLays1 Tryz.prog K #[] (Value.int .i64) cmpD g 0 l.toArray.size w := fun m os dk _ x y =>
    (hclo x y _).mono fun _ _ h => ⟨h.1, 0, #[], by rw [grow_empty]; exact h.2.symm⟩
  have hcon := Any.slices_SortFunc Tryz.sortInt (Value.int .i64) (fun x => rfl) cmpD swoD K #[] g 0 c l.toArray w eg hcmp hH hlt (by simp; omega)
  rw [show l.toArray.size = l.length by simp] at hcon
  refine hcon.mono ?_
  rintro e w' ⟨rfl, d', n, os, hp, hs, rfl⟩
  have hp2 : PermIn 0 l.toArray.size l.toArray d' := by simpa using hp
  obtain ⟨h1, h2⟩ := permIn_all hp2
  have hsz : d'.size = l.length := by simpa using h2
  have hpr : d'.toList.Perm l := by simpa using h1
  have hdn : d'.toList.Pairwise (fun a b => b ≤ a) := by
    rw [List.pairwise_iff_getElem]
    intro i j hi hj hij
    have hi2 : i < d'.size := by simpa using hi
    have hj2 : j < d'.size := by simpa using hj
    have h3 := hs i j (Nat.zero_le _) hij (by omega)
    rw [ltD, getElem!_pos d' i hi2, getElem!_pos d' j hj2, decide_eq_false_iff_not] at h3
    simp only [Array.getElem_toList]
    omega
  have e := srtD_uniq hdn hpr
  rw [sortWorld_eqI]
  obtain ⟨h5, h6⟩ := ho.rowPutI (n := n) (os := os) (F := d'.map (Value.int .i64)) (l' := srtD l) (srtD_len l) (by rw [Array.toList_map, e])
  exact ⟨rfl, h5, h6⟩

/-- at whatever row of one's own -/
theorem sortA_any (K : Nat) (A : Option Addr) (c lo : Nat) (l : List Int) (w : World) (ho : Own w lo 3 A c l) (hl : l.length ≤ 1000000)
    (eg : ∀ args w, (callFunc K args).run Tryz.prog w = .ok (.enter K args) w) (hclo : ∀ x y W, Calls Tryz.prog K #[.int .i64 x, .int .i64 y] W fun e w' => e = .returned (.int .i64 (cmpD x y)) ∧ W = w') :
    Calls Tryz.prog 74 #[.slice A l.length c, .func (.func K) #[] #[]] w fun e w' => e = .returned (.tuple #[]) ∧ Own w' lo 3 A c (srtD l) ∧ w.grownBy w' (blk A) := by
  by_cases h0 : l = []
  · subst h0
    have e : srtD [] = [] := List.eq_nil_of_length_eq_zero (by rw [srtD_len]; rfl)
    rw [e]
    exact (sortNilI_any A c w _).mono fun e w' ⟨h1, h2⟩ => ⟨h1, by rw [← h2]; exact ho, by rw [← h2]; exact World.grownBy.refl _ _⟩
  · obtain ⟨g, rfl, -, -⟩ := ho.shape (List.length_pos_iff.2 h0)
    exact sortI_any K g c lo l w ho hl eg hclo

end Go.Proofs.YtpdhbhlnopmifaaGreatDoor

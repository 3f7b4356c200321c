/- Contracts of functions that this seat's laws reach, each: what one call returns and what it leaves in memory; no condition beyond each theorem's own hypotheses. -/
import Derived.Test.YthciblcokogkkaaGreatDoorZqMapKeys
import Derived.Test.YthciblcokogkkaaGreatDoorIter
import Derived.Test.YthciblcokogkkaaGreatDoorZqTree
import Derived.Test.YthciblcokogkkaaGreatDoorZqSpoolData
set_option linter.unusedVariables false
set_option linter.unusedSimpArgs false
namespace Go.Proofs.YthciblcokogkkaaGreatDoor
open Go Go.RowKit Go.Bl Go.Maps Go.WideShapes Go.Sort

theorem mapsKeys_any (mb : Nat) (w : World) :
    Calls Tryz.prog 57 #[.map (some mb)] w fun e w' => e = .returned (.func (.func 107) #[] #[.pointer (some ⟨w.heap.size, 0, none⟩)]) ∧ w' = w.alloc (.cells #[.map (some mb)] 90) :=
  (callsIn_wide (n := 5)).1 (AnyZ.keys_in Tryz.keysL Fence.wide 5 trivial rfl (some mb) w)

theorem sortsL (m : Nat) : AnyZ.SortsIn Tryz.prog Tryz.sortedL_ren Fence.wide m :=
  ⟨fun blk off cap ss W hH hblk hsz => callsIn_wide.2 (AnyM.slices_Sort_string Tryz.sortL blk off cap ss W hH hblk hsz),
   fun p cap W => callsIn_wide.2 (AnyM.slices_Sort_string_none Tryz.sortL p cap W)⟩

theorem row_strL (w : World) (lo : Nat) : ∀ l : List ByteArray, Row w lo l (l.map Value.string)
  | [] => rfl
  | x :: l => ⟨[.string x], l.map Value.string, rfl, rfl, row_strL w lo l⟩

theorem grown_below {w w' : World} (h : RowKit.Below w.heap.size w w') : w.grownBy w' none :=
  { os := h.os, tape := h.tape, output := h.output, size := h.size, block := fun i hi _ => h.block i hi }

set_option maxHeartbeats 1000000 in
theorem sortedKeys_any (x b n : Nat) (m : ByteArray → Option Bool) (W : World) (hb : W.cell? ⟨x, 0, none⟩ = some (.map (some b))) (hm : MapOf strB W b n m) (hn : n ≤ 20000) :
    Calls Tryz.prog 56 #[.func (.func 107) #[] #[.pointer (some ⟨x, 0, none⟩)]] W fun e w' => ∃ (ss : List (List UInt8)) (A : Option Addr) (c : Nat), e = .returned (.slice A ss.length c) ∧ Sl w' W.heap.size A (srtB ss) ∧
      ss.Nodup ∧ (∀ s, s ∈ ss ↔ okK ⟨s.toArray⟩ ∧ (m ⟨s.toArray⟩).isSome = true) ∧ ss.length ≤ 20000 ∧ W.grownBy w' none := by
  obtain ⟨D, hown, hnd, hmem⟩ := strB_keys hm
  have hsz := hown.size_le
  have hseq := AnyZ.keys_gives (ρ := Tryz.keysL_ren) { Tryz.keysL with } Fence.wide 2 trivial rfl (by omega) x b n D W (cell_lt hb) hb hown
  have cS := AnyZ.sorted_in Tryz.sortedL Fence.wide 5 trivial trivial trivial trivial rfl (by omega) (sortsL _) (enters_of Tryz.func70 (by kernel_rfl) rfl) 107 #[.pointer (some ⟨x, 0, none⟩)] trivial (enters_of Tryz.func107 (by kernel_rfl) rfl) (fun ss => ss.Perm (strKeys D)) (Maps.size D) (by unfold maxLen; omega) (by omega) W hseq
  refine ((callsIn_wide (n := 5)).1 cS).mono ?_
  rintro e w' ⟨v, ss, rfl, hp, hrow, hnil, hbl⟩
  have hkl : (strKeys D).length ≤ Maps.size D := by cases D <;> simp [strKeys, Maps.size]
  have hlen := hp.length_eq
  have hmem2 : ∀ s, s ∈ ss ↔ okK ⟨s.toArray⟩ ∧ (m ⟨s.toArray⟩).isSome = true := fun s => (hp.mem_iff).trans (hmem s)
  have hnd2 : ss.Nodup := hp.nodup_iff.2 hnd
  have hcs : (ss.mergeSort fun x y => decide (x ≤ y)).map Go.Proofs.encStr = (srtB ss).map Value.string := by
    unfold srtB
    rw [List.map_map]
    rfl
  rw [hcs] at hrow
  rcases hrow.2 with ⟨rfl, h0⟩ | ⟨g, cap, cur, rfl, hrest⟩
  · obtain rfl : ss = [] := List.eq_nil_of_length_eq_zero h0
    exact ⟨[], none, 0, rfl, by rw [List.eq_nil_of_length_eq_zero (show (srtB []).length = 0 by rw [srtB_len]; rfl)]; exact Sl.nil, hnd2, hmem2, by simp, grown_below hbl⟩
  · refine ⟨ss, some ⟨g, 0, none⟩, cap, rfl, ?_, hnd2, hmem2, by omega, grown_below hbl⟩
    have ho : Own w' W.heap.size 9 (some ⟨g, 0, none⟩) cap (srtB ss) := by
      refine ⟨by rw [srtB_len]; unfold maxLen; omega, _, row_strL w' _ (srtB ss), ?_⟩
      rw [srtB_len]
      exact hrow
    exact ho.sl

/-- a key as bytes -/
def ofK : Lit → ByteArray
  | .string b => ⟨b.toArray⟩
  | _ => ⟨#[]⟩

theorem ofK_str (s : ByteArray) : ofK (strK s) = s := bytes_of s

set_option maxHeartbeats 1000000 in
theorem deleteFunc_any (g : Nat) (cb : Array Value) (b n : Nat) (m : ByteArray → Option Bool) (q : ByteArray → Bool) (w : World)
    (eg : ∀ args w, (callFunc g args).run Tryz.prog w = .ok (.enter g args) w) (hm : MapOf strB w b n m)
    (hdel : ∀ (W : World) (s : ByteArray) (v : Bool), w.grownBy W (some b) → okK s → Calls Tryz.prog g (#[.string s, .bool v] ++ cb) W fun e w' => e = .returned (.bool (q s)) ∧ W.grownBy w' none) :
    Calls Tryz.prog 54 #[.map (some b), .func (.func g) #[] cb] w fun e w' => e = .returned (.tuple #[]) ∧ MapOf strB w' b n (fun z => if q z then none else m z) ∧ w.grownBy w' (some b) := by
  obtain ⟨D, hown, hst⟩ := strB_struck hm q (fun kl _ => q (ofK kl)) (fun x d _ => by rw [ofK_str])
  refine (AnyDf.maps_DeleteFunc Tryz.delL str_keyed strB.R (fun kl _ => q (ofK kl)) g cb b n D w eg hown fun W key val kl yd yp hW hk hv => ?_).mono ?_
  · obtain ⟨s, rfl, hs⟩ := str_inv _ _ hk
    have hkl : kl = strK s := Option.some.inj (hk.symm.trans (str_key s hs))
    obtain ⟨v, rfl, -, -⟩ := strB.einv _ _ hv
    rw [hkl, ofK_str]
    exact hdel W s v hW hs
  · rintro e w' ⟨rfl, h1, h2⟩
    exact ⟨rfl, hst w' h1, h2⟩

end Go.Proofs.YthciblcokogkkaaGreatDoor

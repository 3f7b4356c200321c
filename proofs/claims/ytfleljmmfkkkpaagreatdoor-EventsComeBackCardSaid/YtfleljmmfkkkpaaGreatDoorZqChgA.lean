/- Contracts of functions that this seat's laws reach, each: what one call returns and what it leaves in memory; no condition beyond each theorem's own hypotheses. -/
import Derived.Test.YtfleljmmfkkkpaaGreatDoorZqTextB
import Derived.Test.YtfleljmmfkkkpaaGreatDoorZqPathText
import Derived.Test.YtfleljmmfkkkpaaGreatDoorZqJm
import Derived.Test.YtfleljmmfkkkpaaGreatDoorZqNestCat
import Derived.Lib.ItoaLen
import Derived.Test.YtfleljmmfkkkpaaGreatDoorZqPathE
import Derived.Test.YtfleljmmfkkkpaaGreatDoorZqTree
set_option linter.unusedVariables false
set_option linter.unusedSimpArgs false
namespace Go.Proofs.YtfleljmmfkkkpaaGreatDoor
open Go Go.RowKit Go.Bl

theorem body_len2 (s : List UInt8) : s.length ≤ (bodyB s).length + 1 := by
  rcases body_cases s with ⟨_, h⟩ | ⟨_, h⟩
  · have := congrArg List.length h; simp at this; omega
  · have := congrArg List.length h; omega

/-- what a row of words is as numbers -/
def numsB (l : List ByteArray) : Option (List Int) := numsK (l.map (·.data.toList))

theorem numsB_take {l : List ByteArray} {k : Nat} (h : k < l.length) : numsB (l.take (k + 1)) = match numsB (l.take k), numK l[k].data.toList with
    | some r, some n => some (r ++ [n])
    | _, _ => none := by
  unfold numsB
  rw [take_snoc h, List.map_append]
  exact numsK_snoc _ _

theorem numsB_pre {l : List ByteArray} {k : Nat} (h : numsB (l.take k) = none) : numsB l = none := by
  have go : ∀ (a b : List (List UInt8)), numsK a = none → numsK (a ++ b) = none := by
    intro a
    induction a with
    | nil => intro b h; cases h
    | cons x a ih =>
      intro b h
      simp only [numsK] at h
      simp only [List.cons_append, numsK]
      cases hx : numK x with
      | none => rfl
      | some n =>
        rw [hx] at h
        cases ha : numsK a with
        | none => rw [ih b ha]
        | some r => rw [ha] at h; cases h
  unfold numsB at *
  have e : l.map (·.data.toList) = (l.take k).map (·.data.toList) ++ (l.drop k).map (·.data.toList) := by rw [← List.map_append, List.take_append_drop]
  rw [e]
  exact go _ _ h

theorem mkB_append (a b : List UInt8) : mkB a ++ mkB b = mkB (a ++ b) := by
  apply ByteArray.ext
  apply Array.toList_inj.1
  simp [mkB]

end Go.Proofs.YtfleljmmfkkkpaaGreatDoor

namespace Go.Proofs.YtfleljmmfkkkpaaGreatDoor
open Go Go.RowKit Go.Bl

theorem Sl.cells {α : Type} [Enc α] {w : World} {lo : Nat} {A : Option Addr} {l : List α} (h : Sl w lo A l) (h0 : l ≠ []) (hs : 0 < Enc.sz α) : ∃ g o, A = some ⟨g, o, none⟩ ∧ lo ≤ g ∧ g < w.heap.size := by
  obtain ⟨g, o, c1, e, h1, h2, _⟩ := h.at_ hs (k := 0) (List.length_pos_iff.2 h0)
  exact ⟨g, o, e, h1, h2⟩

theorem strs_cells {w : World} {lo g o : Nat} {l : List ByteArray} (h : Sl w lo (some ⟨g, o, none⟩) l) : ∀ (j : Nat) x, l[j]? = some x → w.cell? ⟨g, o + j, none⟩ = some (.string x) := by
  intro j x hx
  obtain ⟨hj, rfl⟩ := List.getElem?_eq_some_iff.1 hx
  obtain ⟨g', o', cx, e, _, _, rfl, hc⟩ := h.at_ (by decide) hj
  injection e with e
  injection e with e1 e2
  subst e1 e2
  have := hc 0 _ rfl
  rwa [show Enc.sz ByteArray = 1 from rfl, Nat.mul_one] at this

set_option maxHeartbeats 1000000 in
theorem kitJoin_any (A : Option Addr) (c : Nat) (xs : List ByteArray) (w : World) (hl : Sl w 0 A xs) (h0 : xs ≠ []) (hc : xs.length ≤ c) (hn : xs.length ≤ 1000000) (hsz : (joined (xs.map (·.data.toList))).length ≤ 1000000) :
    Calls Tryz.prog 16 #[.slice A xs.length c] w fun e w' => e = .returned (.string (mkB (joined (xs.map (·.data.toList)) ++ [10]))) ∧ w.grownBy w' none := by
  obtain ⟨g, o, rfl, _, hb⟩ := Sl.cells hl h0 (by decide)
  have hJ := Tryz.strings_Join g o c xs ⟨#[32]⟩ w (strs_cells hl) hb (by omega) hc (by rw [show (⟨#[32]⟩ : ByteArray).data.toList = [32] from rfl, joined_lib]; omega)
  rw [show (⟨#[32]⟩ : ByteArray).data.toList = [32] from rfl, joined_lib] at hJ
  have hs2 : (mkB (joined (xs.map (·.data.toList)))).size ≤ 1000000 := by rw [mkB_size]; exact hsz
  go_enter Tryz.func16, Tryz.ntmps16
  go_wp2_with fail
  refine hJ.mono ?_
  rintro e w1 ⟨rfl, hb1⟩
  clear hJ
  obtain ⟨J, hJ⟩ : ∃ J, joined (xs.map (·.data.toList)) = J := ⟨_, rfl⟩
  rw [hJ] at hsz ⊢
  clear hs2
  go_wp2_with fail
  go_ret
  refine ⟨?_, gr_below hb1⟩
  rw [hJ]
  show Ending.returned (.string (mkB J ++ mkB [10])) = _
  rw [mkB_append]

theorem suffix_nl {s : List UInt8} (h0 : s ≠ []) : Lib.hasSuffix s [10] = decide (s.getLast? = some 10) ∧ (s.getLast? = some 10 → Lib.trimSuffix s [10] = s.dropLast) ∧ (s.getLast? ≠ some 10 → Lib.trimSuffix s [10] = s) := by
  obtain ⟨r, b, rfl⟩ : ∃ r b, s = r ++ [b] := ⟨s.dropLast, s.getLast h0, (List.dropLast_concat_getLast h0).symm⟩
  have e : Lib.hasSuffix (r ++ [b]) [10] = decide (b = 10) := by
    unfold Lib.hasSuffix
    rw [Bool.eq_iff_iff, List.isSuffixOf_iff_suffix]
    simp only [decide_eq_true_eq]
    constructor
    · rintro ⟨t, ht⟩
      have := congrArg List.getLast? ht
      simp at this
      exact this.symm
    · rintro rfl; exact ⟨r, rfl⟩
  have hl : (r ++ [b]).getLast? = some b := by simp
  refine ⟨by rw [e, hl]; simp, fun h => ?_, fun h => ?_⟩
  · rw [hl] at h
    injection h with h
    unfold Lib.trimSuffix
    rw [e, decide_eq_true h]
    simp
  · rw [hl] at h
    unfold Lib.trimSuffix
    rw [e, decide_eq_false (fun x => h (by rw [x]))]
    simp

theorem cutNl_any (s : ByteArray) (w : World) (h0 : s.data.toList ≠ []) (hs : s.size ≤ 9223372036854775807) :
    Calls Tryz.prog 45 #[.string s, .string ⟨#[10]⟩] w fun e w' => ∃ b : List UInt8, e = .returned (.tuple #[.string (mkB b), .bool (linesK s.data.toList).2]) ∧ pieces 10 b = (linesK s.data.toList).1 ∧ b.length ≤ s.size ∧ w' = w := by
  have h := Tryz.strings_CutSuffix s ⟨#[10]⟩ w hs
  rw [show (⟨#[10]⟩ : ByteArray).data.toList = [10] from rfl] at h
  obtain ⟨h1, h2, h3⟩ := suffix_nl h0
  refine h.mono ?_
  rintro e w' ⟨rfl, rfl⟩
  have hsz := Lib.size_eq s
  unfold linesK
  rw [if_neg h0, h1]
  by_cases hl : s.data.toList.getLast? = some 10
  · rw [if_pos hl, h2 hl, decide_eq_true hl]
    exact ⟨_, rfl, rfl, by rw [List.length_dropLast]; omega, rfl⟩
  · rw [if_neg hl, h3 hl, decide_eq_false hl]
    exact ⟨_, rfl, rfl, by omega, rfl⟩

def linesB (s : ByteArray) : List ByteArray := (linesK s.data.toList).1.map mkB

set_option maxHeartbeats 1000000 in
theorem kitLines_any (s : ByteArray) (w : World) (hs : s.size ≤ 200000) :
    Calls Tryz.prog 19 #[.string s] w fun e w' => ∃ A c, e = .returned (.tuple #[.slice A (linesB s).length c, .bool (linesK s.data.toList).2]) ∧ Sl w' 0 A (linesB s) ∧ w.grownBy w' none := by
  have hsz := Lib.size_eq s
  have hemp : s.toList.isEmpty = s.data.toList.isEmpty := by rw [Lib.toList_data]
  by_cases h0 : s.data.toList = []
  · have e1 : linesB s = [] := by unfold linesB; rw [h0]; rfl
    have e2 : (linesK s.data.toList).2 = true := by rw [h0]; rfl
    rw [e1, e2]
    rw [h0] at hemp
    simp only [List.isEmpty_nil] at hemp
    replace h0 := hide h0
    replace e2 := hide e2
    go_enter Tryz.func19, Tryz.ntmps19
    go_wp2_with fail
    all_goals (go_ret2; exact ⟨none, 0, rfl, Sl.nil, World.grownBy.refl _ _⟩)
  · have hne : s.data.toList.isEmpty = false := by cases h : s.data.toList with
      | nil => exact absurd h h0
      | cons => rfl
    rw [hne] at hemp
    have hc := cutNl_any s w h0 (by omega)
    obtain ⟨E, hE⟩ : ∃ E, (linesK s.data.toList).2 = E := ⟨_, rfl⟩
    rw [hE] at hc ⊢
    replace h0 := hide h0
    replace hE := hide hE
    go_enter Tryz.func19, Tryz.ntmps19
    go_wp2_with fail
    refine hc.mono ?_
    rintro e w1 ⟨b, rfl, hb, hbl, rfl⟩
    clear hc
    have hS := split_any (mkB b) 10 w1 (by rw [mkB_size]; omega)
    have hp : piecesB 10 (mkB b) = linesB s := by unfold piecesB linesB; rw [mkB_data, hb]
    rw [hp] at hS
    go_wp2_with fail
    refine hS.mono ?_
    rintro e w2 ⟨rfl, hsl, hg⟩
    clear hS
    go_wp2_with fail
    go_ret2
    exact ⟨_, _, rfl, hsl.mono (Nat.zero_le _), hg⟩

/-- the point that a line is -/
def ptOf (x : List UInt8) : Option Pt := match numsK (pieces 32 x) with
  | some [a, b] => some ⟨a, b⟩
  | _ => none

theorem piecesB_data (c : UInt8) (s : ByteArray) : (piecesB c s).map (·.data.toList) = pieces c s.data.toList := by
  unfold piecesB
  rw [List.map_map]
  have : ((fun (x : ByteArray) => x.data.toList) ∘ mkB) = id := by funext l; exact mkB_data l
  rw [this, List.map_id]

theorem piecesB_nums (c : UInt8) (s : ByteArray) : numsB (piecesB c s) = numsK (pieces c s.data.toList) := by unfold numsB; rw [piecesB_data]

theorem pieces_size (c : UInt8) : ∀ (l : List UInt8), (∀ x ∈ pieces c l, x.length ≤ l.length) ∧ (pieces c l).length ≤ l.length + 1
  | [] => by simp [pieces]
  | b :: l => by
    obtain ⟨h1, h2⟩ := pieces_size c l
    unfold pieces
    split
    · refine ⟨fun x hx => ?_, by simp; omega⟩
      rcases List.mem_cons.1 hx with rfl | hx
      · simp
      · have := h1 x hx; simp; omega
    · cases hp : pieces c l with
      | nil => exact absurd hp (pieces_ne _ _)
      | cons y r =>
        rw [hp] at h1 h2
        refine ⟨fun x hx => ?_, by simp at h2 ⊢; omega⟩
        rcases List.mem_cons.1 hx with rfl | hx
        · have := h1 y (by simp); simp; omega
        · have := h1 x (List.mem_cons_of_mem _ hx); simp; omega

theorem piecesB_small {s : ByteArray} (c : UInt8) (hs : s.size ≤ 200000) : (∀ x ∈ piecesB c s, x.size ≤ 9223372036854775807) ∧ (piecesB c s).length ≤ 200001 := by
  obtain ⟨h1, h2⟩ := pieces_size c s.data.toList
  have hsz := Lib.size_eq s
  constructor
  · intro x hx
    unfold piecesB at hx
    obtain ⟨y, hy, rfl⟩ := List.mem_map.1 hx
    rw [mkB_size]
    have := h1 y hy; omega
  · unfold piecesB; rw [List.length_map]; omega

end Go.Proofs.YtfleljmmfkkkpaaGreatDoor

namespace Go.Proofs.YtfleljmmfkkkpaaGreatDoor
open Go Go.RowKit Go.Bl

theorem gr_bld {w w1 w2 : World} {B : Nat} (h : w.grownBy w1 none) (k : Below B w1 w2) (hB : B = w.heap.size) : w.grownBy w2 none := by
  subst hB
  exact gr_below ((below_gr h).trans k)

theorem ended_pre {a b : List (List UInt8)} (h : a <+: b) : (ended a).length ≤ (ended b).length := by
  obtain ⟨t, rfl⟩ := h
  rw [ended_append, List.length_append]; omega
/-- the lines up to a place -/
def partT (l : List PathV) (k j : Nat) : List (List UInt8) := allLines (l.take k) ++ (pathLines (l.getD k default)).take j

theorem partT_zero (l : List PathV) : partT l 0 0 = [] := by simp [partT, allLines]

theorem allLines_append (a b : List PathV) : allLines (a ++ b) = allLines a ++ allLines b := by simp [allLines]

theorem allLines_cons (p : PathV) (b : List PathV) : allLines (p :: b) = pathLines p ++ allLines b := by simp [allLines]

theorem partT_pre {l : List PathV} {k j : Nat} (h : k < l.length) : partT l k j <+: allLines l := by
  have e : allLines l = allLines (l.take k) ++ (pathLines l[k] ++ allLines (l.drop (k + 1))) := by
    conv => lhs; rw [← List.take_append_drop k l, List.drop_eq_getElem_cons h]
    rw [allLines_append, allLines_cons]
  have e2 : l.getD k default = l[k] := by simp [List.getD, h]
  unfold partT
  rw [e, e2]
  refine List.prefix_append_right_inj _ |>.2 ?_
  exact (List.take_prefix _ _).trans (List.prefix_append _ _)

theorem partT_head {l : List PathV} {k : Nat} (h : k < l.length) : partT l k 1 = partT l k 0 ++ [headT l[k].cl] := by
  have e2 : l.getD k default = l[k] := by simp [List.getD, h]
  unfold partT
  rw [e2]
  simp [pathLines]

theorem partT_pt {l : List PathV} {k j : Nat} (h : k < l.length) (hj : j < l[k].pts.length) : partT l k (j + 2) = partT l k (j + 1) ++ [ptLine l[k].pts[j]] := by
  have e2 : l.getD k default = l[k] := by simp [List.getD, h]
  unfold partT
  rw [e2]
  have hl : j + 1 < (pathLines l[k]).length := by simp [pathLines]; omega
  rw [take_snoc hl, ← List.append_assoc]
  simp [pathLines]

theorem partT_next {l : List PathV} {k : Nat} (h : k < l.length) : partT l k (l[k].pts.length + 1) = partT l (k + 1) 0 := by
  have e2 : l.getD k default = l[k] := by simp [List.getD, h]
  unfold partT
  rw [e2, take_snoc h, allLines_snoc]
  have : (pathLines l[k]).length = l[k].pts.length + 1 := by simp [pathLines]
  rw [List.take_of_length_le (Nat.le_of_eq this)]
  simp

theorem partT_all (l : List PathV) : ended (partT l l.length 0) = pathText l := by unfold partT pathText; simp

theorem ended_one (a : List (List UInt8)) (x : List UInt8) : ended (a ++ [x]) = ended a ++ (x ++ [10]) := by simp [ended]

theorem ptLine_len {q : Pt} (h : near q) : (ptLine q).length ≤ 50 := by
  unfold near at h
  have h1 := Lib.itoa_length_le q.x (by omega) (by omega)
  have h2 := Lib.itoa_length_le q.y (by omega) (by omega)
  simp only [ptLine, joined, List.length_append, List.length_cons]; omega

theorem joinOne_any (W : ByteArray) (w : World) (hW : W.size ≤ 1000000) :
    Calls Tryz.prog 16 #[.slice (some ⟨w.heap.size, 0, none⟩) 1 1] (w.alloc (.cells #[.string W] 9)) fun e w' => ∃ J, e = .returned (.string J) ∧ Hid (J.data.toList = W.data.toList ++ [10]) ∧ J.size = W.size + 1 ∧ w.grownBy w' none := by
  have hs := Lib.size_eq W
  refine (kitJoin_any (some ⟨w.heap.size, 0, none⟩) 1 [W] _ (sl_oneAt w 0 [.string W] _ W _ rfl (Nat.zero_le _) rfl) (by simp) (by simp) (by simp) ?_).mono ?_
  · show W.data.toList.length ≤ _
    omega
  · rintro e w' ⟨rfl, hg⟩
    exact ⟨_, rfl, rfl, by rw [mkB_size, List.length_append]; show W.data.toList.length + 1 = _; omega, gr_trans (gr_alloc (World.grownBy.refl w none) _) hg⟩

theorem joinTwo_any (W V : ByteArray) (w : World) (hW : W.size ≤ 100000) (hV : V.size ≤ 100000) :
    Calls Tryz.prog 16 #[.slice (some ⟨w.heap.size, 0, none⟩) 2 2] (w.alloc (.cells #[.string W, .string V] 9)) fun e w' => ∃ J, e = .returned (.string J) ∧ Hid (J.data.toList = joined [W.data.toList, V.data.toList] ++ [10]) ∧ J.size = W.size + V.size + 2 ∧ w.grownBy w' none := by
  have hs := Lib.size_eq W
  have hs2 := Lib.size_eq V
  refine (kitJoin_any (some ⟨w.heap.size, 0, none⟩) 2 [W, V] _ (sl_lit w 0 [.string W, .string V] _ [W, V] (Nat.zero_le _) (by simp [maxLen]) (row_strT _ _ _)) (by simp) (by simp) (by simp) ?_).mono ?_
  · show (joined [W.data.toList, V.data.toList]).length ≤ _
    simp only [joined, List.length_append, List.length_cons]
    omega
  · rintro e w' ⟨rfl, hg⟩
    exact ⟨_, rfl, rfl, by rw [mkB_size, List.length_append]; show (joined [W.data.toList, V.data.toList]).length + 1 = _; simp only [joined, List.length_append, List.length_cons]; omega, gr_trans (gr_alloc (World.grownBy.refl w none) _) hg⟩

end Go.Proofs.YtfleljmmfkkkpaaGreatDoor

namespace Go.Proofs.YtfleljmmfkkkpaaGreatDoor
open Go Go.RowKit Go.Bl

theorem emp_size (s : ByteArray) : s.toList.isEmpty = decide (s.size = 0) := empty_of

theorem enc_size (r : Int) : (Utf8.encode r).size ≤ 4 := by
  unfold Utf8.encode
  generalize (if Utf8.valid r then r.toNat else Utf8.runeError) = c
  show ByteArray.size (if c < 128 then _ else _) ≤ 4
  split
  · show 1 ≤ 4
    omega
  · split
    · show 2 ≤ 4
      omega
    · split
      · show 3 ≤ 4
        omega
      · show 4 ≤ 4
        omega

set_option maxHeartbeats 4000000 in
theorem changed_any (b : Nat) (N : Int) (t wi : ByteArray) (w : World) (hs : Strm w b N) (hN : N ≤ 1000000) (ht : t.size ≤ 1000000) (hw : wi.size ≤ 100) :
    Calls Tryz.prog 23 #[.pointer (some ⟨b, 0, none⟩), .string t, .string wi] w fun e w' => ∃ r : ByteArray, e = .returned (.string r) ∧ r.size ≤ t.size + 104 ∧ SOut b (N + 3) w w' := by
  have he1 := emp_size t
  have he2 := emp_size wi
  by_cases h0 : t.size = 0 ∨ wi.size = 0
  · have hor : (t.toList.isEmpty || wi.toList.isEmpty) = true := by rw [he1, he2]; rcases h0 with h | h <;> simp [h]
    rcases h0 with h | h
    · simp only [h, decide_true] at he1
      clear hor he2
      replace h := hide h
      go_enter Tryz.func23, Tryz.ntmps23
      go_wp2_with fail
      go_ret
      exact ⟨wi, rfl, by omega, (SOut.refl hs).mono (by omega)⟩
    · simp only [h, decide_true] at he2
      clear hor
      replace h := hide h
      go_enter Tryz.func23, Tryz.ntmps23
      go_wp2_with fail
      all_goals (go_ret; exact ⟨wi, rfl, by omega, (SOut.refl hs).mono (by omega)⟩)
  · have h1 : 1 ≤ t.size := by omega
    have h2 : 1 ≤ wi.size := by omega
    have e1 : t.toList.isEmpty = false := by rw [he1, decide_eq_false]; omega
    have e2 : wi.toList.isEmpty = false := by rw [he2, decide_eq_false]; omega
    clear he1 he2 h0
    have hn1 := fun wx (h : Strm wx b N) => next_any b N t.size wx h (by omega) (by omega)
    have hn2 := fun wx (h : Strm wx b (N + 1)) => next_any b (N + 1) wi.size wx h (by omega) (by omega)
    have hn3 := fun wx (h : Strm wx b (N + 1 + 1)) => next_any b (N + 1 + 1) 3 wx h (by omega) (by omega)
    go_enter Tryz.func23, Tryz.ntmps23
    go_wp2_with fail
    refine (hn1 _ hs).mono ?_
    rintro e w1 ⟨r1, rfl, ⟨hr0, hr1⟩, ho1⟩
    obtain ⟨i, rfl⟩ := Int.eq_ofNat_of_zero_le hr0
    go_wp2_with fail
    refine (hn2 _ ho1.2).mono ?_
    rintro e w2 ⟨r2, rfl, ⟨hs0, hs1⟩, ho2⟩
    obtain ⟨j, rfl⟩ := Int.eq_ofNat_of_zero_le hs0
    go_wp2_with fail
    refine (hn3 _ ho2.2).mono ?_
    rintro e w3 ⟨r3, rfl, ⟨hq0, hq1⟩, ho3⟩
    clear hn1 hn2 hn3
    have hof := (ho1.trans ho2).trans ho3
    have hen := enc_size (wrap32 (wi[j].toNat : Int))
    have hil : i < t.size := by omega
    rcases (by omega : r3 = 0 ∨ r3 = 1 ∨ r3 = 2) with rfl | rfl | rfl
    all_goals (go_wp2_with fail; go_quiet (fail); go_wp2; go_ret)
    all_goals refine ⟨_, rfl, ?_, (hof.mono (by omega)).pure (gr_drewN (World.grownBy.refl _ _) _)⟩
    all_goals (simp only [ByteArray.size_append, ByteArray.size_extract]; omega)

end Go.Proofs.YtfleljmmfkkkpaaGreatDoor

/- Contracts of functions that this seat's laws reach, each: what one call returns and what it leaves in memory; no condition beyond each theorem's own hypotheses. -/
import Derived.Test.YtncplpbnhlodaaaGreatDoorMDrawData
import Derived.Test.YtncplpbnhlodaaaGreatDoorMChgA
set_option linter.unusedVariables false
set_option linter.unusedSimpArgs false
namespace Go.Proofs.YtncplpbnhlodaaaGreatDoor
open Go Go.RowKit Go.Bl

def okW (l : List ByteArray) : Bool := l.all (fun x => !x.data.toList.isEmpty)

theorem okW_snoc {l : List ByteArray} {k : Nat} (h : k < l.length) : okW (l.take (k + 1)) = (okW (l.take k) && !l[k].data.toList.isEmpty) := by
  unfold okW
  rw [take_snoc h, List.all_append]
  simp

theorem okW_hit {l : List ByteArray} {k : Nat} (h : k < l.length) (he : l[k].data.toList.isEmpty = true) : okW l = false := by
  unfold okW
  rw [List.all_eq_false]
  exact ⟨l[k], List.getElem_mem h, by simp [he]⟩

def wordsR (l : List ByteArray) : List ByteArray := if okW l then l else []

set_option maxHeartbeats 1000000 in
theorem kitWords_any (s : ByteArray) (w : World) (hs : s.size ≤ 200000) :
    Calls Tryz.prog 71 #[.string s] w fun e w' => ∃ A c, e = .returned (.tuple #[.slice A (wordsR (piecesB 32 s)).length c, .bool (okW (piecesB 32 s))]) ∧ Sl w' 0 A (wordsR (piecesB 32 s)) ∧ w.grownBy w' none := by
  have hS := split_any s 32 w (by omega)
  have hp2 := (piecesB_small 32 hs).2
  generalize piecesB 32 s = ps at *
  go_enter Tryz.func71, Tryz.ntmps71
  go_wp2_with fail
  refine hS.mono ?_
  rintro e w1 ⟨rfl, hsl, hg1⟩
  clear hS
  have hl := hsl.mono (Nat.zero_le _)
  clear hsl
  generalize (some ⟨w.heap.size, 0, none⟩ : Option Addr) = A1 at *
  go_wp2_with fail
  go_loopw [11] (fun i wr => ∃ k : Nat, k ≤ ps.length ∧ i = .int .i64 k ∧ Hid (okW (ps.take k) = true) ∧ w1.grownBy wr none) (fun i _ => ps.length - (intOf i).toNat)
  case atStart => exact ⟨0, Nat.zero_le _, rfl, rfl, World.grownBy.refl _ _⟩
  case round =>
    obtain ⟨k, hk, rfl, hall, hg⟩ := hrel
    by_cases hlt : k < ps.length
    · obtain ⟨g, o, cx, rfl, hb0, hb1, rfl, hc⟩ := (hl.pure hg).at_ (by decide) hlt
      have c0 : wr.cell? ⟨g, o + k, none⟩ = some (.string ps[k]) := by have := hc 0 _ rfl; rwa [show Enc.sz ByteArray = 1 from rfl, Nat.mul_one] at this
      clear hc
      have hsn := hide (okW_snoc hlt)
      have hht := hide (@okW_hit ps k hlt)
      generalize ps[k] = x at *
      have hemp : x.toList.isEmpty = x.data.toList.isEmpty := by rw [Lib.toList_data]
      cases he : x.data.toList.isEmpty with
      | true =>
        rw [he] at hemp
        have hR := hht.out he
        have hR2 : wordsR ps = [] := by unfold wordsR; rw [hR]; rfl
        replace hR := hide hR
        replace hR2 := hide hR2
        replace he := hide he
        clear hht hsn hall
        go_wp2_with fail
        go_ret2
        rw [hR.out, hR2.out]
        exact ⟨none, 0, rfl, Sl.nil, hg1.t hg⟩
      | false =>
        rw [he] at hemp
        have hR : Hid (okW (ps.take (k + 1)) = true) := by rw [Hid, hsn.out, hall.out, he]; rfl
        replace he := hide he
        clear hht hsn hall
        go_wp2_with fail
        first
          | exact ⟨⟨k + 1, by omega, by go_num, hR, hg⟩, by simp [intOf]; omega⟩
          | (go_roundw; (case rel => exact ⟨k + 1, by omega, by go_num, hR, hg⟩); (case measure => simp [intOf]; omega))
    · obtain rfl : k = ps.length := by omega
      have hR := hall.out
      rw [List.take_length] at hR
      have hR2 : wordsR ps = ps := by unfold wordsR; rw [hR]; rfl
      replace hR := hide hR
      replace hR2 := hide hR2
      clear hall
      go_wp2_with fail
      go_ret2
      rw [hR.out, hR2.out]
      exact ⟨A1, _, rfl, hl.pure hg, hg1.t hg⟩

end Go.Proofs.YtncplpbnhlodaaaGreatDoor

namespace Go.Proofs.YtncplpbnhlodaaaGreatDoor
open Go Go.RowKit Go.Bl

set_option maxHeartbeats 1000000 in
theorem indexNone_any (A : Option Addr) (c : Nat) (l : List ByteArray) (w : World) (hl : Sl w 0 A l) :
    Calls Tryz.prog 97 #[.slice A l.length c, .string ⟨#[]⟩] w fun e w' => ∃ r : Int, e = .returned (.int .i64 r) ∧ decide (0 ≤ r) = !okW l ∧ w.grownBy w' none := by
  have hm := hl.1
  unfold maxLen at hm
  go_enter Tryz.func97, Tryz.ntmps97
  go_wp2_with fail
  go_loopw [8] (fun i wr => ∃ k : Nat, k ≤ l.length ∧ i = .int .i64 k ∧ w.grownBy wr none ∧ Hid (okW (l.take k) = true)) (fun i _ => l.length - (intOf i).toNat)
  case atStart => exact ⟨0, Nat.zero_le _, rfl, World.grownBy.refl _ _, rfl⟩
  case round =>
    obtain ⟨k, hk, rfl, hg, hall⟩ := hrel
    by_cases hlt : k < l.length
    · obtain ⟨g, o, cx, rfl, hb0, hb1, rfl, hc⟩ := (hl.pure hg).at_ (by decide) hlt
      have c0 : wr.cell? ⟨g, o + k, none⟩ = some (.string l[k]) := by have := hc 0 _ rfl; rwa [show Enc.sz ByteArray = 1 from rfl, Nat.mul_one] at this
      clear hc
      have hsn := hide (okW_snoc hlt)
      have hht := hide (@okW_hit l k hlt)
      generalize l[k] = x at *
      have hemp : x.toList.isEmpty = x.data.toList.isEmpty := by rw [Lib.toList_data]
      cases he : x.data.toList.isEmpty with
      | true =>
        rw [he] at hemp
        have hR := hide (hht.out he)
        replace he := hide he
        clear hht hsn hall
        go_wp2_with fail
        go_ret
        exact ⟨k, rfl, by rw [hR.out]; simp, hg⟩
      | false =>
        rw [he] at hemp
        have hR : Hid (okW (l.take (k + 1)) = true) := by rw [Hid, hsn.out, hall.out, he]; rfl
        replace he := hide he
        clear hht hsn hall
        go_wp2_with fail
        (go_roundw; (case rel => exact ⟨k + 1, by omega, by go_num, hg, hR⟩); (case measure => simp [intOf]; omega))
    · obtain rfl : k = l.length := by omega
      have hR := hall.out
      rw [List.take_length] at hR
      replace hR := hide hR
      clear hall
      go_wp2_with fail
      go_ret
      exact ⟨-1, rfl, by rw [hR.out]; rfl, hg⟩

set_option maxHeartbeats 400000 in
theorem containsNone_any (A : Option Addr) (c : Nat) (l : List ByteArray) (w : World) (hl : Sl w 0 A l) :
    Calls Tryz.prog 74 #[.slice A l.length c, .string ⟨#[]⟩] w fun e w' => e = .returned (.bool (!okW l)) ∧ w.grownBy w' none := by
  go_enter Tryz.func74, Tryz.ntmps74
  go_wp2_with fail
  refine (indexNone_any _ _ _ _ hl).mono ?_
  rintro e w1 ⟨r, rfl, hr, hg⟩
  replace hr := hide hr
  go_wp2_with fail
  go_ret
  exact ⟨ret_bool hr.out, hg⟩

set_option maxHeartbeats 400000 in
theorem refWords_any (s : ByteArray) (w : World) (hs : s.size ≤ 200000) :
    Calls Tryz.prog 55 #[.string s] w fun e w' => ∃ A, e = .returned (.tuple #[.slice A (piecesB 32 s).length (piecesB 32 s).length, .bool (okW (piecesB 32 s))]) ∧ Sl w' 0 A (piecesB 32 s) ∧ w.grownBy w' none := by
  have hS := split_any s 32 w (by omega)
  generalize piecesB 32 s = ps at *
  go_enter Tryz.func55, Tryz.ntmps55
  go_wp2_with fail
  refine hS.mono ?_
  rintro e w1 ⟨rfl, hsl, hg1⟩
  clear hS
  have hl := hsl.mono (Nat.zero_le _)
  clear hsl
  generalize (some ⟨w.heap.size, 0, none⟩ : Option Addr) = A1 at *
  go_wp2_with fail
  refine (containsNone_any _ _ _ _ hl).mono ?_
  rintro e w2 ⟨rfl, hg2⟩
  go_wp2_with fail
  go_ret2
  exact ⟨A1, by simp, hl.pure hg2, hg1.t hg2⟩

end Go.Proofs.YtncplpbnhlodaaaGreatDoor

namespace Go.Proofs.YtncplpbnhlodaaaGreatDoor
open Go Go.RowKit Go.Bl

def drwR (ps : List ByteArray) : Option Drw := wordsD (ps.map (·.data.toList))

theorem drwR_pieces (s : ByteArray) : drwR (piecesB 32 s) = wordsD (pieces 32 s.data.toList) := by unfold drwR; rw [piecesB_data]

theorem drwR_len {ps : List ByteArray} (h : ps.length ≠ 3) : drwR ps = none := by
  unfold drwR
  match ps, h with
  | [], _ => rfl
  | [_], _ => rfl
  | [_, _], _ => rfl
  | [_, _, _], h => exact absurd rfl h
  | _ :: _ :: _ :: _ :: _, _ => rfl

theorem numK_nil : numK [] = none := by decide

theorem wordsD_nil (a c : List UInt8) : wordsD [a, [], c] = none := by simp [wordsD]

theorem wordsD_ne {a b c : List UInt8} (h : b ≠ []) : wordsD [a, b, c] = (numK a).bind fun n => (numK c).map fun m => ⟨n, mkB b, m⟩ := by
  simp only [wordsD, if_neg h]
  cases numK a <;> cases numK c <;> rfl

theorem drwR_bad {ps : List ByteArray} (h : okW ps = false) : drwR ps = none := by
  by_cases h3 : ps.length = 3
  · obtain ⟨a, b, c, rfl⟩ : ∃ a b c, ps = [a, b, c] := by
      match ps, h3 with
      | [a, b, c], _ => exact ⟨a, b, c, rfl⟩
    show wordsD [a.data.toList, b.data.toList, c.data.toList] = none
    by_cases hb : b.data.toList = []
    · rw [hb, wordsD_nil]
    · rw [wordsD_ne hb]
      have h2 : a.data.toList = [] ∨ c.data.toList = [] := by
        unfold okW at h
        simp only [List.all_cons, List.all_nil, Bool.and_true, Bool.and_eq_false_iff, Bool.not_eq_false', List.isEmpty_iff] at h
        rcases h with h | h | h
        · exact .inl h
        · exact absurd h hb
        · exact .inr h
      rcases h2 with h2 | h2
      · rw [h2, numK_nil]; rfl
      · rw [h2, numK_nil]
        cases numK a.data.toList <;> rfl
  · exact drwR_len h3

theorem drwR_ok {a b c : ByteArray} (h : okW [a, b, c] = true) : drwR [a, b, c] = match numsB [a, c] with
    | some [n, m] => some ⟨n, b, m⟩
    | _ => none := by
  have hb : b.data.toList ≠ [] := by
    unfold okW at h
    simp only [List.all_cons, List.all_nil, Bool.and_true, Bool.and_eq_true, Bool.not_eq_true', List.isEmpty_eq_false_iff] at h
    exact h.2.1
  show wordsD [a.data.toList, b.data.toList, c.data.toList] = _
  rw [wordsD_ne hb]
  unfold numsB
  simp only [List.map_cons, List.map_nil, numsK]
  cases numK a.data.toList <;> cases numK c.data.toList <;> rfl

theorem numbersTwo_any (a c : ByteArray) (w : World) (ha : a.size ≤ 9223372036854775807) (hc : c.size ≤ 9223372036854775807) :
    Calls Tryz.prog 72 #[.slice (some ⟨w.heap.size, 0, none⟩) 2 2] (w.alloc (.cells #[.string a, .string c] 9)) fun e w' => ∃ A' c', e = .returned (.tuple #[.slice A' ((numsB [a, c]).getD []).length c', .bool (numsB [a, c]).isSome]) ∧ Sl w' 0 A' ((numsB [a, c]).getD []) ∧ w.grownBy w' none ∧ (w.alloc (.cells #[.string a, .string c] 9)).grownBy w' none := by
  refine (numbers_any (some ⟨w.heap.size, 0, none⟩) 2 [a, c] _ (sl_lit w 0 [.string a, .string c] _ [a, c] (Nat.zero_le _) (by simp [maxLen]) (row_strT _ _ _)) ?_ (by simp)).mono ?_
  · intro x hx
    simp only [List.mem_cons, List.not_mem_nil, or_false] at hx
    rcases hx with rfl | rfl <;> assumption
  · rintro e w' ⟨A', c', rfl, hO, hg⟩
    exact ⟨A', c', rfl, hO.sl.mono (Nat.zero_le _), gr_trans (gr_alloc (World.grownBy.refl w none) _) hg, hg⟩

set_option maxHeartbeats 1000000 in
theorem readLine_any (s : ByteArray) (w : World) (hs : s.size ≤ 200000) :
    Calls Tryz.prog 52 #[.string s] w fun e w' => ∃ d : Drw, e = .returned (.tuple #[.agg #[.int .i64 d.at_, .string d.spool, .int .i64 d.long], .bool (drwR (piecesB 32 s)).isSome]) ∧ (∀ v, drwR (piecesB 32 s) = some v → d = v) ∧ w.grownBy w' none := by
  have hW := fun wx => kitWords_any s wx hs
  obtain ⟨hp1, hp2⟩ := piecesB_small 32 hs
  generalize piecesB 32 s = ps at *
  go_enter Tryz.func52, Tryz.ntmps52
  go_upto_region 1 with fail
  obtain ⟨w2, hw2⟩ : ∃ x, x = (w).alloc (.cells [.int .i64 0, .string ⟨#[]⟩, .int .i64 0].toArray 51) := ⟨_, rfl⟩
  have hg2 : (w).grownBy w2 none := by rw [hw2]; exact gr_alloc (World.grownBy.refl _ _) _
  have hb2 : Box w2 (w).heap.size 51 [.int .i64 0, .string ⟨#[]⟩, .int .i64 0] := by rw [hw2]; exact Box.new _ _ _
  have hxs2 := hb2.lt
  rw [← hw2]
  clear hw2
  obtain ⟨x2, hx2⟩ : ∃ x, x = (w).heap.size := ⟨_, rfl⟩
  rw [← hx2] at hb2 hxs2 ⊢
  have hxl2 : (w).heap.size ≤ x2 := by omega
  clear hx2
  go_wp2_with fail
  refine (hW _).mono ?_
  rintro e w3 ⟨A3, c3, rfl, hl, hg3⟩
  clear hW
  have hgA := hg2.t hg3
  have hb3 := hb2.pure hg3
  obtain ⟨z0, f0⟩ := hb3.c 0 rfl
  obtain ⟨z1, f1⟩ := hb3.c 1 rfl
  obtain ⟨z2, f2⟩ := hb3.c 2 rfl
  cases hok : okW ps with
  | false =>
    have hD := hide (drwR_bad hok)
    replace hok := hide hok
    go_wp2_with fail
    have hbF := ((hb3.set_ 0 (.int .i64 0) (by simp)).set_ 1 (.string ⟨#[]⟩) (by simp)).set_ 2 (.int .i64 0) (by simp)
    obtain ⟨q0, _⟩ := hbF.c 0 rfl
    obtain ⟨q1, _⟩ := hbF.c 1 rfl
    obtain ⟨q2, _⟩ := hbF.c 2 rfl
    have hgF := gr_set (gr_set (gr_set hgA (p := ⟨x2, 0, none⟩) (.inr hxl2) (.int .i64 0)) (p := ⟨x2, 1, none⟩) (.inr hxl2) (.string ⟨#[]⟩)) (p := ⟨x2, 2, none⟩) (.inr hxl2) (.int .i64 0)
    exact bodyPost_ret (v := .tuple #[.agg #[.int .i64 0, .string ⟨#[]⟩, .int .i64 0], .bool false]) (by simp [results, Tryz.results52, go_sem, q0, q1, q2]) rfl ⟨⟨0, ⟨#[]⟩, 0⟩, by rw [hD.out]; rfl, fun v e => by rw [hD.out] at e; first | cases e | (injection e), hgF⟩
  | true =>
    have hwr : wordsR ps = ps := by unfold wordsR; rw [hok]; rfl
    rw [hwr] at hl ⊢
    by_cases h3 : ps.length = 3
    · obtain ⟨a, b, c, rfl⟩ : ∃ a b c, ps = [a, b, c] := by
        match ps, h3 with
        | [a, b, c], _ => exact ⟨a, b, c, rfl⟩
      have hD := hide (drwR_ok hok)
      replace hok := hide hok
      clear hwr h3
      have hl3 := hl
      obtain ⟨g, o, rfl, -, hgl⟩ := Sl.cells hl (by simp) (by decide)
      have c0 := strs_cells hl 0 a rfl
      have c1 := strs_cells hl 1 b rfl
      have c2 := strs_cells hl 2 c rfl
      simp only [Nat.add_zero] at c0
      have ha := hp1 a (by simp)
      have hc := hp1 c (by simp)
      clear hp1 hp2
      have hN := fun wx => numbersTwo_any a c wx ha hc
      obtain ⟨R, hR⟩ : ∃ R, numsB [a, c] = R := ⟨_, rfl⟩
      rw [hR] at hN
      replace hD := hD.out
      rw [hR] at hD
      replace hD := hide hD
      cases R with
      | none =>
        replace hR := hide hR
        go_upto_region 4 with fail
        refine wp_region_tree (fun wx => w3.grownBy wx none) [2, 2, 1, 2, 2, 1, 0, 0, 2, 2, 2, 2, 2] (.bl 0 (.bl 1 (.bl 2 (.bl 3 (.bl 4 (.bl 5 (.ef 6 (.ef 7 (.bl 8 (.bl 9 (.bl 10 (.bl 11 (.bl 12 .done))))))))))))) (by kernel_rfl) (by kernel_rfl) (gr_drew (World.grownBy.refl _ _)) ?_
        obtain ⟨W1, hW1⟩ : ∃ x, x = (w3).drew := ⟨_, rfl⟩
        rw [← hW1]
        have hgW1 : (w3).grownBy W1 none := by rw [hW1]; exact gr_drew (World.grownBy.refl _ _)
        clear hW1
        refine tree_p rfl rfl rfl rfl _ rfl (by simp) (fun K hK => ?_)
        apply Exists.intro
        refine ⟨fun wq K' hK' => ?_, ?_⟩
        · go_wp2_with fail
          exact hK'
        go_simp
        refine hK _ ?_
        clear hK K
        refine tree_p rfl rfl rfl rfl _ rfl (by simp) (fun K hK => ?_)
        apply Exists.intro
        refine ⟨fun wq K' hK' => ?_, ?_⟩
        · go_wp2_with fail
          exact hK'
        go_simp
        refine hK _ ?_
        clear hK K
        refine tree_b rfl rfl rfl rfl _ rfl (by simp) (fun K hK => ?_)
        apply Exists.intro
        refine ⟨fun wq hq K' hK' => ?_, ?_⟩
        · have y0 := hq.k c0
          have y2 := hq.k c2
          go_wp2_with fail
          exact hK'
        go_simp
        refine hK _ ?_
        clear hK K
        refine tree_p rfl rfl rfl rfl _ rfl (by simp) (fun K hK => ?_)
        apply Exists.intro
        refine ⟨fun wq K' hK' => ?_, ?_⟩
        · go_wp2_with fail
          exact hK'
        go_simp
        refine hK _ ?_
        clear hK K
        refine tree_p rfl rfl rfl rfl _ rfl (by simp) (fun K hK => ?_)
        apply Exists.intro
        refine ⟨fun wq K' hK' => ?_, ?_⟩
        · go_wp2_with fail
          exact hK'
        go_simp
        refine hK _ ?_
        clear hK K
        refine tree_b rfl rfl rfl rfl _ rfl (by simp) (fun K hK => ?_)
        apply Exists.intro
        refine ⟨fun wq hq K' hK' => ?_, ?_⟩
        · have y0 := hq.k c0
          have y2 := hq.k c2
          go_wp2_with fail
          exact hK'
        go_simp
        refine hK _ ?_
        clear hK K
        refine tree_e0 (by kernel_rfl) rfl rfl (fun K hK => ?_)
        go_wp2_with fail
        try go_simp
        refine hK _ _ trivial ?_
        clear hK K
        refine tree_e0 (by kernel_rfl) rfl rfl (fun K hK => ?_)
        go_wp2_with fail
        refine (hN _).mono ?_
        rintro e w4 ⟨A4, c4, rfl, hl4, hg4, hg4'⟩
        clear hN
        have hgw4 := gr_trans hgW1 hg4
        have hb4 := hb3.pure hgw4
        have hgA4 := hgA.t hgw4
        obtain ⟨k0, _⟩ := hb4.c 0 rfl
        obtain ⟨k1, _⟩ := hb4.c 1 rfl
        obtain ⟨k2, _⟩ := hb4.c 2 rfl
        have d1 := hgw4.k c1
        clear z0 z1 z2 f0 f1 f2 hb2 hb3 c0 c1 c2
        go_wp2_with fail
        try go_simp
        refine hK _ _ trivial ?_
        clear hK K
        refine tree_p rfl rfl rfl rfl _ rfl (by simp) (fun K hK => ?_)
        apply Exists.intro
        refine ⟨fun wq K' hK' => ?_, ?_⟩
        · go_wp2_with fail
          exact hK'
        go_simp
        refine hK _ ?_
        clear hK K
        refine tree_p rfl rfl rfl rfl _ rfl (by simp) (fun K hK => ?_)
        apply Exists.intro
        refine ⟨fun wq K' hK' => ?_, ?_⟩
        · go_wp2_with fail
          exact hK'
        go_simp
        refine hK _ ?_
        clear hK K
        refine tree_p rfl rfl rfl rfl _ rfl (by simp) (fun K hK => ?_)
        apply Exists.intro
        refine ⟨fun wq K' hK' => ?_, ?_⟩
        · go_wp2_with fail
          exact hK'
        go_simp
        refine hK _ ?_
        clear hK K
        refine tree_p rfl rfl rfl rfl _ rfl (by simp) (fun K hK => ?_)
        apply Exists.intro
        refine ⟨fun wq K' hK' => ?_, ?_⟩
        · go_wp2_with fail
          exact hK'
        go_simp
        refine hK _ ?_
        clear hK K
        refine tree_p rfl rfl rfl rfl _ rfl (by simp) (fun K hK => ?_)
        apply Exists.intro
        refine ⟨fun wq K' hK' => ?_, ?_⟩
        · go_wp2_with fail
          exact hK'
        go_simp
        refine hK _ ?_
        clear hK K
        refine tree_done ?_
        go_wp2_with fail
        have hbF := ((hb4.set_ 0 (.int .i64 0) (by simp)).set_ 1 (.string ⟨#[]⟩) (by simp)).set_ 2 (.int .i64 0) (by simp)
        obtain ⟨q0, _⟩ := hbF.c 0 rfl
        obtain ⟨q1, _⟩ := hbF.c 1 rfl
        obtain ⟨q2, _⟩ := hbF.c 2 rfl
        have hgF := gr_set (gr_set (gr_set hgA4 (p := ⟨x2, 0, none⟩) (.inr hxl2) (.int .i64 0)) (p := ⟨x2, 1, none⟩) (.inr hxl2) (.string ⟨#[]⟩)) (p := ⟨x2, 2, none⟩) (.inr hxl2) (.int .i64 0)
        exact bodyPost_ret (v := .tuple #[.agg #[.int .i64 0, .string ⟨#[]⟩, .int .i64 0], .bool false]) (by simp [results, Tryz.results52, go_sem, q0, q1, q2]) rfl ⟨⟨0, ⟨#[]⟩, 0⟩, by rw [hD.out]; rfl, fun v e => by rw [hD.out] at e; first | cases e | (injection e), hgF⟩
      | some r =>
        obtain ⟨n, m, rfl⟩ : ∃ n m, r = [n, m] := by
          have := numsK_len hR
          match r, this with
          | [n, m], _ => exact ⟨n, m, rfl⟩
        replace hR := hide hR
        go_upto_region 4 with fail
        refine wp_region_tree (fun wx => w3.grownBy wx none) [2, 2, 1, 2, 2, 1, 0, 0, 2, 2, 2, 2, 2] (.bl 0 (.bl 1 (.bl 2 (.bl 3 (.bl 4 (.bl 5 (.ef 6 (.ef 7 (.bl 8 (.bl 9 (.bl 10 (.bl 11 (.bl 12 .done))))))))))))) (by kernel_rfl) (by kernel_rfl) (gr_drew (World.grownBy.refl _ _)) ?_
        obtain ⟨W1, hW1⟩ : ∃ x, x = (w3).drew := ⟨_, rfl⟩
        rw [← hW1]
        have hgW1 : (w3).grownBy W1 none := by rw [hW1]; exact gr_drew (World.grownBy.refl _ _)
        clear hW1
        refine tree_p rfl rfl rfl rfl _ rfl (by simp) (fun K hK => ?_)
        apply Exists.intro
        refine ⟨fun wq K' hK' => ?_, ?_⟩
        · go_wp2_with fail
          exact hK'
        go_simp
        refine hK _ ?_
        clear hK K
        refine tree_p rfl rfl rfl rfl _ rfl (by simp) (fun K hK => ?_)
        apply Exists.intro
        refine ⟨fun wq K' hK' => ?_, ?_⟩
        · go_wp2_with fail
          exact hK'
        go_simp
        refine hK _ ?_
        clear hK K
        refine tree_b rfl rfl rfl rfl _ rfl (by simp) (fun K hK => ?_)
        apply Exists.intro
        refine ⟨fun wq hq K' hK' => ?_, ?_⟩
        · have y0 := hq.k c0
          have y2 := hq.k c2
          go_wp2_with fail
          exact hK'
        go_simp
        refine hK _ ?_
        clear hK K
        refine tree_p rfl rfl rfl rfl _ rfl (by simp) (fun K hK => ?_)
        apply Exists.intro
        refine ⟨fun wq K' hK' => ?_, ?_⟩
        · go_wp2_with fail
          exact hK'
        go_simp
        refine hK _ ?_
        clear hK K
        refine tree_p rfl rfl rfl rfl _ rfl (by simp) (fun K hK => ?_)
        apply Exists.intro
        refine ⟨fun wq K' hK' => ?_, ?_⟩
        · go_wp2_with fail
          exact hK'
        go_simp
        refine hK _ ?_
        clear hK K
        refine tree_b rfl rfl rfl rfl _ rfl (by simp) (fun K hK => ?_)
        apply Exists.intro
        refine ⟨fun wq hq K' hK' => ?_, ?_⟩
        · have y0 := hq.k c0
          have y2 := hq.k c2
          go_wp2_with fail
          exact hK'
        go_simp
        refine hK _ ?_
        clear hK K
        refine tree_e0 (by kernel_rfl) rfl rfl (fun K hK => ?_)
        go_wp2_with fail
        try go_simp
        refine hK _ _ trivial ?_
        clear hK K
        refine tree_e0 (by kernel_rfl) rfl rfl (fun K hK => ?_)
        go_wp2_with fail
        refine (hN _).mono ?_
        rintro e w4 ⟨A4, c4, rfl, hl4, hg4, hg4'⟩
        clear hN
        have hgw4 := gr_trans hgW1 hg4
        have hb4 := hb3.pure hgw4
        have hgA4 := hgA.t hgw4
        obtain ⟨k0, _⟩ := hb4.c 0 rfl
        obtain ⟨k1, _⟩ := hb4.c 1 rfl
        obtain ⟨k2, _⟩ := hb4.c 2 rfl
        have d1 := hgw4.k c1
        clear z0 z1 z2 f0 f1 f2 hb2 hb3 c0 c1 c2
        go_wp2_with fail
        try go_simp
        refine hK _ _ trivial ?_
        clear hK K
        refine tree_p rfl rfl rfl rfl _ rfl (by simp) (fun K hK => ?_)
        apply Exists.intro
        refine ⟨fun wq K' hK' => ?_, ?_⟩
        · go_wp2_with fail
          exact hK'
        go_simp
        refine hK _ ?_
        clear hK K
        refine tree_p rfl rfl rfl rfl _ rfl (by simp) (fun K hK => ?_)
        apply Exists.intro
        refine ⟨fun wq K' hK' => ?_, ?_⟩
        · go_wp2_with fail
          exact hK'
        go_simp
        refine hK _ ?_
        clear hK K
        refine tree_p rfl rfl rfl rfl _ rfl (by simp) (fun K hK => ?_)
        apply Exists.intro
        refine ⟨fun wq K' hK' => ?_, ?_⟩
        · go_wp2_with fail
          exact hK'
        go_simp
        refine hK _ ?_
        clear hK K
        refine tree_p rfl rfl rfl rfl _ rfl (by simp) (fun K hK => ?_)
        apply Exists.intro
        refine ⟨fun wq K' hK' => ?_, ?_⟩
        · go_wp2_with fail
          exact hK'
        go_simp
        refine hK _ ?_
        clear hK K
        refine tree_p rfl rfl rfl rfl _ rfl (by simp) (fun K hK => ?_)
        apply Exists.intro
        refine ⟨fun wq K' hK' => ?_, ?_⟩
        · go_wp2_with fail
          exact hK'
        go_simp
        refine hK _ ?_
        clear hK K
        refine tree_done ?_
        go_wp2_with fail
        obtain ⟨g4, o4, rfl, -, hgl4⟩ := Sl.cells hl4 (by simp) (by decide)
        have v0 : w4.cell? ⟨g4, o4, none⟩ = some (.int .i64 n) := by
          obtain ⟨g', o', cx, e, _, _, rfl, hc⟩ := hl4.at_ (by decide) (show 0 < 2 by decide)
          cases e
          exact hc 0 _ rfl
        have v1 : w4.cell? ⟨g4, o4 + 1, none⟩ = some (.int .i64 m) := by
          obtain ⟨g', o', cx, e, _, _, rfl, hc⟩ := hl4.at_ (by decide) (show 1 < 2 by decide)
          cases e
          exact hc 0 _ rfl
        go_region
        have hbF := (((hb4.set_ 0 (.int .i64 n) (by simp)).set_ 1 (.string b) (by simp)).set_ 2 (.int .i64 m) (by simp)).pure (gr_drew (World.grownBy.refl _ _))
        obtain ⟨q0, _⟩ := hbF.c 0 rfl
        obtain ⟨q1, _⟩ := hbF.c 1 rfl
        obtain ⟨q2, _⟩ := hbF.c 2 rfl
        have hgF := gr_drew (gr_set (gr_set (gr_set hgA4 (p := ⟨x2, 0, none⟩) (.inr hxl2) (.int .i64 n)) (p := ⟨x2, 1, none⟩) (.inr hxl2) (.string b)) (p := ⟨x2, 2, none⟩) (.inr hxl2) (.int .i64 m))
        have hDo := hD.out
        go_wp2_with fail
        exact bodyPost_ret (v := .tuple #[.agg #[.int .i64 n, .string b, .int .i64 m], .bool true]) (by simp [results, Tryz.results52, go_sem, q0, q1, q2]) rfl ⟨⟨n, b, m⟩, by rw [hDo]; rfl, fun v e => by rw [hDo] at e; injection e, hgF⟩
    · have hD := hide (drwR_len h3)
      have hb3' : ((ps.length : Int) != 3) = true := by simp; omega
      replace h3 := hide h3
      replace hok := hide hok
      go_wp2_with fail
      have hbF := ((hb3.set_ 0 (.int .i64 0) (by simp)).set_ 1 (.string ⟨#[]⟩) (by simp)).set_ 2 (.int .i64 0) (by simp)
      obtain ⟨q0, _⟩ := hbF.c 0 rfl
      obtain ⟨q1, _⟩ := hbF.c 1 rfl
      obtain ⟨q2, _⟩ := hbF.c 2 rfl
      have hgF := gr_set (gr_set (gr_set hgA (p := ⟨x2, 0, none⟩) (.inr hxl2) (.int .i64 0)) (p := ⟨x2, 1, none⟩) (.inr hxl2) (.string ⟨#[]⟩)) (p := ⟨x2, 2, none⟩) (.inr hxl2) (.int .i64 0)
      exact bodyPost_ret (v := .tuple #[.agg #[.int .i64 0, .string ⟨#[]⟩, .int .i64 0], .bool false]) (by simp [results, Tryz.results52, go_sem, q0, q1, q2]) rfl ⟨⟨0, ⟨#[]⟩, 0⟩, by rw [hD.out]; rfl, fun v e => by rw [hD.out] at e; first | cases e | (injection e), hgF⟩

end Go.Proofs.YtncplpbnhlodaaaGreatDoor

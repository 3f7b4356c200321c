/- Contracts of functions that this seat's laws reach, each: what one call returns and what it leaves in memory; no condition beyond each theorem's own hypotheses. -/
import Derived.Test.YtfleljmmfkkkpaaGreatDoorZqEvData
import Derived.Test.YtfleljmmfkkkpaaGreatDoorZqChgA
set_option linter.unusedVariables false
set_option linter.unusedSimpArgs false
namespace Go.Proofs.YtfleljmmfkkkpaaGreatDoor
open Go Go.RowKit Go.Bl

def okW (l : List ByteArray) : Bool := l.all (fun x => !x.data.toList.isEmpty)

theorem okW_snoc {l : List ByteArray} {k : Nat} (h : k < l.length) : okW (l.take (k + 1)) = (okW (l.take k) && !l[k].data.toList.isEmpty) := by
  unfold okW
  rw [take_snoc h, List.all_append]
  simp

theorem okW_hit {l : List ByteArray} {k : Nat} (h : k < l.length) (he : l[k].data.toList.isEmpty = true) : okW l = false := by
  unfold okW
  rw [List.all_eq_false]
  exact ⟨l[k], List.getElem_mem h, by simp [he]⟩

def wordsR (l : List ByteArray) : List ByteArray := if okW l then l else []

set_option maxHeartbeats 1000000 in
theorem kitWords_any (s : ByteArray) (w : World) (hs : s.size ≤ 200000) :
    Calls Tryz.prog 47 #[.string s] w fun e w' => ∃ A c, e = .returned (.tuple #[.slice A (wordsR (piecesB 32 s)).length c, .bool (okW (piecesB 32 s))]) ∧ Sl w' 0 A (wordsR (piecesB 32 s)) ∧ w.grownBy w' none := by
  have hS := split_any s 32 w (by omega)
  have hp2 := (piecesB_small 32 hs).2
  generalize piecesB 32 s = ps at *
  go_enter Tryz.func47, Tryz.ntmps47
  go_wp2_with fail
  refine hS.mono ?_
  rintro e w1 ⟨rfl, hsl, hg1⟩
  clear hS
  have hl := hsl.mono (Nat.zero_le _)
  clear hsl
  generalize (some ⟨w.heap.size, 0, none⟩ : Option Addr) = A1 at *
  go_wp2_with fail
  go_loopw [11] (fun i wr => ∃ k : Nat, k ≤ ps.length ∧ i = .int .i64 k ∧ Hid (okW (ps.take k) = true) ∧ w1.grownBy wr none) (fun i _ => ps.length - (intOf i).toNat)
  case atStart => exact ⟨0, Nat.zero_le _, rfl, rfl, World.grownBy.refl _ _⟩
  case round =>
    obtain ⟨k, hk, rfl, hall, hg⟩ := hrel
    by_cases hlt : k < ps.length
    · obtain ⟨g, o, cx, rfl, hb0, hb1, rfl, hc⟩ := (hl.pure hg).at_ (by decide) hlt
      have c0 : wr.cell? ⟨g, o + k, none⟩ = some (.string ps[k]) := by have := hc 0 _ rfl; rwa [show Enc.sz ByteArray = 1 from rfl, Nat.mul_one] at this
      clear hc
      have hsn := hide (okW_snoc hlt)
      have hht := hide (@okW_hit ps k hlt)
      generalize ps[k] = x at *
      have hemp : x.toList.isEmpty = x.data.toList.isEmpty := by rw [Lib.toList_data]
      cases he : x.data.toList.isEmpty with
      | true =>
        rw [he] at hemp
        have hR := hht.out he
        have hR2 : wordsR ps = [] := by unfold wordsR; rw [hR]; rfl
        replace hR := hide hR
        replace hR2 := hide hR2
        replace he := hide he
        clear hht hsn hall
        go_wp2_with fail
        go_ret2
        rw [hR.out, hR2.out]
        exact ⟨none, 0, rfl, Sl.nil, hg1.t hg⟩
      | false =>
        rw [he] at hemp
        have hR : Hid (okW (ps.take (k + 1)) = true) := by rw [Hid, hsn.out, hall.out, he]; rfl
        replace he := hide he
        clear hht hsn hall
        go_wp2_with fail
        first
          | exact ⟨⟨k + 1, by omega, by go_num, hR, hg⟩, by simp [intOf]; omega⟩
          | (go_roundw; (case rel => exact ⟨k + 1, by omega, by go_num, hR, hg⟩); (case measure => simp [intOf]; omega))
    · obtain rfl : k = ps.length := by omega
      have hR := hall.out
      rw [List.take_length] at hR
      have hR2 : wordsR ps = ps := by unfold wordsR; rw [hR]; rfl
      replace hR := hide hR
      replace hR2 := hide hR2
      clear hall
      go_wp2_with fail
      go_ret2
      rw [hR.out, hR2.out]
      exact ⟨A1, _, rfl, hl.pure hg, hg1.t hg⟩

end Go.Proofs.YtfleljmmfkkkpaaGreatDoor

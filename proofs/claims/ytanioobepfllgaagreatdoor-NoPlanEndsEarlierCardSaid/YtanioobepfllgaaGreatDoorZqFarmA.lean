/- Contracts of functions that this seat's laws reach, each: what one call returns and what it leaves in memory; no condition beyond each theorem's own hypotheses. -/
import Derived.Test.YtanioobepfllgaaGreatDoorZqStream
import Derived.Test.YtanioobepfllgaaGreatDoorZqFlowA
import Derived.Test.YtanioobepfllgaaGreatDoorZqDelData
import Derived.Test.YtanioobepfllgaaGreatDoorZqFarmData
import Derived.Test.YtanioobepfllgaaGreatDoorShelf
import Derived.Shelf.Strings.SlTrimAscii
set_option linter.unusedVariables false
set_option linter.unusedSimpArgs false
namespace Go.Proofs.YtanioobepfllgaaGreatDoor
open Go.RowKit Go.Bl

theorem trimKey_any (s : ByteArray) (w : World) (hs : s.size ≤ 9223372036854775807) :
    Calls Tryz.prog 81 #[.string s, .string ⟨#[97, 98, 99, 100, 101, 102, 103, 104, 105, 106, 107, 108, 109, 110, 111, 112, 113, 114, 115, 116, 117, 118, 119, 120, 121, 122, 48, 49, 50, 51, 52, 53, 54, 55, 56, 57, 45, 95]⟩] w fun e w' => e = .returned (.string ⟨(Lib.trimS s.data.toList keyL).toArray⟩) ∧ w.grownBy w' none := by
  refine (Any.strings_Trim_laid Tryz.lays160 (by kernel_rfl) s _ w hs (by decide) (ascii_of_all (by decide))).mono ?_
  rintro e w' ⟨rfl, hb⟩
  exact ⟨rfl, gr_below hb⟩

theorem size_of (s : ByteArray) : s.size = s.data.toList.length := by
  rw [Array.length_toList]; rfl

theorem head_of {s : ByteArray} (h : 0 < s.size) : ∃ c t, s.data.toList = c :: t ∧ s[0] = c := by
  have hz := size_of s
  cases hd : s.data.toList with
  | nil => rw [hd] at hz; simp only [List.length_nil] at hz; omega
  | cons c t =>
    refine ⟨c, t, rfl, ?_⟩
    have : s.data.toList[0]? = some c := by rw [hd]; rfl
    have h2 : s[0] = s.data[0] := rfl
    rw [h2]
    have h3 : s.data[0]? = some c := by simpa using this
    exact Array.getElem_eq_iff.2 h3

theorem empty_of {s : ByteArray} : s.toList.isEmpty = decide (s.size = 0) := by
  have hz := size_of s
  rw [Lib.toList_data, hz]
  cases s.data.toList <;> simp

set_option maxHeartbeats 800000 in
theorem isKey_any (s : ByteArray) (w : World) :
    Calls Tryz.prog 82 #[.string s] w fun e w' => e = .returned (.bool (keyB s)) ∧ w.grownBy w' none := by
  have hemp := @empty_of s
  by_cases h0 : s.size = 0
  · have hk : keyB s = false := by simp [keyB, h0]
    rw [hk]
    simp only [h0, decide_true] at hemp
    go_enter Tryz.func82, Tryz.ntmps82
    go_wp2_with fail
    all_goals (go_ret; exact ⟨rfl, World.grownBy.refl _ _⟩)
  · have hp : 0 < s.size := by omega
    simp only [h0, decide_false] at hemp
    by_cases h1 : s.size ≤ 40
    · have hl : decide ((s.size : Int) ≤ 40) = true := by simp; omega
      obtain ⟨c, t, hd, hc⟩ := head_of hp
      have hix : (s[0].toNat : Int).toNat.toUInt8 = c := by rw [hc]; simp
      have hk : keyB s = (decide (0 ≤ Lib.indexByte smallB c) && (Lib.trimS s.data.toList keyL).isEmpty) := by simp [keyB, hp, h1, hd]
      rw [hk]
      replace hd := hide hd; replace hc := hide hc; replace hk := hide hk; replace hix := hide hix
      go_enter Tryz.func82, Tryz.ntmps82
      go_wp2_with fail
      refine (Tryz.strings_IndexByte _ _ _).mono ?_
      rintro e w' ⟨rfl, rfl⟩
      have hix2 : Lib.indexByte (⟨#[97, 98, 99, 100, 101, 102, 103, 104, 105, 106, 107, 108, 109, 110, 111, 112, 113, 114, 115, 116, 117, 118, 119, 120, 121, 122]⟩ : ByteArray).data.toList (s[0].toNat : Int).toNat.toUInt8 = Lib.indexByte smallB c := by rw [hix.out]; rfl
      rw [hix2]
      clear hix2
      obtain ⟨n, hnn⟩ : ∃ n, Lib.indexByte smallB c = n := ⟨_, rfl⟩
      rw [hnn]
      replace hnn := hide hnn
      by_cases hn : 0 ≤ n
      · have hn' : decide (n ≥ 0) = true := by simpa using hn
        go_wp2_with fail
        refine (trimKey_any _ _ (by omega)).mono ?_
        rintro e w' ⟨rfl, hg⟩
        obtain ⟨q, hqq⟩ : ∃ q, Lib.trimS s.data.toList keyL = q := ⟨_, rfl⟩
        rw [hqq]
        replace hqq := hide hqq
        go_wp2_with fail
        go_ret
        exact ⟨ret_bool (by rw [hnn.out, hqq.out]; simp [hn, empty_of, size_of]), hg⟩
      · have hn' : decide (n ≥ 0) = false := by simpa using hn
        go_wp2_with fail
        go_ret
        exact ⟨ret_bool (by rw [hnn.out]; simp; intro h; omega), World.grownBy.refl _ _⟩
    · have hl : decide ((s.size : Int) ≤ 40) = false := by simp; omega
      have hk : keyB s = false := by simp [keyB, h1]
      rw [hk]
      go_enter Tryz.func82, Tryz.ntmps82
      go_wp2_with fail
      all_goals (go_ret; exact ⟨rfl, World.grownBy.refl _ _⟩)

set_option maxHeartbeats 800000 in
theorem key_any (s : ByteArray) (w : World) :
    Calls Tryz.prog 57 #[.string s] w fun e w' => e = .returned (.bool (keyB s)) ∧ w.grownBy w' none := by
  have hin : inB (s.size : Int) 1 40 = (decide (0 < s.size) && decide (s.size ≤ 40)) := by
    unfold inB; by_cases h1 : 0 < s.size <;> by_cases h2 : s.size ≤ 40 <;> simp [h1, h2] <;> omega
  by_cases h0 : 0 < s.size ∧ s.size ≤ 40
  · obtain ⟨hp, h1⟩ := h0
    simp only [hp, h1, decide_true, Bool.and_true] at hin
    obtain ⟨c, t, hd, hc⟩ := head_of hp
    have hk : keyB s = (decide (0 ≤ Lib.indexByte smallB c) && (Lib.trimS s.data.toList keyL).isEmpty) := by simp [keyB, hp, h1, hd]
    rw [hk]
    replace hd := hide hd; replace hc := hide hc; replace hk := hide hk; replace hin := hide hin
    go_enter Tryz.func57, Tryz.ntmps57
    go_wp2_with (go_at_call 45; refine (in_any _ _ _ _).mono ?_; rintro _ _ ⟨rfl, rfl⟩; rw [hin.out])
    have hex : s.extract 0 1 = ⟨#[c]⟩ := by
      apply ByteArray.ext
      apply Array.toList_inj.1
      simp [hd.out]
    rw [hex]
    refine (Tryz.strings_Contains_one _ _ _).mono ?_
    rintro e w' ⟨rfl, rfl⟩
    have hix2 : Lib.indexByte (⟨#[97, 98, 99, 100, 101, 102, 103, 104, 105, 106, 107, 108, 109, 110, 111, 112, 113, 114, 115, 116, 117, 118, 119, 120, 121, 122]⟩ : ByteArray).data.toList c = Lib.indexByte smallB c := rfl
    rw [hix2]
    clear hix2
    obtain ⟨n, hnn⟩ : ∃ n, Lib.indexByte smallB c = n := ⟨_, rfl⟩
    rw [hnn]
    replace hnn := hide hnn
    by_cases hn : 0 ≤ n
    · have hn' : decide (0 ≤ n) = true := by simpa using hn
      go_wp2_with fail
      refine (trimKey_any _ _ (by omega)).mono ?_
      rintro e w' ⟨rfl, hg⟩
      obtain ⟨q, hqq⟩ : ∃ q, Lib.trimS s.data.toList keyL = q := ⟨_, rfl⟩
      rw [hqq]
      replace hqq := hide hqq
      go_wp2_with fail
      go_ret
      exact ⟨ret_bool (by rw [hnn.out, hqq.out]; simp [hn, empty_of, size_of]), hg⟩
    · have hn' : decide (0 ≤ n) = false := by simpa using hn
      go_wp2_with fail
      go_ret
      exact ⟨ret_bool (by rw [hnn.out]; simp; intro h; omega), World.grownBy.refl _ _⟩
  · have hk : keyB s = false := by simp [keyB]; intro a b; omega
    have hin2 : inB (s.size : Int) 1 40 = false := by rw [hin]; simp; omega
    clear hin
    rw [hk]
    go_enter Tryz.func57, Tryz.ntmps57
    go_wp2_with (go_at_call 45; refine (in_any _ _ _ _).mono ?_; rintro _ _ ⟨rfl, rfl⟩; rw [hin2])
    all_goals (go_ret; exact ⟨rfl, World.grownBy.refl _ _⟩)

end Go.Proofs.YtanioobepfllgaaGreatDoor

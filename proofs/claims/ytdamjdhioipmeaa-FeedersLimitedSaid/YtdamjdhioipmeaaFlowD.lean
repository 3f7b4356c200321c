/- Contracts of functions that this seat's laws reach, each: what one call returns and what it leaves in memory; no condition beyond each theorem's own hypotheses. -/
import Derived.Test.YtdamjdhioipmeaaFlowC
set_option linter.unusedVariables false
set_option linter.unusedSimpArgs false
namespace Go.Proofs.Ytdamjdhioipmeaa
open Go.RowKit Go.Bl

set_option maxHeartbeats 400000 in
theorem volumeGo_any (A : Option Addr) (c : Nat) (l : List Bead) (w : World) (hl : Sl w 0 A l) :
    Calls Try.prog 11 #[.slice A l.length c] w fun e w' => e = .returned (.tuple #[.int .i64 (volumeOf l), .int .i64 (fedFault l)]) ∧ w.grownBy w' none := by
  by_cases h : checkBeads l = 0
  · have hb : (checkBeads l != 0) = false := by simp [h]
    by_cases h3 : 1000000000000000000 < volW l
    · have HS : Hid (12 = fedFault l) := by simp [Hid, fedFault, h, h3]
      have HV : Hid (0 = volumeOf l) := by simp only [Hid, volumeOf]; rw [if_pos (by rw [← HS.out]; simp)]
      clear h
      go_enter Try.func11, Try.ntmps11
      go_wp2_with fail
      refine (checkBeads_any _ _ _ _ hl).mono ?_
      rintro e w1 ⟨rfl, hg⟩
      go_wp2_with fail
      refine (volume_any _ _ _ _ (hl.pure hg)).mono ?_
      rintro e w2 ⟨rfl, hg2⟩
      go_wp2_with fail
      go_ret2
      exact ⟨by rw [← HS.out, ← HV.out]; rfl, gr_trans hg hg2⟩
    · have HS : Hid (0 = fedFault l) := by simp [Hid, fedFault, h, h3]
      have HV : Hid (volW l = volumeOf l) := by simp only [Hid, volumeOf]; rw [if_neg (by rw [← HS.out]; simp)]
      clear h
      go_enter Try.func11, Try.ntmps11
      go_wp2_with fail
      refine (checkBeads_any _ _ _ _ hl).mono ?_
      rintro e w1 ⟨rfl, hg⟩
      go_wp2_with fail
      refine (volume_any _ _ _ _ (hl.pure hg)).mono ?_
      rintro e w2 ⟨rfl, hg2⟩
      go_wp2_with fail
      go_ret2
      exact ⟨by rw [← HS.out, ← HV.out]; rfl, gr_trans hg hg2⟩
  · have hb : (checkBeads l != 0) = true := by simp [h]
    have HS : Hid (checkBeads l = fedFault l) := by simp [Hid, fedFault, h]
    have HV : Hid (0 = volumeOf l) := by simp only [Hid, volumeOf]; rw [if_pos (by rw [← HS.out]; exact h)]
    clear h
    go_enter Try.func11, Try.ntmps11
    go_wp2_with fail
    refine (checkBeads_any _ _ _ _ hl).mono ?_
    rintro e w1 ⟨rfl, hg⟩
    go_wp2_with fail
    go_ret2
    exact ⟨by rw [← HS.out, ← HV.out]; rfl, hg⟩

set_option maxHeartbeats 400000 in
theorem needOf_any (A : Option Addr) (c : Nat) (l : List Bead) (area : Int) (w : World) (hl : Sl w 0 A l) (hF : areaFault l area = 0) :
    Calls Try.prog 19 #[.slice A l.length c, .int .i64 area] w fun e w' => e = .returned (.agg #[.int .i64 (needOf l area).num, .int .i64 (needOf l area).den]) ∧ w.grownBy w' none := by
  have hv := volW_of_fault hF
  obtain ⟨_, _, ha, ha2, _⟩ := areaFault_zero hF
  have HN : Hid (needOf l area = lowest (volW l) area) := by simp only [Hid, needOf]; rw [if_neg (by simp [hF])]
  clear hF
  go_enter Try.func19, Try.ntmps19
  go_wp2_with fail
  refine (volumeFed_any _ _ _ _ (hl.pure (gr_alloc (World.grownBy.refl _ _) _))).mono ?_
  rintro e w1 ⟨rfl, hg1⟩
  go_wp2_with fail
  refine (lowestRef_any _ _ _ (by omega) (by omega)).mono ?_
  rintro e w2 ⟨rfl, hg2⟩
  have hg := gr_trans hg1 hg2
  have hsz : w.heap.size < w2.heap.size := by have := hg.size; simp at this; omega
  have k0 : w2.cell? ⟨w.heap.size, 0, none⟩ = some (.int .i64 0) := hg.cell (by go_simp) (by simp)
  have k1 : w2.cell? ⟨w.heap.size, 1, none⟩ = some (.int .i64 0) := hg.cell (by go_simp) (by simp)
  have f0 : w2.frozen? ⟨w.heap.size, 0, none⟩ = false := by rw [World.frozen?_of_block (hg.block _ (by simp) (by simp))]; go_simp
  have f1 : w2.frozen? ⟨w.heap.size, 1, none⟩ = false := by rw [World.frozen?_of_block (hg.block _ (by simp) (by simp))]; go_simp
  have hg' := gr_trans (gr_alloc (World.grownBy.refl w none) _) hg
  clear hg hg1 hg2
  go_wp2
  refine bodyPost_ret (v := .agg #[.int .i64 (lowest (volW l) area).num, .int .i64 (lowest (volW l) area).den]) (by simp [results, Try.results19, go_sem, k0, k1, f0, f1]) rfl ⟨by rw [HN.out], ?_⟩
  exact gr_set (gr_set hg' (.inr (Nat.le_refl _)) _) (.inr (Nat.le_refl _)) _

set_option maxHeartbeats 400000 in
theorem need_any (A : Option Addr) (c : Nat) (l : List Bead) (area : Int) (w : World) (hl : Sl w 0 A l) :
    Calls Try.prog 14 #[.slice A l.length c, .int .i64 area] w fun e w' => e = .returned (.tuple #[.agg #[.int .i64 (needOf l area).num, .int .i64 (needOf l area).den], .int .i64 (areaFault l area)]) ∧ w.grownBy w' none := by
  by_cases hF : areaFault l area = 0
  · have hv := volW_of_fault hF
    obtain ⟨_, _, ha, ha2, _⟩ := areaFault_zero hF
    have HN : Hid (needOf l area = lowest (volW l) area) := by simp only [Hid, needOf]; rw [if_neg (by simp [hF])]
    have hb : (areaFault l area != 0) = false := by simp [hF]
    have HF := hide hF
    clear hF
    go_enter Try.func14, Try.ntmps14
    go_wp2_with fail
    refine (areaFault_any _ _ _ _ _ (hl.pure (gr_alloc (World.grownBy.refl _ _) _))).mono ?_
    rintro e w1 ⟨rfl, hg1⟩
    go_wp2_with fail
    refine (volume_any _ _ _ _ (hl.pure (gr_trans (gr_alloc (World.grownBy.refl _ _) _) hg1))).mono ?_
    rintro e w2 ⟨rfl, hg2⟩
    go_wp2_with fail
    refine (lowest_any _ _ _ (by omega) (by omega)).mono ?_
    rintro e w3 ⟨rfl, hg3⟩
    have hg := gr_trans hg1 (gr_trans hg2 hg3)
    have hsz : w.heap.size < (w3).heap.size := by have := (hg).size; simp at this; omega
    have k0 : (w3).cell? ⟨w.heap.size, 0, none⟩ = some (.int .i64 0) := (hg).cell (by go_simp) (by simp)
    have k1 : (w3).cell? ⟨w.heap.size, 1, none⟩ = some (.int .i64 0) := (hg).cell (by go_simp) (by simp)
    have f0 : (w3).frozen? ⟨w.heap.size, 0, none⟩ = false := by rw [World.frozen?_of_block ((hg).block _ (by simp) (by simp))]; go_simp
    have f1 : (w3).frozen? ⟨w.heap.size, 1, none⟩ = false := by rw [World.frozen?_of_block ((hg).block _ (by simp) (by simp))]; go_simp
    have hg' := gr_trans (gr_alloc (World.grownBy.refl w none) _) (hg)
    clear hg hg1 hg2 hg3
    go_wp2
    refine bodyPost_ret (v := .tuple #[.agg #[.int .i64 (lowest (volW l) area).num, .int .i64 (lowest (volW l) area).den], .int .i64 0]) (by simp [results, Try.results14, go_sem, k0, k1, f0, f1]) rfl ⟨by rw [HN.out, HF.out], ?_⟩
    exact gr_set (gr_set hg' (.inr (Nat.le_refl _)) _) (.inr (Nat.le_refl _)) _
  · have HN : Hid (needOf l area = ⟨0, 0⟩) := by simp only [Hid, needOf]; rw [if_pos hF]
    have hb : (areaFault l area != 0) = true := by simp [hF]
    clear hF
    go_enter Try.func14, Try.ntmps14
    go_wp2_with fail
    refine (areaFault_any _ _ _ _ _ (hl.pure (gr_alloc (World.grownBy.refl _ _) _))).mono ?_
    rintro e w1 ⟨rfl, hg1⟩
    have hsz : w.heap.size < (w1).heap.size := by have := (hg1).size; simp at this; omega
    have k0 : (w1).cell? ⟨w.heap.size, 0, none⟩ = some (.int .i64 0) := (hg1).cell (by go_simp) (by simp)
    have k1 : (w1).cell? ⟨w.heap.size, 1, none⟩ = some (.int .i64 0) := (hg1).cell (by go_simp) (by simp)
    have f0 : (w1).frozen? ⟨w.heap.size, 0, none⟩ = false := by rw [World.frozen?_of_block ((hg1).block _ (by simp) (by simp))]; go_simp
    have f1 : (w1).frozen? ⟨w.heap.size, 1, none⟩ = false := by rw [World.frozen?_of_block ((hg1).block _ (by simp) (by simp))]; go_simp
    have hg' := gr_trans (gr_alloc (World.grownBy.refl w none) _) (hg1)
    clear hg1
    go_wp2
    refine bodyPost_ret (v := .tuple #[.agg #[.int .i64 0, .int .i64 0], .int .i64 (areaFault l area)]) (by simp [results, Try.results14, go_sem, k0, k1, f0, f1]) rfl ⟨by rw [HN.out], ?_⟩
    exact gr_set (gr_set hg' (.inr (Nat.le_refl _)) _) (.inr (Nat.le_refl _)) _

def aBead : List Bead := [⟨10, 3, 2⟩]

set_option maxHeartbeats 400000 in
theorem flowed_any (w : World) : Calls Try.prog 16 #[] w fun e w' => e = .returned (.bool true) ∧ w.grownBy w' none := by
  have e1 := hide (show volumeOf aBead = 60 by decide +kernel)
  have e2 := hide (show fedFault aBead = 0 by decide +kernel)
  go_enter Try.func16, Try.ntmps16
  go_wp2_with fail
  refine (volumeGo_any _ _ aBead _ (sl_lit _ 0 [.int .i64 10, .int .i64 3, .int .i64 2] _ aBead (Nat.zero_le _) (by simp [aBead, maxLen]) ⟨_, [], rfl, rfl, rfl⟩)).mono ?_
  rintro e w1 ⟨rfl, hg1⟩
  rw [e1.out, e2.out]
  go_wp2
  go_ret
  exact ⟨rfl, gr_trans (gr_alloc (World.grownBy.refl _ _) _) hg1⟩

set_option maxHeartbeats 400000 in
theorem anArea_any (b : Nat) (N : Int) (w : World) (hs : Strm w b N) (hN : N ≤ 1000000000000) :
    Calls Try.prog 6 #[.pointer (some ⟨b, 0, none⟩)] w (SInt b (N + 1) (fun r => r ∈ [1, 7, 40, 1000, 2405282, 0, 100000000, 100000001]) w) := by
  go_enter Try.func6, Try.ntmps6
  go_wp2_with fail
  refine (pick_any b N _ _ _ [1, 7, 40, 1000, 2405282, 0, 100000000, 100000001] _ (hs.pure (gr_alloc (World.grownBy.refl _ _) _)) hN (sl_ints _ _ _ _ hs.lt (by simp [maxLen])) rfl (by simp)).mono ?_
  rintro e w2 ⟨r, rfl, hr, ho2⟩
  go_wp2_with fail
  go_ret
  exact ⟨_, rfl, hr, gr_trans (gr_alloc (World.grownBy.refl _ _) _) ho2.1, ho2.2⟩

end Go.Proofs.Ytdamjdhioipmeaa

/- Contracts of functions that this seat's laws reach, each: what one call returns and what it leaves in memory; no condition beyond each theorem's own hypotheses. -/
import Derived.Test.YtjodjdjfagjiaaaMeshB
set_option linter.unusedVariables false
set_option linter.unusedSimpArgs false
namespace Go.Proofs.Ytjodjdjfagjiaaa
open Go.RowKit Go.Bl

def vecsF (vs : List V3) : Int := if vs.any farV then 1 else 0
theorem vecsF_no {l : List V3} (h : l.any farV = false) : vecsF l = 0 := by simp [vecsF, h]
theorem vecsF_yes {l : List V3} (h : l.any farV = true) : vecsF l = 1 := by simp [vecsF, h]
theorem anyV_snoc {l : List V3} {k : Nat} (h : k < l.length) : (l.take (k + 1)).any farV = ((l.take k).any farV || farV l[k]) := by rw [take_snoc h, List.any_append]; simp
theorem anyV_at {l : List V3} {k : Nat} (h : k < l.length) (hf : farV l[k] = true) : l.any farV = true := List.any_eq_true.2 ⟨_, List.getElem_mem _, hf⟩
theorem anyZ_snoc {l : List Int} {k : Nat} (h : k < l.length) : (l.take (k + 1)).any farZ = ((l.take k).any farZ || farZ l[k]) := by rw [take_snoc h, List.any_append]; simp
theorem anyZ_at {l : List Int} {k : Nat} (h : k < l.length) (hf : farZ l[k] = true) : l.any farZ = true := List.any_eq_true.2 ⟨_, List.getElem_mem _, hf⟩
theorem farZ_in (n : Int) : farZ n = !inB n (-100000) 100000 := by
  unfold farZ inB
  by_cases h1 : n < -100000 <;> by_cases h2 : 100000 < n <;> simp [h1, h2] <;> omega
def xyz (v : V3) : List Int := [v.x, v.y, v.z]
theorem farV_xyz (v : V3) : farV v = (xyz v).any farZ := by simp [farV, xyz, Bool.or_assoc]

theorem _root_.Go.Bl.Sl.int_at {w : World} {lo g o : Nat} {l : List Int} (h : Sl w lo (some ⟨g, o, none⟩) l) {k : Nat} (hk : k < l.length) : w.cell? ⟨g, o + k, none⟩ = some (.int .i64 l[k]) := by
  obtain ⟨g', o', c, e, _, _, rfl, hc⟩ := h.at_ (by decide) hk
  cases e
  have := hc 0 _ rfl
  rwa [show Enc.sz Int = 1 from rfl, Nat.mul_one] at this

set_option maxHeartbeats 800000 in
theorem vecFault_any (A : Option Addr) (c : Nat) (l : List V3) (w : World) (hl : Sl w 0 A l) :
    Calls Try.prog 43 #[.slice A l.length c] w fun e w' => e = .returned (.int .i64 (vecsF l)) ∧ w.grownBy w' none := by
  have hm := hl.1
  unfold maxLen at hm
  go_enter Try.func43, Try.ntmps43
  go_wp2
  go_loopw [9] (fun i wr => ∃ k : Nat, k ≤ l.length ∧ i = .int .i64 k ∧ w.grownBy wr none ∧ Hid ((l.take k).any farV = false)) (fun i _ => l.length - (intOf i).toNat)
  case atStart => exact ⟨0, Nat.zero_le _, rfl, World.grownBy.refl _ _, by simp [Hid]⟩
  case round =>
    obtain ⟨k, hk, rfl, hg, hall⟩ := hrel
    by_cases hlt : k < l.length
    · obtain ⟨g, o, cx, rfl, hb0, hb1, rfl, hc⟩ := (hl.pure hg).at_ (by decide) hlt
      have v0 : wr.cell? ⟨g, o + k * 3, none⟩ = some (.int .i64 l[k].x) := hc 0 _ rfl
      have v1 : wr.cell? ⟨g, o + k * 3 + 1, none⟩ = some (.int .i64 l[k].y) := hc 1 _ rfl
      have v2 : wr.cell? ⟨g, o + k * 3 + 2, none⟩ = some (.int .i64 l[k].z) := hc 2 _ rfl
      clear hc
      have HF := hide (farV_xyz l[k])
      have HS := hide (anyV_snoc hlt)
      have HA : Hid (farV l[k] = true → l.any farV = true) := anyV_at hlt
      have hx : Hid (xyz l[k] = [l[k].x, l[k].y, l[k].z]) := rfl
      generalize l[k] = v at *
      go_wp2_with fail
      have hq : Sl ((wr.alloc (.cells #[.int .i64 v.x, .int .i64 v.y, .int .i64 v.z] 49)).alloc (.cells #[.int .i64 v.x, .int .i64 v.y, .int .i64 v.z] 3)) 0 (some ⟨wr.heap.size + 1, 0, none⟩) (xyz v) := by
        rw [hx.out]; exact sl_intsAt _ _ _ _ _ (by simp) (Nat.zero_le _) (by simp [maxLen])
      have hgq := gr_alloc (gr_alloc hg (.cells #[.int .i64 v.x, .int .i64 v.y, .int .i64 v.z] 49)) (.cells #[.int .i64 v.x, .int .i64 v.y, .int .i64 v.z] 3)
      have hl3 : (xyz v).length = 3 := rfl
      clear hx v0 v1 v2
      generalize xyz v = q at *
      generalize hW : (wr.alloc (.cells #[.int .i64 v.x, .int .i64 v.y, .int .i64 v.z] 49)).alloc (.cells #[.int .i64 v.x, .int .i64 v.y, .int .i64 v.z] 3) = W at *
      have hWW := World.grownBy.refl W none
      clear hW
      go_loopw [21] (fun i wr => ∃ j : Nat, j ≤ 3 ∧ i = .int .i64 j ∧ w.grownBy wr none ∧ W.grownBy wr none ∧ Hid ((q.take j).any farZ = false)) (fun i _ => 3 - (intOf i).toNat)
      case atStart => exact ⟨0, by omega, rfl, hgq, hWW, by simp [Hid]⟩
      case round =>
        obtain ⟨j, hj, rfl, hgr, hgW, hall2⟩ := hrel
        by_cases hjt : j < 3
        · have c0 := (hq.pure hgW).int_at (show j < q.length by omega)
          rw [Nat.zero_add] at c0
          have HS2 := hide (anyZ_snoc (show j < q.length by omega))
          have HA2 : Hid (farZ (q[j]'(by omega)) = true → q.any farZ = true) := anyZ_at (show j < q.length by omega)
          have HI := hide (farZ_in (q[j]'(by omega)))
          go_wp2_with (go_at_call 44; refine (in_any _ _ _ _).mono ?_; rintro e w' ⟨rfl, rfl⟩)
          all_goals first
            | (go_ret; exact ⟨ret_int (vecsF_yes (HA.out (by rw [HF.out]; exact HA2.out (by rw [HI.out]; simp [*])))).symm, (by repeat (first | exact World.grownBy.refl _ _ | assumption | refine gr_alloc ?_ _ | refine gr_drewN ?_ _ | refine gr_drew ?_))⟩)
            | (go_roundw; (case rel => exact ⟨j + 1, by omega, by go_num, (by repeat (first | exact World.grownBy.refl _ _ | assumption | refine gr_alloc ?_ _ | refine gr_drewN ?_ _ | refine gr_drew ?_)), (by repeat (first | exact World.grownBy.refl _ _ | assumption | refine gr_alloc ?_ _ | refine gr_drewN ?_ _ | refine gr_drew ?_)), by simp only [Hid]; rw [HS2.out, hall2.out, HI.out]; simp [*]⟩); (case measure => simp [intOf]; omega))
        · have HN : Hid (farV v = false) := by rw [Hid, HF.out]; have := hall2.out; rwa [List.take_of_length_le (by omega)] at this
          have hj3 : j = 3 := by omega
          subst hj3
          go_wp2
          (go_roundw; (case rel => exact ⟨k + 1, by omega, by go_num, hgr, by simp only [Hid]; rw [HS.out, hall.out, HN.out]; rfl⟩); (case measure => simp [intOf]; omega))
    · have HB : Hid (vecsF l = 0) := vecsF_no (by have := hall.out; rwa [List.take_of_length_le (by omega)] at this)
      go_wp2
      go_ret
      exact ⟨ret_int HB.out.symm, hg⟩

end Go.Proofs.Ytjodjdjfagjiaaa

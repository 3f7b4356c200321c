/- Contracts of functions that this seat's laws reach, each: what one call returns and what it leaves in memory; no condition beyond each theorem's own hypotheses. -/
import Derived.Test.YtjodjdjfagjiaaaMeshC
set_option linter.unusedVariables false
set_option linter.unusedSimpArgs false
namespace Go.Proofs.Ytjodjdjfagjiaaa
open Go.RowKit Go.Bl

def abc (f : Fc) : List Int := [f.a, f.b, f.c]
theorem inF_abc (n : Nat) (f : Fc) : inF n f = (abc f).all (inI n) := by simp [inF, abc, Bool.and_assoc]
theorem allI_snoc {n : Nat} {l : List Int} {k : Nat} (h : k < l.length) : (l.take (k + 1)).all (inI n) = ((l.take k).all (inI n) && inI n l[k]) := by rw [take_snoc h, List.all_append]; simp
theorem allI_not {n : Nat} {l : List Int} {k : Nat} (h : k < l.length) (hf : inI n l[k] = false) : l.all (inI n) = false := by
  rw [List.all_eq_false]; exact ⟨_, List.getElem_mem h, by simp [hf]⟩
theorem faceF_out {l : List V3} {f : Fc} (h : inF l.length f = false) : faceF l f = 8 := by unfold faceF; rw [h]; rfl
theorem faceF_flat {l : List V3} {f : Fc} (h : inF l.length f = true) (h2 : normV l f = ⟨0, 0, 0⟩) : faceF l f = 3 := by unfold faceF; rw [h, if_pos rfl, if_pos h2]
theorem faceF_ok {l : List V3} {f : Fc} (h : inF l.length f = true) (h2 : normV l f ≠ ⟨0, 0, 0⟩) : faceF l f = 0 := by unfold faceF; rw [h, if_pos rfl, if_neg h2]
theorem v3_zero (v : V3) : v = ⟨0, 0, 0⟩ ↔ v.x = 0 ∧ v.y = 0 ∧ v.z = 0 := by cases v; simp

set_option maxHeartbeats 2000000 in
theorem faceFault_any (A : Option Addr) (c : Nat) (l : List V3) (B : Option Addr) (m d : Nat) (f : Fc) (w : World) (hl : Sl w 0 A l) (hf : l.any farV = false) :
    Calls Try.prog 92 #[.agg #[.slice A l.length c, .slice B m d], .agg #[.int .i64 f.a, .int .i64 f.b, .int .i64 f.c]] w fun e w' => e = .returned (.int .i64 (faceF l f)) ∧ w.grownBy w' none := by
  have hm := hl.1
  unfold maxLen at hm
  have hx : Hid (abc f = [f.a, f.b, f.c]) := rfl
  have hF := hide (inF_abc l.length f)
  go_enter Try.func92, Try.ntmps92
  go_wp2_with fail
  have hq : Sl (((w.alloc (.cells #[.slice A l.length c, .slice B m d] 29)).alloc (.cells #[.int .i64 f.a, .int .i64 f.b, .int .i64 f.c] 67)).alloc (.cells #[.int .i64 f.a, .int .i64 f.b, .int .i64 f.c] 3)) 0 (some ⟨w.heap.size + 1 + 1, 0, none⟩) (abc f) := by
    rw [hx.out]; exact sl_intsAt _ _ _ _ _ (by simp) (Nat.zero_le _) (by simp [maxLen])
  have hgq := gr_alloc (gr_alloc (gr_alloc (World.grownBy.refl w none) (.cells #[.slice A l.length c, .slice B m d] 29)) (.cells #[.int .i64 f.a, .int .i64 f.b, .int .i64 f.c] 67)) (.cells #[.int .i64 f.a, .int .i64 f.b, .int .i64 f.c] 3)
  have b0 : (((w.alloc (.cells #[.slice A l.length c, .slice B m d] 29)).alloc (.cells #[.int .i64 f.a, .int .i64 f.b, .int .i64 f.c] 67)).alloc (.cells #[.int .i64 f.a, .int .i64 f.b, .int .i64 f.c] 3)).cell? ⟨w.heap.size, 0, none⟩ = some (.slice A l.length c) := by go_simp
  have b1 : (((w.alloc (.cells #[.slice A l.length c, .slice B m d] 29)).alloc (.cells #[.int .i64 f.a, .int .i64 f.b, .int .i64 f.c] 67)).alloc (.cells #[.int .i64 f.a, .int .i64 f.b, .int .i64 f.c] 3)).cell? ⟨w.heap.size, 1, none⟩ = some (.slice B m d) := by go_simp
  have b2 : (((w.alloc (.cells #[.slice A l.length c, .slice B m d] 29)).alloc (.cells #[.int .i64 f.a, .int .i64 f.b, .int .i64 f.c] 67)).alloc (.cells #[.int .i64 f.a, .int .i64 f.b, .int .i64 f.c] 3)).cell? ⟨w.heap.size + 1, 0, none⟩ = some (.int .i64 f.a) := by go_simp
  have b3 : (((w.alloc (.cells #[.slice A l.length c, .slice B m d] 29)).alloc (.cells #[.int .i64 f.a, .int .i64 f.b, .int .i64 f.c] 67)).alloc (.cells #[.int .i64 f.a, .int .i64 f.b, .int .i64 f.c] 3)).cell? ⟨w.heap.size + 1, 1, none⟩ = some (.int .i64 f.b) := by go_simp
  have b4 : (((w.alloc (.cells #[.slice A l.length c, .slice B m d] 29)).alloc (.cells #[.int .i64 f.a, .int .i64 f.b, .int .i64 f.c] 67)).alloc (.cells #[.int .i64 f.a, .int .i64 f.b, .int .i64 f.c] 3)).cell? ⟨w.heap.size + 1, 2, none⟩ = some (.int .i64 f.c) := by go_simp
  have hl3 : (abc f).length = 3 := rfl
  clear hx
  generalize hqq : abc f = q at *
  clear hqq
  generalize ((w.alloc (.cells #[.slice A l.length c, .slice B m d] 29)).alloc (.cells #[.int .i64 f.a, .int .i64 f.b, .int .i64 f.c] 67)).alloc (.cells #[.int .i64 f.a, .int .i64 f.b, .int .i64 f.c] 3) = W at *
  have hWW := World.grownBy.refl W none
  go_loopw [15] (fun i wr => ∃ j : Nat, j ≤ 3 ∧ i = .int .i64 j ∧ w.grownBy wr none ∧ W.grownBy wr none ∧ Hid ((q.take j).all (inI l.length) = true)) (fun i _ => 3 - (intOf i).toNat)
  case atStart => exact ⟨0, by omega, rfl, hgq, hWW, by simp [Hid]⟩
  case round =>
    obtain ⟨j, hj, rfl, hgr, hgW, hall⟩ := hrel
    replace b0 := hgW.k b0
    replace b1 := hgW.k b1
    replace b2 := hgW.k b2
    replace b3 := hgW.k b3
    replace b4 := hgW.k b4
    by_cases hjt : j < 3
    · have c0 := (hq.pure hgW).int_at (show j < q.length by omega)
      rw [Nat.zero_add] at c0
      have HS := hide (allI_snoc (n := l.length) (show j < q.length by omega))
      have HA : Hid (inI l.length (q[j]'(by omega)) = false → q.all (inI l.length) = false) := allI_not (show j < q.length by omega)
      have HI : Hid (inI l.length (q[j]'(by omega)) = (decide (0 ≤ q[j]'(by omega)) && decide (q[j]'(by omega) < l.length))) := rfl
      have hFo : Hid (inF l.length f = false → faceF l f = 8) := faceF_out
      clear hf
      go_wp2
      all_goals first
        | (go_ret; exact ⟨ret_int (hFo.out (by rw [hF.out]; exact HA.out (by rw [HI.out]; simp; omega))).symm, (by repeat (first | exact World.grownBy.refl _ _ | assumption | refine gr_alloc ?_ _ | refine gr_drewN ?_ _ | refine gr_drew ?_))⟩)
        | (go_roundw; (case rel => exact ⟨j + 1, by omega, by go_num, (by repeat (first | exact World.grownBy.refl _ _ | assumption | refine gr_alloc ?_ _ | refine gr_drewN ?_ _ | refine gr_drew ?_)), (by repeat (first | exact World.grownBy.refl _ _ | assumption | refine gr_alloc ?_ _ | refine gr_drewN ?_ _ | refine gr_drew ?_)), by simp only [Hid]; rw [HS.out, hall.out, HI.out]; simp; omega⟩); (case measure => simp [intOf]; omega))
    · have hin : inF l.length f = true := by rw [hF.out]; have := hall.out; rwa [List.take_of_length_le (by omega)] at this
      have hin2 := hide hin
      have hf2 := hide hf
      have HE : Hid (f.a = f.b ∨ f.b = f.c ∨ f.c = f.a → faceF l f = 3) := fun h => faceF_flat hin (norm_eq h)
      have HZ : Hid ((normV l f).x = 0 ∧ (normV l f).y = 0 ∧ (normV l f).z = 0 → faceF l f = 3) := fun h => faceF_flat hin ((v3_zero _).2 h)
      have HO : Hid (¬ ((normV l f).x = 0 ∧ (normV l f).y = 0 ∧ (normV l f).z = 0) → faceF l f = 0) := fun h => faceF_ok hin (fun e => h ((v3_zero _).1 e))
      clear hin hf
      have hj3 : j = 3 := by omega
      subst hj3
      go_wp2_with (go_at_call 51; refine (normalOf_any A c l B m d f _ (hl.pure (by repeat (first | exact World.grownBy.refl _ _ | assumption | refine gr_alloc ?_ _ | refine gr_drewN ?_ _ | refine gr_drew ?_))) hf2.out hin2.out).mono ?_; rintro e w' ⟨rfl, hg'⟩; generalize normV l f = N at *)
      all_goals first
        | (go_ret; exact ⟨ret_int (HE.out (by omega)).symm, (by repeat (first | exact World.grownBy.refl _ _ | assumption | refine gr_alloc ?_ _ | (apply gr_tail; assumption) | refine gr_drewN ?_ _ | refine gr_drew ?_))⟩)
        | (go_ret; exact ⟨ret_int (HZ.out (by omega)).symm, (by repeat (first | exact World.grownBy.refl _ _ | assumption | refine gr_alloc ?_ _ | (apply gr_tail; assumption) | refine gr_drewN ?_ _ | refine gr_drew ?_))⟩)
        | (exfalso; rename_i h; simp [*] at h; done)
        | (go_ret; exact ⟨ret_int (HO.out (by omega)).symm, (by repeat (first | exact World.grownBy.refl _ _ | assumption | refine gr_alloc ?_ _ | (apply gr_tail; assumption) | refine gr_drewN ?_ _ | refine gr_drew ?_))⟩)
        | trace_state

end Go.Proofs.Ytjodjdjfagjiaaa

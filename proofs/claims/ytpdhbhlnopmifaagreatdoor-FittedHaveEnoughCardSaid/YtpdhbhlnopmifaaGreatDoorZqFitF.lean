/- Contracts of functions that this seat's laws reach, each: what one call returns and what it leaves in memory; no condition beyond each theorem's own hypotheses. -/
import Derived.Test.YtpdhbhlnopmifaaGreatDoorZqFitC
import Derived.Test.YtpdhbhlnopmifaaGreatDoorZqMostData
set_option linter.unusedVariables false
set_option linter.unusedSimpArgs false
namespace Go.Proofs.YtpdhbhlnopmifaaGreatDoor
open Go Go.RowKit Go.Bl Go.Lib

theorem sum_bd : ∀ {l : List Int} {M : Int}, (∀ v ∈ l, 0 ≤ v ∧ v ≤ M) → 0 ≤ M → 0 ≤ l.sum ∧ l.sum ≤ M * l.length
  | [], M, _, _ => by simp
  | x :: l, M, h, hM => by
    have ih := sum_bd (fun v hv => h v (List.mem_cons_of_mem _ hv)) hM
    have h1 := h x (List.mem_cons_self ..)
    simp only [List.sum_cons, List.length_cons, Int.natCast_add, Int.mul_add]
    omega

theorem sum_take {l : List Int} {k : Nat} (h : k < l.length) : (l.take (k + 1)).sum = (l.take k).sum + l[k] := by
  rw [List.take_succ_eq_append_getElem h, List.sum_append]
  simp

set_option maxHeartbeats 4000000 in
set_option maxRecDepth 100000 in
theorem most_any (A : Option Addr) (c : Nat) (l : List Int) (many : Nat) (w : World) (hl : Sl w 0 A l) (h50 : l.length ≤ 50) (hm : many ≤ 1000) (hb : ∀ v ∈ l, 0 ≤ v ∧ v ≤ 1000000000) :
    Calls Tryz.prog 44 #[.slice A l.length c, .int .i64 many] w fun e w' => e = .returned (.int .i64 (mostF l many)) ∧ w.grownBy w' none := by
  have hCl := hide (cloneInt_any A c l w hl (by omega))
  have e1 : ∀ args w, (callFunc 75 args).run Tryz.prog w = .ok (.enter 75 args) w := enters_of Tryz.func75 (by kernel_rfl) rfl
  have hSo := hide fun (A3 : Option Addr) (c3 lo : Nat) (wx : World) (h : Own wx lo 3 A3 c3 l) => sortA_any 75 A3 c3 lo l wx h (by omega) e1 mostC_any
  have hbs : Hid (∀ v ∈ srtD l, 0 ≤ v ∧ v ≤ 1000000000) := fun v hv => hb v ((srtD_perm l).mem_iff.1 hv)
  have hz : Hid ((srtD l).length = l.length) := srtD_len l
  have hV : Hid (mostF l many = ((srtD l).take (min many l.length)).sum) := by
    unfold Hid mostF
    by_cases h : many ≤ l.length
    · rw [Nat.min_eq_left h]
    · rw [Nat.min_eq_right (by omega), List.take_of_length_le (by rw [srtD_len]; omega), List.take_of_length_le (by rw [srtD_len]; omega)]
  obtain ⟨k0, hk0⟩ : ∃ k0, k0 = min many l.length := ⟨_, rfl⟩
  rw [← hk0] at hV
  have hk1 : k0 ≤ l.length := by omega
  have hmi : min (many : Int) (l.length : Int) = (k0 : Int) := by omega
  have hmx : max (k0 : Int) 0 = (k0 : Int) := by omega
  generalize mostF l many = V at *
  generalize srtD l = S at *
  clear hl hb e1 hk0
  go_enter Tryz.func44, Tryz.ntmps44
  go_wp2_with fail
  refine hCl.out.mono ?_
  rintro e w1 ⟨A3, c3, rfl, hO3, hg1⟩
  have hcap := hO3.cap
  go_wp2_with fail
  refine (hSo.out A3 c3 w.heap.size w1 hO3).mono ?_
  rintro e w2 ⟨rfl, hO2, hg2⟩
  have hgw : w.grownBy w2 none := gr_row hg1 hg2 (fun x e => (hO3.blk_lt e).1)
  have hsl := hO2.sl.mono (Nat.zero_le _)
  clear hO3 hO2 hg1 hg2 hCl hSo
  go_wp2_with fail
  clear hmi hmx
  go_loopw [5, 19] (fun n i wr => ∃ k : Nat, k ≤ k0 ∧ i = .int .i64 k ∧ n = .int .i64 (S.take k).sum ∧ w2.grownBy wr none) (fun _ i _ => k0 - (intOf i).toNat)
  case atStart => exact ⟨0, Nat.zero_le _, rfl, by simp, World.grownBy.refl _ _⟩
  case round =>
    obtain ⟨k, hk, rfl, rfl, hgr⟩ := hrel
    by_cases hlt : k < k0
    · have hkS : k < S.length := by rw [hz.out]; omega
      obtain ⟨g1, o1, cx1, rfl, -, -, rfl, hc⟩ := ((hsl.pure hgr)).at_ (by decide) hkS
      have d1 : wr.cell? ⟨g1, o1 + k, none⟩ = some (.int .i64 S[k]) := by
        have h1 := hc 0 _ rfl
        rwa [show Enc.sz Int = 1 from rfl, Nat.mul_one] at h1
      clear hc
      have hsb := sum_bd (l := S.take k) (M := 1000000000) (fun v hv => hbs.out v (List.mem_of_mem_take hv)) (by omega)
      have htl : (S.take k).length ≤ 50 := by rw [List.length_take]; omega
      have hvb := hbs.out _ (List.getElem_mem hkS)
      have hst := hide (sum_take hkS)
      generalize S[k] = v at *
      generalize (S.take k).sum = Z at *
      have hzb : 0 ≤ Z ∧ Z ≤ 50000000000 := ⟨hsb.1, by have := hsb.2; omega⟩
      clear hsb
      go_wp2_with fail
      (go_roundw; (case rel => exact ⟨k + 1, by omega, by go_num, by rw [hst.out], hgr⟩); (case measure => simp [intOf]; omega))
    · have hk2 : k = k0 := by omega
      subst hk2
      have hR := hV.out
      rw [← hR]
      clear hR hV
      go_wp2_with fail
      go_ret
      exact ⟨rfl, hgw.t hgr⟩

end Go.Proofs.YtpdhbhlnopmifaaGreatDoor

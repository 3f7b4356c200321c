/- Contracts of functions that this seat's laws reach, each: what one call returns and what it leaves in memory; no condition beyond each theorem's own hypotheses. -/
import Derived.Test.YtjfkglhodldkkaaDoorRows
import Derived.Test.YtjfkglhodldkkaaDoorMTree
set_option linter.unusedVariables false
set_option linter.unusedSimpArgs false
namespace Go.Proofs.YtjfkglhodldkkaaDoor
open Go.RowKit Go.Bl

theorem infoI : (Tryd.prog.info? 3).map (fun i => (i.zero, i.size, i.bytes)) = some (some (.int .i64 0), 1, 8) := by kernel_rfl

theorem isNaN2_any (x : Int) (w : World) : Calls Tryd.prog 48 #[.int .i64 x] w fun e w' => e = .returned (.bool false) ∧ w = w' := by
  go_enter Tryd.func48, Tryd.ntmps48
  go_wp2
  go_ret
  exact ⟨rfl, rfl⟩

theorem isNaN3_any (x : Int) (w : World) : Calls Tryd.prog 37 #[.int .i64 x] w fun e w' => e = .returned (.bool false) ∧ w = w' := by
  go_enter Tryd.func37, Tryd.ntmps37
  go_wp2
  go_ret
  exact ⟨rfl, rfl⟩

def ltB (x y : Int) : Bool := decide (x < y)

set_option maxHeartbeats 400000 in
theorem lessInt_any (x y : Int) (w : World) : Calls Tryd.prog 36 #[.int .i64 x, .int .i64 y] w fun e w' => e = .returned (.bool (ltB x y)) ∧ w = w' := by
  go_enter Tryd.func36, Tryd.ntmps36
  go_wp2_with (go_at_call 48; refine (isNaN2_any _ _).mono ?_; rintro e w' ⟨rfl, rfl⟩)
  go_ret
  exact ⟨rfl, rfl⟩

theorem mem_of_get {l : List Int} {x : Int} {k : Nat} (hk : k < l.length) (h : l[k] = x) : memB l x = true := by
  simp only [memB, decide_eq_true_eq]; rw [← h]; exact List.getElem_mem _
theorem mem_none {l : List Int} {x : Int} {k : Nat} (h0 : ∀ i (hi : i < l.length), i < k → l[i] < x) (h1 : ∀ i (hi : i < l.length), k ≤ i → x < l[i]) : memB l x = false := by
  simp only [memB, decide_eq_false_iff_not]
  intro hx
  obtain ⟨i, hi, e⟩ := List.getElem_of_mem hx
  rcases Nat.lt_or_ge i k with h | h
  · have := h0 i hi h; omega
  · have := h1 i hi h; omega

set_option maxHeartbeats 1000000 in
theorem binSearchInt_any (A : Option Addr) (c : Nat) (l : List Int) (x : Int) (w : World) (hl : Sl w 0 A l) (hup : Up l) (hlen : l.length ≤ 1000000) :
    Calls Tryd.prog 28 #[.slice A l.length c, .int .i64 x] w fun e w' => ∃ r : Int, e = .returned (.tuple #[.int .i64 r, .bool (memB l x)]) ∧ w.grownBy w' none := by
  have hup := hide hup
  go_enter Tryd.func28, Tryd.ntmps28
  go_wp2
  go_loopw [7, 8] (fun a b wr => ∃ i j : Nat, i ≤ j ∧ j ≤ l.length ∧ a = .int .i64 i ∧ b = .int .i64 j ∧ Hid (∀ k (hk : k < l.length), k < i → l[k] < x) ∧ Hid (∀ k (hk : k < l.length), j ≤ k → x ≤ l[k]) ∧ w.grownBy wr none) (fun a b _ => (intOf b - intOf a).toNat)
  case atStart => exact ⟨0, l.length, Nat.zero_le _, Nat.le_refl _, rfl, rfl, fun k _ h => by omega, fun k _ h => by omega, World.grownBy.refl _ _⟩
  case round =>
    obtain ⟨i, j, hij, hj, rfl, rfl, hlo, hhi, hg⟩ := hrel
    by_cases hlt : i < j
    · obtain ⟨m, hm⟩ : ∃ m : Nat, ((i : Int) + j) / 2 = m := ⟨(i + j) / 2, by omega⟩
      have hm2 : i ≤ m ∧ m < j := by omega
      have hml : m < l.length := by omega
      obtain ⟨g, o, cx, rfl, hb0, hb1, rfl, hc⟩ := (hl.pure hg).at_ (by decide) hml
      have c0 : wr.cell? ⟨g, o + m, none⟩ = some (.int .i64 l[m]) := by have := hc 0 _ rfl; rwa [show Enc.sz Int = 1 from rfl, Nat.mul_one] at this
      clear hc
      rcases hb : ltB l[m] x with _ | _
      · have hge : x ≤ l[m] := by simpa [ltB] using hb
        have HS : Hid (∀ k (hk : k < l.length), m ≤ k → x ≤ l[k]) := fun k hk hmk => by
          rcases Nat.lt_or_ge m k with h | h
          · have := hup.out m k hml hk h; omega
          · obtain rfl : m = k := by omega
            exact hge
        clear hge
        go_wp2_with fail
        refine (lessInt_any _ _ _).mono ?_
        rintro e w' ⟨rfl, rfl⟩
        go_wp2
        go_roundw
        case rel => exact ⟨i, m, by omega, by omega, rfl, rfl, hlo, HS, hg⟩
        case measure => simp [intOf]; omega
      · have hlt2 : l[m] < x := by simpa [ltB] using hb
        have HS : Hid (∀ k (hk : k < l.length), k < m + 1 → l[k] < x) := fun k hk hmk => by
          rcases Nat.lt_or_ge k m with h | h
          · have := hup.out k m hk hml h; omega
          · obtain rfl : m = k := by omega
            exact hlt2
        clear hlt2
        go_wp2_with fail
        refine (lessInt_any _ _ _).mono ?_
        rintro e w' ⟨rfl, rfl⟩
        go_wp2
        go_roundw
        case rel => exact ⟨m + 1, j, by omega, by omega, by go_num, rfl, HS, hhi, hg⟩
        case measure => simp [intOf]; omega
    · have hij2 : i = j := by omega
      subst hij2
      by_cases hil : i < l.length
      · obtain ⟨g, o, cx, rfl, hb0, hb1, rfl, hc⟩ := (hl.pure hg).at_ (by decide) hil
        have c0 : wr.cell? ⟨g, o + i, none⟩ = some (.int .i64 l[i]) := by have := hc 0 _ rfl; rwa [show Enc.sz Int = 1 from rfl, Nat.mul_one] at this
        clear hc
        by_cases hz : l[i] = x
        · have hb : (l[i] == x) = true := by simp [hz]
          have HS : Hid (memB l x = true) := mem_of_get hil hz
          clear hz
          go_wp2
          go_ret2
          exact ⟨_, by rw [HS.out]; rfl, hg⟩
        · have hb : (l[i] == x) = false := by simp [hz]
          have HS : Hid (memB l x = false) := mem_none hlo.out (fun k hk hik => by
            have h1 := hhi.out i hil (Nat.le_refl _)
            rcases Nat.lt_or_ge i k with h | h
            · have := hup.out i k hil hk h; omega
            · obtain rfl : i = k := by omega
              omega)
          clear hz
          go_wp2_with (go_at_call 37; refine (isNaN3_any _ _).mono ?_; rintro e w' ⟨rfl, rfl⟩)
          go_ret2
          exact ⟨_, by rw [HS.out]; rfl, hg⟩
      · have HS : Hid (memB l x = false) := mem_none (k := i) hlo.out (fun k hk hik => by omega)
        go_wp2
        go_ret2
        exact ⟨_, by rw [HS.out]; rfl, hg⟩

end Go.Proofs.YtjfkglhodldkkaaDoor

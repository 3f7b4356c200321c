/- Contracts of functions that this seat's laws reach, each: what one call returns and what it leaves in memory; no condition beyond each theorem's own hypotheses. -/
import Derived.Test.YtanioobepfllgaaDoorRows
import Derived.Test.YtanioobepfllgaaDoorZqTree
set_option linter.unusedVariables false
set_option linter.unusedSimpArgs false
namespace Go.Proofs.YtanioobepfllgaaDoor
open Go.RowKit Go.Bl

theorem infoI : (Tryd.prog.info? 3).map (fun i => (i.zero, i.size, i.bytes)) = some (some (.int .i64 0), 1, 8) := by kernel_rfl

set_option maxHeartbeats 400000 in
theorem indexInt_any (A : Option Addr) (c : Nat) (l : List Int) (x : Int) (w : World) (hl : Sl w 0 A l) :
    Calls Tryd.prog 63 #[.slice A l.length c, .int .i64 x] w fun e w' => ∃ r : Int, e = .returned (.int .i64 r) ∧ (decide (0 ≤ r) = memB l x) ∧ w = w' := by
  have hm := hl.1
  unfold maxLen at hm
  go_enter Tryd.func63, Tryd.ntmps63
  go_wp2
  go_loop [8] (fun i => ∃ k : Nat, k ≤ l.length ∧ i = .int .i64 k ∧ Hid (∀ y ∈ l.take k, y ≠ x)) (fun i => l.length - (intOf i).toNat)
  case atStart => exact ⟨0, Nat.zero_le _, rfl, by simp [Hid]⟩
  case round =>
    obtain ⟨k, hk, rfl, ht⟩ := hrel
    obtain ⟨wr, hwr⟩ : ∃ wr : World, wr = w := ⟨_, rfl⟩
    subst hwr
    by_cases hlt : k < l.length
    · obtain ⟨g, o, cx, rfl, hb0, hb1, rfl, hc⟩ := (hl).at_ (by decide) hlt
      have c0 : wr.cell? ⟨g, o + k, none⟩ = some (.int .i64 l[k]) := by have := hc 0 _ rfl; rwa [show Enc.sz Int = 1 from rfl, Nat.mul_one] at this
      clear hc
      by_cases hz : x = l[k]
      · have hb : (x == l[k]) = true := by simp [hz]
        have HS : Hid (memB l x = true) := by simp only [Hid, memB, decide_eq_true_eq]; rw [hz]; exact List.getElem_mem _
        clear hz
        go_wp2
        go_ret
        exact ⟨_, rfl, by rw [HS.out]; simp, rfl⟩
      · have hb : (x == l[k]) = false := by simp [hz]
        have HS : Hid (∀ y ∈ l.take (k + 1), y ≠ x) := by
          intro y hy
          rw [take_snoc hlt, List.mem_append] at hy
          rcases hy with hy | hy
          · exact ht.out y hy
          · simp at hy; rw [hy]; exact fun h => hz h.symm
        clear hz
        go_wp2
        go_round
        case rel => exact ⟨k + 1, by omega, by go_num, HS⟩
        case measure => simp [intOf]; omega
    · have HS : Hid (memB l x = false) := by
        simp only [Hid, memB, decide_eq_false_iff_not]
        intro hx
        have := ht.out
        rw [List.take_of_length_le (by omega)] at this
        exact this x hx rfl
      go_wp2
      go_ret
      exact ⟨_, rfl, by rw [HS.out]; simp, rfl⟩

set_option maxHeartbeats 400000 in
theorem containsInt_any (A : Option Addr) (c : Nat) (l : List Int) (x : Int) (w : World) (hl : Sl w 0 A l) :
    Calls Tryd.prog 49 #[.slice A l.length c, .int .i64 x] w fun e w' => e = .returned (.bool (memB l x)) ∧ w = w' := by
  go_enter Tryd.func49, Tryd.ntmps49
  go_wp2_with fail
  refine (indexInt_any _ _ _ _ _ hl).mono ?_
  rintro e w1 ⟨r, rfl, hr, rfl⟩
  have hr := hide hr
  go_wp2_with fail
  go_ret
  exact ⟨rfl, rfl⟩

set_option maxHeartbeats 400000 in
theorem cloneInt_any (A : Option Addr) (c : Nat) (l : List Int) (w : World) (hl : Sl w 0 A l) (hlen : l.length ≤ 1000000) :
    Calls Tryd.prog 42 #[.slice A l.length c] w fun e w' => ∃ A' c', e = .returned (.slice A' l.length c') ∧ Own w' w.heap.size 3 A' c' l ∧ w.grownBy w' none := by
  obtain ⟨i0, hi, hz, h1, h2⟩ := info_parts infoI
  have hq := fun W => Lib.run_eql_slice_nil (P := Tryd.prog) W 22 3 A l.length c 0 0 Tryd.underlying22
  rcases A with _ | ad
  · have hl0 : l = [] := by
      rcases Nat.eq_zero_or_pos l.length with h | h
      · exact List.eq_nil_of_length_eq_zero h
      · obtain ⟨g, o, cx, e, _⟩ := hl.at_ (by decide) h
        cases e
    subst hl0
    simp only [List.length_nil] at hq
    go_enter Tryd.func42, Tryd.ntmps42
    go_wp2_with fail
    go_ret
    exact ⟨none, 0, rfl, Own.nil _ _ _, World.grownBy.refl _ _⟩
  · go_enter Tryd.func42, Tryd.ntmps42
    go_wp2_with (at_builtin; refine wpList_push (α := Int) _ rfl (.tmp 5) (.tmp 6) _ rfl w.heap.size 3 i0 _ 8 Tryd.underlying22 hi hz h1 h2 rfl _ _ _ [] rfl rfl (by exact Own.empty _ _ _ (Nat.le_refl _)) 0 ad _ c l rfl rfl (by exact hl.pure (gr_alloc (World.grownBy.refl _ _) _)) ?c2 ?c3 ?c4 ?_)
    case c2 => simp; omega
    case c3 => simp [maxLen]; omega
    case c4 => simp
    intro A2 c2 w2 hown hup
    go_wp2
    go_ret
    exact ⟨A2, c2, rfl, hown, hup.gr (Nat.le_refl _) (gr_alloc (World.grownBy.refl _ _) _)⟩

def ltB (x y : Int) : Bool := decide (x < y)

end Go.Proofs.YtanioobepfllgaaDoor

/- Contracts of functions that this seat's laws reach, each: what one call returns and what it leaves in memory; no condition beyond each theorem's own hypotheses. -/
import Derived.Test.YtanioobepfllgaaDoorZqPathA
import Derived.StillTailTactics
set_option linter.unusedVariables false
set_option linter.unusedSimpArgs false
namespace Go.Proofs.YtanioobepfllgaaDoor
open Go.RowKit Go.Bl

set_option maxHeartbeats 400000 in
theorem or_any (A : Option Addr) (n c : Nat) (l : List Int) (w : World) (hl : Sl w 0 A l) (hn : n = l.length) :
    Calls Tryd.prog 8 #[.slice A n c] w fun e w' => e = .returned (.int .i64 (orL l)) ∧ w = w' := by
  have hm := hl.1
  unfold maxLen at hm
  subst hn
  go_enter Tryd.func8, Tryd.ntmps8
  go_wp2
  go_loop [8] (fun i => ∃ k : Nat, k ≤ l.length ∧ i = .int .i64 k ∧ Hid (orL (l.drop k) = orL l)) (fun i => l.length - (intOf i).toNat)
  case atStart => exact ⟨0, Nat.zero_le _, rfl, rfl⟩
  case round =>
    obtain ⟨k, hk, rfl, hd⟩ := hrel
    by_cases hlt : k < l.length
    · obtain ⟨g, o, cx, rfl, hb0, hb1, rfl, hc⟩ := hl.at_ (by decide) hlt
      have c0 : w.cell? ⟨g, o + k, none⟩ = some (.int .i64 l[k]) := by have := hc 0 _ rfl; rwa [show Enc.sz Int = 1 from rfl, Nat.mul_one] at this
      clear hc
      by_cases hz : l[k] = 0
      · have HS : Hid (orL (l.drop (k + 1)) = orL l) := by have := hd.out; rw [orL_drop hlt, if_neg (by simp [hz])] at this; exact this
        have hb : (l[k] != 0) = false := by simp [hz]
        clear hz
        go_wp2
        go_round
        case rel => exact ⟨k + 1, by omega, by go_num, HS⟩
        case measure => simp [intOf]; omega
      · have HS : Hid (l[k] = orL l) := by have := hd.out; rw [orL_drop hlt, if_pos hz] at this; exact this
        have hb : (l[k] != 0) = true := by simp [hz]
        clear hz
        go_wp2
        go_ret
        exact ⟨ret_int HS.out, rfl⟩
    · have HS : Hid (0 = orL l) := by have := hd.out; rw [List.drop_of_length_le (by omega)] at this; exact this
      go_wp2
      go_ret
      exact ⟨ret_int HS.out, rfl⟩

set_option maxHeartbeats 400000 in
theorem equalInts_any (A B : Option Addr) (c d : Nat) (l m : List Int) (w : World) (hl : Sl w 0 A l) (hr : Sl w 0 B m) :
    Calls Tryd.prog 16 #[.slice A l.length c, .slice B m.length d] w fun e w' => e = .returned (.bool (eqB l m)) ∧ w.grownBy w' none := by
  have hm := hl.1
  unfold maxLen at hm
  have hm2 := hr.1
  unfold maxLen at hm2
  by_cases h : l.length = m.length
  · have hb : ((l.length : Int) != m.length) = false := by simp [h]
    have HL := hide h
    have hle : l.length ≤ m.length := by omega
    clear h
    go_enter Tryd.func16, Tryd.ntmps16
    go_wp2
    go_loopw [13] (fun i wr => ∃ k : Nat, k ≤ l.length ∧ i = .int .i64 k ∧ w.grownBy wr none ∧ Hid (l.take k = m.take k)) (fun i _ => l.length - (intOf i).toNat)
    case atStart => exact ⟨0, Nat.zero_le _, rfl, World.grownBy.refl _ _, rfl⟩
    case round =>
      obtain ⟨k, hk, rfl, hg, ht⟩ := hrel
      by_cases hlt : k < l.length
      · have hlt2 : k < m.length := by omega
        obtain ⟨g, o, cx, rfl, hb0, hb1, rfl, hc⟩ := (hl.pure hg).at_ (by decide) hlt
        have c0 : wr.cell? ⟨g, o + k, none⟩ = some (.int .i64 l[k]) := by have := hc 0 _ rfl; rwa [show Enc.sz Int = 1 from rfl, Nat.mul_one] at this
        obtain ⟨g2, o2, cx, rfl, hb2, hb3, rfl, hc2⟩ := (hr.pure hg).at_ (by decide) hlt2
        have c1 : wr.cell? ⟨g2, o2 + k, none⟩ = some (.int .i64 m[k]) := by have := hc2 0 _ rfl; rwa [show Enc.sz Int = 1 from rfl, Nat.mul_one] at this
        clear hc hc2
        have hi0 : (0 : Int) ≤ (k : Int) ∧ (k : Int) < l.length ∧ (k : Int) < m.length := by omega
        by_cases hz : l[k] = m[k]
        · have HS : Hid (l.take (k + 1) = m.take (k + 1)) := by simp only [Hid]; rw [take_snoc hlt, take_snoc hlt2, ht.out, hz]
          have hb : (l[k] != m[k]) = false := by simp [hz]
          clear hz
          go_wp2_with fail
          go_quiet (fail)
          go_wp2
          go_roundw
          case rel => exact ⟨k + 1, by omega, by go_num, gr_drewN hg _, HS⟩
          case measure => simp [intOf]; omega
        · have HS := hide (eqB_ne hlt hlt2 hz)
          have hb : (l[k] != m[k]) = true := by simp [hz]
          clear hz
          go_wp2_with fail
          go_quiet (fail)
          go_wp2
          go_ret
          exact ⟨ret_bool HS.out.symm, gr_drewN hg _⟩
      · have HS : Hid (eqB l m = true) := eqB_all HL.out (by have := ht.out; rwa [show k = l.length by omega] at this)
        go_wp2
        go_ret
        exact ⟨ret_bool HS.out.symm, hg⟩
  · have hb : ((l.length : Int) != m.length) = true := by simp; omega
    have HS := hide (eqB_len h)
    clear h
    go_enter Tryd.func16, Tryd.ntmps16
    go_wp2
    go_ret
    exact ⟨ret_bool HS.out.symm, World.grownBy.refl _ _⟩

end Go.Proofs.YtanioobepfllgaaDoor

/- Contracts of functions that this seat's laws reach, each: what one call returns and what it leaves in memory; no condition beyond each theorem's own hypotheses. -/
import Derived.Test.YtanioobepfllgaaDoorZqEqStr
import Derived.Test.YtanioobepfllgaaDoorZqSlices
import Derived.Test.YtanioobepfllgaaDoorShelf
set_option linter.unusedVariables false
set_option linter.unusedSimpArgs false
namespace Go.Proofs.YtanioobepfllgaaDoor
open Go Go.RowKit Go.Bl

theorem cmpG_end {α : Type} {c : α → α → Int} (x y : List α) : cmpG c (x.drop x.length) (y.drop x.length) = if x.length < y.length then -1 else 0 := by
  rw [List.drop_length]
  by_cases h : x.length < y.length
  · rw [List.drop_eq_getElem_cons h, if_pos h]; rfl
  · rw [List.drop_of_length_le (by omega), if_neg h]; rfl

theorem cmpG_more {α : Type} {c : α → α → Int} {x y : List α} {k : Nat} (h : k < x.length) (h2 : y.length ≤ k) : cmpG c (x.drop k) (y.drop k) = 1 := by
  rw [List.drop_eq_getElem_cons h, List.drop_of_length_le h2]; rfl

theorem cmpG_at {α : Type} {c : α → α → Int} {x y : List α} {k : Nat} (h : k < x.length) (h2 : k < y.length) : cmpG c (x.drop k) (y.drop k) = if c x[k] y[k] = 0 then cmpG c (x.drop (k + 1)) (y.drop (k + 1)) else c x[k] y[k] := by
  rw [List.drop_eq_getElem_cons h, List.drop_eq_getElem_cons h2]; rfl

set_option maxHeartbeats 2000000 in
set_option maxRecDepth 100000 in
theorem compareInts_any (A : Option Addr) (c : Nat) (l : List Int) (B : Option Addr) (d : Nat) (m : List Int) (w : World) (hl : Sl w 0 A l) (hm : Sl w 0 B m) :
    Calls Tryd.prog 38 #[.slice A l.length c, .slice B m.length d] w fun e w' => e = .returned (.int .i64 (cmpL l m)) ∧ w' = w := by
  have hl1 := hl.1
  have hm1 := hm.1
  unfold maxLen at hl1 hm1
  obtain ⟨V, hV⟩ : ∃ V, cmpL l m = V := ⟨_, rfl⟩
  rw [hV]
  replace hV := hide hV
  go_enter Tryd.func38, Tryd.ntmps38
  go_wp2_with fail
  go_loopw [11] (fun i wr => ∃ k : Nat, k ≤ l.length ∧ i = .int .i64 k ∧ Hid (cmpL (l.drop k) (m.drop k) = V) ∧ wr = w) (fun i _ => l.length - (intOf i).toNat)
  case atStart => exact ⟨0, Nat.zero_le _, rfl, hV.out, rfl⟩
  case round =>
    obtain ⟨k, hk, rfl, hr, rfl⟩ := hrel
    by_cases hlt : k < l.length
    · obtain ⟨g, o, cx, rfl, hb0, hb1, rfl, hc⟩ := hl.at_ (by decide) hlt
      have c0 : wr.cell? ⟨g, o + k, none⟩ = some (.int .i64 l[k]) := by have := hc 0 _ rfl; rwa [show Enc.sz Int = 1 from rfl, Nat.mul_one, Nat.add_zero] at this
      clear hc
      by_cases hlt2 : k < m.length
      · obtain ⟨g', o', cx, rfl, hb0', hb1', rfl, hc⟩ := hm.at_ (by decide) hlt2
        have c1 : wr.cell? ⟨g', o' + k, none⟩ = some (.int .i64 m[k]) := by have := hc 0 _ rfl; rwa [show Enc.sz Int = 1 from rfl, Nat.mul_one, Nat.add_zero] at this
        clear hc
        have hs : cmpG Lib.compareInt (l.drop k) (m.drop k) = V := hr.out
        rw [cmpG_at hlt hlt2] at hs
        replace hs := hide hs
        have hC := hide (Tryd.cmp_Compare_int l[k] m[k] wr)
        generalize Lib.compareInt l[k] m[k] = q at *
        generalize l[k] = a at *
        generalize m[k] = b at *
        have hi0 : (0 : Int) ≤ (k : Int) ∧ (k : Int) < l.length ∧ (k : Int) < m.length := by omega
        go_wp2_with fail
        refine hC.out.mono ?_
        rintro e wq ⟨rfl, hwq⟩
        rw [hwq]
        clear hwq wq
        by_cases hq : q = 0
        · have hs2 := hs.out
          rw [if_pos hq] at hs2
          replace hs2 := hide hs2
          subst hq
          go_wp2_with fail
          (go_roundw; (case rel => exact ⟨k + 1, by omega, by go_num, hs2, by first | exact rfl | trivial⟩); (case measure => simp [intOf]; omega))
        · have hs2 := hs.out
          rw [if_neg hq] at hs2
          have hq2 : (q != 0) = true := by simp [hq]
          clear hs hq
          replace hs2 := hide hs2
          go_wp2_with fail
          go_ret
          exact ⟨ret_int hs2.out, rfl⟩
      · have hs : cmpG Lib.compareInt (l.drop k) (m.drop k) = V := hr.out
        rw [cmpG_more hlt (by omega)] at hs
        replace hs := hide hs
        have hge : ¬ ((k : Int) < (m.length : Int)) := by omega
        go_wp2_with fail
        go_ret
        exact ⟨ret_int hs.out, rfl⟩
    · obtain rfl : k = l.length := by omega
      have hs : cmpG Lib.compareInt (l.drop l.length) (m.drop l.length) = V := hr.out
      rw [cmpG_end] at hs
      by_cases hlt2 : l.length < m.length
      · rw [if_pos hlt2] at hs
        replace hs := hide hs
        go_wp2_with fail
        go_ret
        exact ⟨ret_int hs.out, rfl⟩
      · rw [if_neg hlt2] at hs
        replace hs := hide hs
        go_wp2_with fail
        go_ret
        exact ⟨ret_int hs.out, rfl⟩

set_option maxHeartbeats 1000000 in
theorem betterC_any (A : Option Addr) (c : Nat) (l : List Int) (B : Option Addr) (d : Nat) (m : List Int) (w : World) (hl : Sl w 0 A l) (hm : Sl w 0 B m) :
    Calls Tryd.prog 67 #[.slice A l.length c, .slice B m.length d] w fun e w' => e = .returned (.int .i64 (cmpL l m)) ∧ w' = w := by
  have hC := hide (compareInts_any A c l B d m w hl hm)
  go_enter Tryd.func67, Tryd.ntmps67
  go_wp2_with fail
  refine hC.out.mono ?_
  rintro e wq ⟨rfl, hwq⟩
  rw [hwq]
  clear hwq wq
  go_wp2_with fail
  go_ret
  exact ⟨rfl, rfl⟩

set_option maxHeartbeats 2000000 in
set_option maxRecDepth 100000 in
theorem compareRows_any (A : Option Addr) (c : Nat) (l : List (List Int)) (B : Option Addr) (d : Nat) (m : List (List Int)) (w : World) (hl : Sl w 0 A l) (hm : Sl w 0 B m) :
    Calls Tryd.prog 37 #[.slice A l.length c, .slice B m.length d, .func (.func 67) #[] #[]] w fun e w' => e = .returned (.int .i64 (cmpLL l m)) ∧ w' = w := by
  have hl1 := hl.1
  have hm1 := hm.1
  unfold maxLen at hl1 hm1
  obtain ⟨V, hV⟩ : ∃ V, cmpLL l m = V := ⟨_, rfl⟩
  rw [hV]
  replace hV := hide hV
  go_enter Tryd.func37, Tryd.ntmps37
  go_wp2_with fail
  go_loopw [13] (fun i wr => ∃ k : Nat, k ≤ l.length ∧ i = .int .i64 k ∧ Hid (cmpLL (l.drop k) (m.drop k) = V) ∧ wr = w) (fun i _ => l.length - (intOf i).toNat)
  case atStart => exact ⟨0, Nat.zero_le _, rfl, hV.out, rfl⟩
  case round =>
    obtain ⟨k, hk, rfl, hr, rfl⟩ := hrel
    by_cases hlt : k < l.length
    · obtain ⟨g, o, Bk, dk, rfl, hb1, c0, hsl⟩ := sl_inner hl hlt
      by_cases hlt2 : k < m.length
      · obtain ⟨g', o', Bm, dm, rfl, hb1', c1, hsm⟩ := sl_inner hm hlt2
        have hs : cmpG cmpL (l.drop k) (m.drop k) = V := hr.out
        rw [cmpG_at hlt hlt2] at hs
        replace hs := hide hs
        have hC := hide (betterC_any Bk dk l[k] Bm dm m[k] wr hsl hsm)
        generalize cmpL l[k] m[k] = q at *
        generalize l[k] = a at *
        generalize m[k] = b at *
        have hi0 : (0 : Int) ≤ (k : Int) ∧ (k : Int) < l.length ∧ (k : Int) < m.length := by omega
        go_wp2_with fail
        go_at_call 67
        refine hC.out.mono ?_
        rintro e wq ⟨rfl, hwq⟩
        rw [hwq]
        clear hwq wq
        by_cases hq : q = 0
        · have hs2 := hs.out
          rw [if_pos hq] at hs2
          replace hs2 := hide hs2
          subst hq
          go_wp2_with fail
          (go_roundw; (case rel => exact ⟨k + 1, by omega, by go_num, hs2, by first | exact rfl | trivial⟩); (case measure => simp [intOf]; omega))
        · have hs2 := hs.out
          rw [if_neg hq] at hs2
          have hq2 : (q != 0) = true := by simp [hq]
          clear hs hq
          replace hs2 := hide hs2
          go_wp2_with fail
          go_ret
          exact ⟨ret_int hs2.out, rfl⟩
      · have hs : cmpG cmpL (l.drop k) (m.drop k) = V := hr.out
        rw [cmpG_more hlt (by omega)] at hs
        replace hs := hide hs
        have hge : ¬ ((k : Int) < (m.length : Int)) := by omega
        go_wp2_with fail
        go_ret
        exact ⟨ret_int hs.out, rfl⟩
    · obtain rfl : k = l.length := by omega
      have hs : cmpG cmpL (l.drop l.length) (m.drop l.length) = V := hr.out
      rw [cmpG_end] at hs
      by_cases hlt2 : l.length < m.length
      · rw [if_pos hlt2] at hs
        replace hs := hide hs
        go_wp2_with fail
        go_ret
        exact ⟨ret_int hs.out, rfl⟩
      · rw [if_neg hlt2] at hs
        replace hs := hide hs
        go_wp2_with fail
        go_ret
        exact ⟨ret_int hs.out, rfl⟩

end Go.Proofs.YtanioobepfllgaaDoor

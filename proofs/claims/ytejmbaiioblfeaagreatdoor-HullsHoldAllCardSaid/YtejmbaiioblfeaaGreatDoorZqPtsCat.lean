/- Contracts of functions that this seat's laws reach, each: what one call returns and what it leaves in memory; no condition beyond each theorem's own hypotheses. -/
import Derived.Test.YtejmbaiioblfeaaGreatDoorZqNestCat
import Derived.Test.YtejmbaiioblfeaaGreatDoorZqFillOut
import Derived.Test.YtejmbaiioblfeaaGreatDoorZqJm
set_option linter.unusedVariables false
set_option linter.unusedSimpArgs false
namespace Go.Proofs.YtejmbaiioblfeaaGreatDoor
open Go.RowKit Go.Bl

end Go.Proofs.YtejmbaiioblfeaaGreatDoor

namespace Go.Proofs.YtejmbaiioblfeaaGreatDoor
open Go.RowKit Go.Bl

set_option maxHeartbeats 800000 in
set_option maxRecDepth 100000 in
theorem growPts_any (n : Nat) (w : World) (hn : n ≤ 1000000) :
    Calls Tryz.prog 88 #[.slice none 0 0, .int .i64 n] w fun e w' => ∃ A G, e = .returned (.slice A 0 G) ∧ Own w' w.heap.size 29 A G ([] : List Pt) ∧ w.grownBy w' none := by
  by_cases h0 : n = 0
  · subst h0
    go_enter Tryz.func88, Tryz.ntmps88
    go_wp2_with fail
    go_ret
    exact ⟨none, 0, rfl, Own.nil _ _ _, World.grownBy.refl _ _⟩
  · obtain ⟨i0, hi, hz, h1, h2⟩ := info_parts info_pt
    obtain ⟨G, w2, hrun, hown, hg2, hG, hG2⟩ := run_growNil (P := Tryz.prog) (α := Pt) w 35 3 29 i0 _ .i64 Tryz.underlying35 Tryz.underlying3 hi hz h1 rfl n (by omega) (by rw [h2]; omega) (by omega)
    have hp : 0 < n := by omega
    clear h0
    go_enter Tryz.func88, Tryz.ntmps88
    go_wp2_with (at_builtin; refine Lib.wpList_append_run _ rfl _ _ _ _ rfl _ _ rfl rfl _ _ (hrun _) ?_)
    go_ret
    exact ⟨_, G, rfl, hown, hg2⟩

set_option maxHeartbeats 2000000 in
set_option maxRecDepth 100000 in
theorem concatPts_any (A : Option Addr) (c : Nat) (ls : List (List Pt)) (w : World) (hA : Sl w 0 A ls) (hsum : (flatK ls ls.length).length ≤ 1000000) :
    Calls Tryz.prog 59 #[.slice A ls.length c] w fun e w' => ∃ A' c', e = .returned (.slice A' (flatK ls ls.length).length c') ∧ Own w' w.heap.size 29 A' c' (flatK ls ls.length) ∧ w.grownBy w' none := by
  have hm := hA.1
  unfold maxLen at hm
  obtain ⟨i0, hi, hz, h1, h2⟩ := info_parts info_pt
  have hle := hide (flatK_le ls)
  go_enter Tryz.func59, Tryz.ntmps59
  go_wp2_with fail
  go_loopw [3, 11] (fun s i wr => ∃ k : Nat, k ≤ ls.length ∧ i = .int .i64 k ∧ s = .int .i64 ((flatK ls k).length : Nat) ∧ w.grownBy wr none) (fun _ i _ => ls.length - (intOf i).toNat)
  case atStart => exact ⟨0, Nat.zero_le _, rfl, rfl, World.grownBy.refl _ _⟩
  case round =>
    obtain ⟨k, hk, rfl, rfl, hg⟩ := hrel
    have hfk := hle.out k
    by_cases hlt : k < ls.length
    · obtain ⟨g, o, B, d, rfl, hb1, c0, -, -⟩ := sl_inner' (hA.pure hg) hlt
      have hfs := congrArg List.length (flatK_snoc hlt)
      rw [List.length_append] at hfs
      have hfk1 := hle.out (k + 1)
      rw [hfs] at hfk1
      replace hfs := hide hfs
      go_wp2_with fail
      (go_roundw; (case rel => exact ⟨k + 1, by omega, by go_num, by rw [hfs.out]; go_num, (by repeat (first | exact World.grownBy.refl _ _ | assumption | refine gr_alloc ?_ _ | (apply gr_tail; assumption) | refine gr_drewN ?_ _ | refine gr_drew ?_))⟩); (case measure => simp [intOf]; omega))
    · have he : Hid (flatK ls k = flatK ls ls.length) := by rw [Hid, show k = ls.length by omega]
      rw [he.out]
      go_wp2_with fail
      refine (growPts_any (flatK ls ls.length).length _ hsum).mono ?_
      rintro e w2 ⟨A0, G, rfl, hown, hg2⟩
      have hgw : w.grownBy w2 none := (by repeat (first | exact World.grownBy.refl _ _ | assumption | refine gr_alloc ?_ _ | (apply gr_tail; assumption) | refine gr_drewN ?_ _ | refine gr_drew ?_))
      have hown := hown.lower hg.size
      clear hg2 hg he hfk
      rename World => wq
      go_wp2_with fail
      go_loopw [6, 27] (fun s i wr => ∃ (k : Nat) (A' : Option Addr) (c' : Nat), k ≤ ls.length ∧ i = .int .i64 k ∧ s = .slice A' (flatK ls k).length c' ∧ Own wr w.heap.size 29 A' c' (flatK ls k) ∧ w.grownBy wr none) (fun _ i _ => ls.length - (intOf i).toNat)
      case atStart => exact ⟨0, _, _, Nat.zero_le _, rfl, rfl, hown, hgw⟩
      case round =>
        obtain ⟨k, A', c', hk, rfl, rfl, hown, hg⟩ := hrel
        by_cases hlt : k < ls.length
        · obtain ⟨g, o, B, d, rfl, hb1, c0, -, hsl⟩ := sl_inner' (hA.pure hg) hlt
          have hfs := congrArg List.length (flatK_snoc hlt)
          rw [List.length_append] at hfs
          have hfk1 := hle.out (k + 1)
          rw [hfs] at hfk1
          replace hfs := hide hfs
          have hsn := hide (flatK_snoc hlt)
          have hl3 : Hid ((flatK ls k).length + ls[k].length = (flatK ls (k + 1)).length) := by rw [Hid, hsn.out, List.length_append]
          by_cases hz0 : ls[k].length = 0
          · have hnil : Hid (flatK ls (k + 1) = flatK ls k) := by rw [Hid, hsn.out, List.eq_nil_of_length_eq_zero hz0, List.append_nil]
            have hcap := hown.cap
            rw [hz0] at c0
            have hrun := run_append_zero (P := Tryz.prog) wr 35 35 29 i0 Tryz.underlying35 hi A' B (flatK ls k).length c' d hcap
            go_wp2_with (at_builtin; refine Lib.wpList_append_run _ rfl _ _ _ _ rfl _ _ rfl rfl _ _ hrun ?_)
            (go_roundw; (case rel => exact ⟨k + 1, A', c', by omega, by go_num, by rw [hnil.out], by rw [hnil.out]; exact hown, hg⟩); (case measure => simp [intOf]; omega))
          · obtain ⟨g2, o2, _, rfl, -⟩ := hsl.at_ (by decide) (show 0 < ls[k].length by omega)
            go_wp2_with (at_builtin; refine wpList_push (α := Pt) _ rfl (.tmp 31) (.tmp 32) _ rfl w.heap.size 29 i0 _ 16 Tryz.underlying35 hi hz h1 h2 rfl _ _ _ (flatK ls k) rfl rfl (by exact hown) 0 _ _ _ ls[k] rfl rfl (by exact hsl) ?c2 ?c3 ?c4 ?_)
            case c2 => omega
            case c3 => unfold maxLen; omega
            case c4 => exact hg.size
            intro A2 c2 w3 hown3 hup
            rw [← hsn.out] at hown3
            go_wp2
            (go_roundw; (case rel => exact ⟨k + 1, A2, c2, by omega, by go_num, by rw [← hl3.out], hown3, hup.gr (Nat.le_refl _) hg⟩); (case measure => simp [intOf]; omega))
        · have he : Hid (flatK ls k = flatK ls ls.length) := by rw [Hid, show k = ls.length by omega]
          rw [he.out] at hown
          go_wp2
          go_ret
          exact ⟨A', c', by rw [he.out]; exact rfl, hown, hg⟩

end Go.Proofs.YtejmbaiioblfeaaGreatDoor

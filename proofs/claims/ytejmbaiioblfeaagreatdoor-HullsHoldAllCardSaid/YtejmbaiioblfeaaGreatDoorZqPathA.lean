/- Contracts of functions that this seat's laws reach, each: what one call returns and what it leaves in memory; no condition beyond each theorem's own hypotheses. -/
import Derived.Test.YtejmbaiioblfeaaGreatDoorZqStream
import Derived.Test.YtejmbaiioblfeaaGreatDoorZqTree
import Derived.Test.YtejmbaiioblfeaaGreatDoorZqKit3
set_option linter.unusedVariables false
set_option linter.unusedSimpArgs false
namespace Go.Proofs.YtejmbaiioblfeaaGreatDoor
open Go.RowKit Go.Bl

theorem info_int : (Tryz.prog.info? 3).map (fun i => (i.zero, i.size, i.bytes)) = some (some (.int .i64 0), 1, 8) := by kernel_rfl

set_option maxHeartbeats 400000 in
theorem outside_any (n a b : Int) (w : World) :
    Calls Tryz.prog 81 #[.int .i64 n, .int .i64 a, .int .i64 b] w fun e w' => e = .returned (.bool (outB n a b)) ∧ w = w' := by
  by_cases h1 : n < a
  · go_enter Tryz.func81, Tryz.ntmps81
    go_wp2
    go_ret
    exact ⟨by simp [outB, h1], rfl⟩
  · by_cases h2 : b < n
    · go_enter Tryz.func81, Tryz.ntmps81
      go_wp2
      go_ret
      exact ⟨by simp [outB, h1, h2], rfl⟩
    · go_enter Tryz.func81, Tryz.ntmps81
      go_wp2
      go_ret
      exact ⟨by simp [outB, h1, h2], rfl⟩

set_option maxHeartbeats 400000 in
theorem in_any (n a b : Int) (w : World) :
    Calls Tryz.prog 43 #[.int .i64 n, .int .i64 a, .int .i64 b] w fun e w' => e = .returned (.bool (inB n a b)) ∧ w = w' := by
  by_cases h1 : a ≤ n
  · by_cases h2 : n ≤ b
    · go_enter Tryz.func43, Tryz.ntmps43
      go_wp2
      go_ret
      exact ⟨ret_bool (inB_of h1 h2).symm, rfl⟩
    · have hb := hide (inB_hi (a := a) h2)
      go_enter Tryz.func43, Tryz.ntmps43
      go_wp2
      go_ret
      exact ⟨ret_bool hb.out.symm, rfl⟩
  · have hb := hide (inB_lo (b := b) h1)
    go_enter Tryz.func43, Tryz.ntmps43
    go_wp2
    go_ret
    exact ⟨ret_bool hb.out.symm, rfl⟩

set_option maxHeartbeats 1000000 in
theorem checkBeads_any (A : Option Addr) (c : Nat) (l : List Bead) (w : World) (hl : Sl w 0 A l) :
    Calls Tryz.prog 77 #[.slice A l.length c] w fun e w' => e = .returned (.int .i64 (checkBeads l)) ∧ w.grownBy w' none := by
  have hm := hl.1
  unfold maxLen at hm
  by_cases h0 : 5000 < l.length
  · go_enter Tryz.func77, Tryz.ntmps77
    go_wp2
    go_ret
    exact ⟨by simp [checkBeads, h0], World.grownBy.refl _ _⟩
  · go_enter Tryz.func77, Tryz.ntmps77
    go_wp2
    go_loopw [10] (fun i wr => ∃ k : Nat, k ≤ l.length ∧ i = .int .i64 k ∧ w.grownBy wr none ∧ Hid ((l.take k).all okBead = true)) (fun i _ => l.length - (intOf i).toNat)
    case atStart => exact ⟨0, Nat.zero_le _, rfl, World.grownBy.refl _ _, by simp [Hid]⟩
    case round =>
      obtain ⟨k, hk, rfl, hg, hall⟩ := hrel
      by_cases hlt : k < l.length
      · obtain ⟨g, o, cx, rfl, hb0, hb1, rfl, hc⟩ := (hl.pure hg).at_ (by decide) hlt
        have c0 : wr.cell? ⟨g, o + k * 3, none⟩ = some (.int .i64 l[k].long) := hc 0 _ rfl
        have c1 : wr.cell? ⟨g, o + k * 3 + 1, none⟩ = some (.int .i64 l[k].wide) := hc 1 _ rfl
        have c2 : wr.cell? ⟨g, o + k * 3 + 2, none⟩ = some (.int .i64 l[k].high) := hc 2 _ rfl
        clear hc
        have HS : Hid ((l.take (k+1)).all okBead = ((l.take k).all okBead && okBead l[k])) := by
          simp only [Hid]; rw [take_snoc hlt, List.all_append]; simp
        have HB : Hid (okBead l[k] = false → Ending.returned (.int .i64 1) = .returned (.int .i64 (checkBeads l))) := fun hf => by
          have : l.all okBead = false := by
            rw [List.all_eq_false]; exact ⟨l[k], List.getElem_mem _, by simp [hf]⟩
          simp [checkBeads, h0, this]
        rcases h1 : outB l[k].long 0 10000000 with _ | _
        · rcases h2 : outB l[k].wide 1 5000 with _ | _
          · rcases h3 : outB l[k].high 1 5000 with _ | _
            · have hok : Hid (okBead l[k] = true) := by simp [Hid, okBead, h1, h2, h3]
              go_wp2_with (go_at_call 81; refine (outside_any _ _ _ _).mono ?_; rintro e w' ⟨rfl, rfl⟩)
              go_roundw
              case rel => exact ⟨k + 1, by omega, by go_num, gr_alloc hg _, by simp only [Hid] at *; rw [HS, hall, hok]; rfl⟩
              case measure => simp [intOf]; omega
            · have hok : Hid (okBead l[k] = false) := by simp [Hid, okBead, h1, h2, h3]
              go_wp2_with (go_at_call 81; refine (outside_any _ _ _ _).mono ?_; rintro e w' ⟨rfl, rfl⟩)
              go_ret
              exact ⟨HB.out hok.out, gr_alloc hg _⟩
          · have hok : Hid (okBead l[k] = false) := by simp [Hid, okBead, h1, h2]
            go_wp2_with (go_at_call 81; refine (outside_any _ _ _ _).mono ?_; rintro e w' ⟨rfl, rfl⟩)
            go_ret
            exact ⟨HB.out hok.out, gr_alloc hg _⟩
        · have hok : Hid (okBead l[k] = false) := by simp [Hid, okBead, h1]
          go_wp2_with (go_at_call 81; refine (outside_any _ _ _ _).mono ?_; rintro e w' ⟨rfl, rfl⟩)
          go_ret
          exact ⟨HB.out hok.out, gr_alloc hg _⟩
      · have HB : Hid (Ending.returned (.int .i64 0) = .returned (.int .i64 (checkBeads l))) := by
          have : l.all okBead = true := by have := hall.out; rwa [List.take_of_length_le (by omega)] at this
          simp [Hid, checkBeads, h0, this]
        go_wp2
        go_ret
        exact ⟨HB.out, hg⟩

set_option maxHeartbeats 1000000 in
theorem volume_any (A : Option Addr) (c : Nat) (l : List Bead) (w : World) (hl : Sl w 0 A l) :
    Calls Tryz.prog 78 #[.slice A l.length c] w fun e w' => e = .returned (.int .i64 (volW l)) ∧ w.grownBy w' none := by
  have hm := hl.1
  unfold maxLen at hm
  go_enter Tryz.func78, Tryz.ntmps78
  go_wp2
  go_loopw [3, 8] (fun n i wr => ∃ k : Nat, k ≤ l.length ∧ i = .int .i64 k ∧ n = .int .i64 (volW (l.take k)) ∧ w.grownBy wr none) (fun _ i _ => l.length - (intOf i).toNat)
  case atStart => exact ⟨0, Nat.zero_le _, rfl, rfl, World.grownBy.refl _ _⟩
  case round =>
    obtain ⟨k, hk, rfl, rfl, hg⟩ := hrel
    by_cases hlt : k < l.length
    · obtain ⟨g, o, cx, rfl, hb0, hb1, rfl, hc⟩ := (hl.pure hg).at_ (by decide) hlt
      have c0 : wr.cell? ⟨g, o + k * 3, none⟩ = some (.int .i64 l[k].long) := hc 0 _ rfl
      have c1 : wr.cell? ⟨g, o + k * 3 + 1, none⟩ = some (.int .i64 l[k].wide) := hc 1 _ rfl
      have c2 : wr.cell? ⟨g, o + k * 3 + 2, none⟩ = some (.int .i64 l[k].high) := hc 2 _ rfl
      clear hc
      have HS : Hid (volW (l.take (k+1)) = wrap64 (volW (l.take k) + wrap64 (wrap64 (l[k].long * l[k].wide) * l[k].high))) := by simp only [Hid]; rw [take_snoc hlt, volW_snoc]; rfl
      go_wp2
      go_roundw
      case rel => exact ⟨k + 1, by omega, by go_num, by rw [HS.out], gr_alloc hg _⟩
      case measure => simp [intOf]; omega
    · have HB : Hid (volW (l.take k) = volW l) := by simp only [Hid]; rw [List.take_of_length_le (by omega)]
      go_wp2
      go_ret
      exact ⟨ret_int HB.out, hg⟩

end Go.Proofs.YtejmbaiioblfeaaGreatDoor

namespace Go.Proofs.YtejmbaiioblfeaaGreatDoor
open Go.RowKit Go.Bl

theorem info_pt : (Tryz.prog.info? 29).map (fun i => (i.zero, i.size, i.bytes)) = some (some (.agg #[.int .i64 0, .int .i64 0]), 2, 16) := by kernel_rfl

def SPt (b : Nat) (N : Int) (w : World) (e : Ending) (w' : World) : Prop := ∃ p : Pt, e = .returned (.agg #[.int .i64 p.x, .int .i64 p.y]) ∧ SOut b N w w'

end Go.Proofs.YtejmbaiioblfeaaGreatDoor

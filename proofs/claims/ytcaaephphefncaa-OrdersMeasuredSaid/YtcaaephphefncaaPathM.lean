/- Contracts of functions that this seat's laws reach, each: what one call returns and what it leaves in memory; no condition beyond each theorem's own hypotheses. -/
import Derived.Test.YtcaaephphefncaaPathL
set_option linter.unusedVariables false
set_option linter.unusedSimpArgs false
namespace Go.Proofs.Ytcaaephphefncaa
open Go.RowKit Go.Bl

def SVss (b : Nat) (N : Int) (n : Nat) (w : World) (e : Ending) (w' : World) : Prop := ∃ (l : List Vis) (A : Option Addr) (c : Nat), e = .returned (.slice A l.length c) ∧ Own w' w.heap.size 34 A c l ∧ l.length ≤ n + 1 ∧ SOut b N w w'

set_option maxHeartbeats 2000000 in
set_option maxRecDepth 100000 in
theorem anOrder_any (b : Nat) (N : Int) (A : Option Addr) (c : Nat) (l : List PathV) (w : World) (hs : Strm w b N) (hN : N ≤ 100000000) (hl : Sl w (b + 1) A l) (hll : l.length ≤ 1000) :
    Calls Try.prog 7 #[.pointer (some ⟨b, 0, none⟩), .slice A l.length c] w (SVss b (N + 20000) l.length w) := by
  have hbw := hs.lt
  obtain ⟨i0, hi, hz, h1, h2⟩ := info_parts info_vis
  go_enter Try.func7, Try.ntmps7
  go_wp2_with fail
  refine (order_any b N l.length _ hs (by omega) (by omega)).mono ?_
  rintro e w1 ⟨q, AQ, cq, rfl, hq, hqn, ho1⟩
  have hqn := hide hqn
  have hl1 := hl.s ho1 (by omega)
  have hqs := hq.sl
  clear hq
  go_wp2_with fail
  go_loopw [5, 13] (fun o i wr => ∃ (k : Nat) (out : List Vis) (A' : Option Addr) (c' : Nat), k ≤ q.length ∧ i = .int .i64 k ∧ o = .slice A' out.length c' ∧ Hid (out.length = k) ∧ Own wr w1.heap.size 34 A' c' out ∧ SOut b (N + l.length + 10 * k) w1 wr) (fun _ i _ => q.length - (intOf i).toNat)
  case atStart => exact ⟨0, [], none, 0, Nat.zero_le _, rfl, rfl, rfl, Own.nil _ _ _, (SOut.refl ho1.2).mono (by simp)⟩
  case round =>
    obtain ⟨k, out, A', c', hk, rfl, rfl, hok, hown, hS⟩ := hrel
    have hz1 := ho1.size
    have hkl : k ≤ 1000 := by have := hqn.out; omega
    by_cases hlt : k < q.length
    · obtain ⟨g, o, cx, rfl, hb0, hb1, rfl, hc⟩ := (hqs.s hS hbw).at_ (by decide) hlt
      have c0 : wr.cell? ⟨g, o + k, none⟩ = some (.int .i64 q[k]) := by have := hc 0 _ rfl; rwa [show Enc.sz Int = 1 from rfl, Nat.mul_one] at this
      clear hc
      go_wp2_with fail
      refine (aVisit_any b _ _ _ l q[k] _ hS.2 (by omega) (hl1.s hS (by omega))).mono ?_
      rintro e w2 ⟨v, rfl, ho2⟩
      have hown2 := hown.s ho2 ho1.lt
      have hS2 := hS.trans ho2
      clear hown hS ho2
      go_wp2_with (at_builtin; refine wpList_push (α := Vis) _ rfl (.tmp 17) (.tmp 22) _ rfl w1.heap.size 34 i0 _ 24 Try.underlying31 hi hz h1 h2 rfl _ _ _ out rfl ?c1 (by exact (hown2.pure (by repeat (first | exact World.grownBy.refl _ _ | assumption | refine gr_alloc ?_ _ | refine gr_drewN ?_ _ | refine gr_drew ?_)))) 0 ⟨_, 0, none⟩ 1 1 [v] rfl rfl (by exact sl_oneAt _ 0 [.int .i64 v.path, .int .i64 v.start, .bool v.back] _ _ _ (by first | rfl | simp) (Nat.zero_le _) rfl) ?c2 ?c3 ?c4 ?_)
      case c1 => rfl
      case c2 => rw [hok.out]; simp; omega
      case c3 => rw [hok.out]; simp [maxLen]; omega
      case c4 => simp; have := hS2.size; omega
      intro A2 c2 w3 hown3 hup3
      obtain ⟨r, hr1, hr2⟩ := hup3
      go_wp2
      (go_roundw; (case rel => exact ⟨k + 1, _, A2, c2, by omega, by go_num, by simp, by simp [Hid, hok.out], hown3, ((hS2.al _).new ho1.lt hr1 hr2).mono (by simp; omega)⟩); (case measure => simp [intOf]; omega))
    · have hkq : k = q.length := by omega
      go_wp2_with fail
      refine (flip_any b _ _ _ hS.2 (by omega) (by omega)).mono ?_
      rintro e w2 ⟨f, rfl, ho2⟩
      have hown2 := hown.s ho2 ho1.lt
      have hS2 := hS.trans ho2
      have hln : out.length ≤ l.length := by rw [hok.out, hkq, hqn.out]; omega
      replace hkq := hide hkq
      cases f
      · go_wp2_with fail
        go_ret
        exact ⟨out, A', c', rfl, hown2.lower hz1, by omega, (ho1.trans hS2).mono (by omega)⟩
      · go_wp2_with (at_builtin; refine wpList_push (α := Vis) _ rfl (.tmp 27) (.tmp 29) _ rfl w1.heap.size 34 i0 _ 24 Try.underlying31 hi hz h1 h2 rfl _ _ _ out rfl ?c1 (by exact (hown2.pure (by repeat (first | exact World.grownBy.refl _ _ | assumption | refine gr_alloc ?_ _ | refine gr_drewN ?_ _ | refine gr_drew ?_)))) 0 ⟨_, 0, none⟩ 1 1 [(⟨0, 0, false⟩ : Vis)] rfl rfl (by exact sl_oneAt _ 0 [.int .i64 0, .int .i64 0, .bool false] _ _ _ (by first | rfl | simp) (Nat.zero_le _) rfl) ?c2 ?c3 ?c4 ?_)
        case c1 => rfl
        case c2 => simp; omega
        case c3 => simp [maxLen]; omega
        case c4 => simp; have := hS2.size; omega
        intro A2 c2 w3 hown3 hup3
        obtain ⟨r, hr1, hr2⟩ := hup3
        go_wp2
        go_ret
        exact ⟨_, A2, c2, by simp, hown3.lower hz1, by simp; omega, ((ho1.trans hS2).al _ |>.new hbw hr1 (fun g e => by have := hr2 g e; omega)).mono (by omega)⟩

end Go.Proofs.Ytcaaephphefncaa

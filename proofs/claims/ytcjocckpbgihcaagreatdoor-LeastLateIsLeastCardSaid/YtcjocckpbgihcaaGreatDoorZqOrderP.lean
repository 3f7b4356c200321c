/- Contracts of functions that this seat's laws reach, each: what one call returns and what it leaves in memory; no condition beyond each theorem's own hypotheses. -/
import Derived.Test.YtcjocckpbgihcaaGreatDoorZqPathA
import Derived.Test.YtcjocckpbgihcaaGreatDoorZqFarmData
import Derived.Test.YtcjocckpbgihcaaGreatDoorZqJm
set_option linter.unusedVariables false
set_option linter.unusedSimpArgs false
namespace Go.Proofs.YtcjocckpbgihcaaGreatDoor
open Go Go.RowKit Go.Bl

def idL (n : Nat) : List Int := (List.range n).map fun i : Nat => (i : Int)

theorem idL_succ (k : Nat) : idL (k + 1) = idL k ++ [(k : Int)] := by unfold idL; rw [List.range_succ, List.map_append]; rfl

def SIntP (b : Nat) (N : Int) (n : Nat) (w : World) (e : Ending) (w' : World) : Prop := ∃ (l : List Int) (A : Option Addr) (c : Nat), e = .returned (.slice A l.length c) ∧ Own w' w.heap.size 3 A c l ∧ l.length = n ∧ l.Perm (idL n) ∧ SOut b N w w'

set_option maxHeartbeats 2000000 in
set_option maxRecDepth 100000 in
theorem orderP_any (b : Nat) (N : Int) (n : Nat) (w : World) (hs : Strm w b N) (hN : N ≤ 1000000000) (hn : n ≤ 1000000) :
    Calls Tryz.prog 9 #[.pointer (some ⟨b, 0, none⟩), .int .i64 n] w (SIntP b (N + n) n w) := by
  have hbw := hs.lt
  obtain ⟨i0, hi, hz, h1, h2⟩ := info_parts info_int
  go_enter Tryz.func9, Tryz.ntmps9
  go_wp2_with fail
  go_loopw [5, 10] (fun o i wr => ∃ (k : Nat) (l : List Int) (A' : Option Addr) (c' : Nat), k ≤ n ∧ i = .int .i64 k ∧ o = .slice A' l.length c' ∧ Hid (l.length = k) ∧ Hid (l = idL k) ∧ Own wr w.heap.size 3 A' c' l ∧ w.grownBy wr none) (fun _ i _ => n - (intOf i).toNat)
  case atStart => exact ⟨0, [], none, 0, Nat.zero_le _, rfl, rfl, rfl, rfl, Own.nil _ _ _, World.grownBy.refl _ _⟩
  case round =>
    obtain ⟨k, l, A', c', hk, rfl, rfl, hlk, hid, hown, hg⟩ := hrel
    by_cases hlt : k < n
    · go_wp2_with (at_builtin; refine wpList_push (α := Int) _ rfl (.tmp 13) (.tmp 15) _ rfl w.heap.size 3 i0 _ 8 Tryz.underlying22 hi hz h1 h2 rfl _ _ _ l rfl ?c1 (by exact (hown.pure (by repeat (first | exact World.grownBy.refl _ _ | assumption | refine gr_alloc ?_ _ | refine gr_drewN ?_ _ | refine gr_drew ?_)))) 0 ⟨_, 0, none⟩ 1 1 [(k : Int)] rfl rfl (by exact sl_int1 _ _ _ _ (by first | rfl | simp)) ?c2 ?c3 ?c4 ?_)
      case c1 => rfl
      case c2 => rw [hlk.out]; simp; omega
      case c3 => rw [hlk.out]; simp [maxLen]; omega
      case c4 => simp; have := hg.size; omega
      intro A2 c2 w2 hown2 hup2
      go_wp2
      have hid2 : Hid (l ++ [(k : Int)] = idL (k + 1)) := by rw [Hid, idL_succ, hid.out]
      (go_roundw; (case rel => exact ⟨k + 1, _, A2, c2, by omega, by go_num, by simp, by simp [Hid, hlk.out], hid2, hown2, hup2.gr (Nat.le_refl _) (gr_alloc hg _)⟩); (case measure => simp [intOf]; omega))
    · have hkn : k = n := by omega
      have hln : Hid (l.length = n) := by rw [Hid, hlk.out, hkn]
      have hpl : Hid (l.Perm (idL n)) := by rw [Hid, hid.out, hkn]
      have hs2 := hs.pure hg
      have hgs : SOut b N w wr := ⟨gr_any hg, hs2⟩
      clear hkn hlk hs2 hid
      rename World => wq
      go_wp2_with fail
      by_cases h0 : n = 0
      · subst h0
        refine wp_loop_once ?_
        go_wp2_with fail
        go_ret
        exact ⟨l, A', c', rfl, hown, hln.out, hpl.out, hgs.mono (by simp)⟩
      · obtain ⟨g, rfl, hgl, hgs2⟩ := hown.shape (by rw [hln.out]; omega)
        go_loopw [7] (fun i wr => ∃ (j : Nat) (m : List Int), i = .int .i64 j ∧ j + 1 ≤ n ∧ Hid (m.length = n) ∧ Hid (m.Perm (idL n)) ∧ Own wr w.heap.size 3 (some ⟨g, 0, none⟩) c' m ∧ SOut b (N + (n - 1 - j)) w wr) (fun i _ => (intOf i).toNat)
        case atStart => exact ⟨n - 1, l, by congr 1; omega, by omega, hln, hpl, hown, hgs.mono (by omega)⟩
        case round =>
          obtain ⟨j, m, rfl, hj, hml, hpm, hown, hS⟩ := hrel
          by_cases hj0 : 0 < j
          · go_wp2_with fail
            refine (next_any b _ _ _ hS.2 (by omega) (by omega)).mono ?_
            rintro e w2 ⟨r, rfl, ⟨hr0, hr1⟩, ho2⟩
            obtain ⟨r, rfl⟩ := Int.eq_ofNat_of_zero_le hr0
            have hown2 := hown.s ho2 hbw
            have hjm : j < m.length := by rw [hml.out]; omega
            have hrm : r < m.length := by rw [hml.out]; omega
            have hjl : j < l.length := by rw [hln.out]; omega
            have hrl : r < l.length := by rw [hln.out]; omega
            have c0 := hown2.cell_int hjm
            have c1 := hown2.cell_int hrm
            have f0 := hown2.frozen j
            have f1 := hown2.frozen r
            have hset := (hown2.set_int j m[r]).set_int r m[j]
            have hset := hide hset
            have hS2 := hS.trans ho2
            have hml2 : Hid (((m.set j m[r]).set r m[j]).length = n) := by simp [Hid, hml.out]
            have hpm2 : Hid (((m.set j m[r]).set r m[j]).Perm (idL n)) := (List.set_set_perm hjm hrm).trans hpm.out
            by_cases hrj : r = j
            · subst hrj
              go_wp2_with fail
              go_region
              all_goals
                go_wp2
                go_roundw
                case rel => exact ⟨r - 1, _, by congr 1; omega, by omega, hml2, hpm2, hset.out.pure (gr_drew (World.grownBy.refl _ _)), ((hS2.set hbw hgl _).set hbw hgl _).drew.mono (by omega)⟩
                case measure => simp [intOf]; omega
            · have hjr : j ≠ r := fun e => hrj e.symm
              go_wp2_with fail
              go_region
              all_goals
                go_wp2
                go_roundw
                case rel => exact ⟨j - 1, _, by congr 1; omega, by omega, hml2, hpm2, hset.out.pure (gr_drew (World.grownBy.refl _ _)), ((hS2.set hbw hgl _).set hbw hgl _).drew.mono (by omega)⟩
                case measure => simp [intOf]; omega
          · have hj2 : j = 0 := by omega
            subst hj2
            go_wp2_with fail
            go_ret
            exact ⟨m, _, c', by rw [hml.out, ← hln.out]; exact rfl, hown, hml.out, hpm.out, hS.mono (by omega)⟩

end Go.Proofs.YtcjocckpbgihcaaGreatDoor

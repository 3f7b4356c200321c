/- Contracts of functions that this seat's laws reach, each: what one call returns and what it leaves in memory; no condition beyond each theorem's own hypotheses. -/
import Derived.Test.YtdamjdhioipmeaaFlowF
set_option linter.unusedVariables false
set_option linter.unusedSimpArgs false
namespace Go.Proofs.Ytdamjdhioipmeaa
open Go.RowKit Go.Bl

def bigBead : Bead := ⟨10000000, 5000, 5000⟩

def SMany (b : Nat) (N : Int) (w : World) (e : Ending) (w' : World) : Prop := ∃ (n : Nat) (A : Option Addr) (c : Nat), e = .returned (.slice A n c) ∧ (n = 4000 ∨ n = 4001) ∧ Own w' w.heap.size 61 A c (List.replicate n bigBead) ∧ SOut b N w w'

set_option maxHeartbeats 1000000 in
theorem manyBeads_any (b : Nat) (N : Int) (w : World) (hs : Strm w b N) (hN : N ≤ 1000000000) :
    Calls Try.prog 8 #[.pointer (some ⟨b, 0, none⟩)] w (SMany b (N + 1) w) := by
  have hbw := hs.lt
  have hsl0 : Sl (w.alloc (.cells #[.int .i64 10000000, .int .i64 5000, .int .i64 5000] 61)) (b + 1) (some ⟨w.heap.size, 0, none⟩) [bigBead] := sl_oneAt _ _ [.int .i64 10000000, .int .i64 5000, .int .i64 5000] _ _ _ rfl hbw rfl
  have ho0 := (SOut.refl hs).pure (gr_alloc (World.grownBy.refl w none) (.cells #[.int .i64 10000000, .int .i64 5000, .int .i64 5000] 61))
  go_enter Try.func8, Try.ntmps8
  go_wp2_with fail
  refine (pick_any b N _ _ _ [4000, 4001] _ (ho0.2.pure (gr_alloc (World.grownBy.refl _ _) _)) (by omega) (sl_intsAt _ _ _ _ _ (by simp) (by simp; omega) (by simp [maxLen])) rfl (by simp)).mono ?_
  rintro e w2 ⟨r, rfl, hr, ho2⟩
  have hsl := ((hsl0.pure (gr_alloc (World.grownBy.refl _ _) _)).s ho2 (by omega)).mono (Nat.zero_le _)
  have ho := (ho0.pure (gr_alloc (World.grownBy.refl _ _) _)).trans ho2
  have hsz := ho.1.size
  obtain ⟨n, rfl, hn⟩ : ∃ n : Nat, r = n ∧ (n = 4000 ∨ n = 4001) := ⟨r.toNat, by simp at hr; omega, by simp at hr; omega⟩
  clear hr hsl0 ho0
  have hn' := hide hn
  have hn2 : 1 ≤ n ∧ n ≤ 1000000 := by omega
  clear hn
  go_wp2_with fail
  refine (repeatBead_any _ _ bigBead _ _ hsl (by omega)).mono ?_
  rintro e w3 ⟨A, c, rfl, hown, hg⟩
  go_wp2
  go_ret
  exact ⟨n, A, c, rfl, hn'.out, hown.lower hsz, ho.pure hg⟩

end Go.Proofs.Ytdamjdhioipmeaa

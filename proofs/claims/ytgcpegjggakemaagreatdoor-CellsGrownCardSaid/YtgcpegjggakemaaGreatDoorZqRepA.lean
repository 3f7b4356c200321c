/- Contracts of functions that this seat's laws reach, each: what one call returns and what it leaves in memory; no condition beyond each theorem's own hypotheses. -/
import Derived.Test.YtgcpegjggakemaaGreatDoorZqHulA
import Derived.Test.YtgcpegjggakemaaGreatDoorZqGroA
import Derived.Test.YtgcpegjggakemaaGreatDoorSortPt
import Derived.Test.YtgcpegjggakemaaGreatDoorSortRing
import Derived.Shelf.SlSortCmp.Whole1
import Derived.Test.YtgcpegjggakemaaGreatDoorZqTree
import Derived.Test.YtgcpegjggakemaaGreatDoorShelf
set_option linter.unusedVariables false
set_option linter.unusedSimpArgs false
namespace Go.Bl
open Go

end Go.Bl
namespace Go.Proofs.YtgcpegjggakemaaGreatDoor
open Go Go.RowKit Go.Bl Go.Sort Go.Lib

end Go.Proofs.YtgcpegjggakemaaGreatDoor

namespace Go.Bl
open Go
/-- a byte as it lies in a row -/
structure Byt where
  v : Int

instance : Enc Byt where
  sz := 1
  rep := fun _ _ p cs => cs = [.int .u8 p.v]
  len := by rintro w lo x cs rfl; rfl
  one := by rintro w lo x cs rfl u hu; simp at hu; rcases hu with rfl; rfl
  keep := fun h _ => h
  mono := fun h _ => h

instance : Flat Byt := ⟨fun h => h, by decide⟩

end Go.Bl
namespace Go.Proofs.YtgcpegjggakemaaGreatDoor
open Go Go.RowKit Go.Bl

theorem info_byte : (Tryz.prog.info? 5).map (fun i => (i.zero, i.size, i.bytes)) = some (some (.int .u8 0), 1, 1) := by kernel_rfl

theorem mul_one (n : Int) (w : World) (hn : 0 ≤ n ∧ n < 4294967296) :
    Calls Tryz.prog 91 #[.int .u64 1, .int .u64 n] w fun e w' => e = .returned (.tuple #[.int .u64 0, .int .u64 n]) ∧ w = w' := by
  obtain ⟨m, rfl⟩ : ∃ m : Nat, n = (m : Int) := ⟨n.toNat, by omega⟩
  have hMul := Tryz.bits_Mul 1 m (by omega) (by omega) w
  have e1 : ((1 * m / 18446744073709551616 : Nat) : Int) = 0 := by rw [Nat.one_mul, Nat.div_eq_of_lt (by omega)]; rfl
  have e2 : ((1 * m % 18446744073709551616 : Nat) : Int) = (m : Int) := by rw [Nat.one_mul, Nat.mod_eq_of_lt (by omega)]
  rw [e1, e2] at hMul
  exact hMul.mono fun e w' h => ⟨h.1, h.2.symm⟩

set_option maxHeartbeats 2000000 in
set_option maxRecDepth 100000 in
theorem repeat_any (A : Option Addr) (c n : Nat) (x : Byt) (w : World) (hl : Sl w 0 A [x]) (hn : 1 ≤ n ∧ n ≤ 1000000) :
    Calls Tryz.prog 24 #[.slice A 1 c, .int .i64 n] w fun e w' => ∃ A' c', e = .returned (.slice A' n c') ∧ Own w' w.heap.size 5 A' c' (List.replicate n x) ∧ w.grownBy w' none := by
      obtain ⟨i0, hi, hz, h1, h2⟩ := info_parts info_byte
      go_enter Tryz.func24, Tryz.ntmps24
      go_wp2_with fail
      refine (mul_one _ _ (by omega)).mono ?_
      rintro e w1 ⟨rfl, rfl⟩
      obtain ⟨w2, hrun, hown, hg2⟩ := run_makeOwn (P := Tryz.prog) w 54 5 i0 _ (⟨0⟩ : Byt) Tryz.underlying54 hi hz h1 rfl rfl .i64 .i64 n (by rw [h2]; omega) (by simp [maxLen]; omega)
      have hl2 := hl.pure hg2
      have hA : ∃ ad, A = some ad := by
        obtain ⟨g, o, c1, e, _⟩ := hl.at_ (k := 0) (by decide) (by simp)
        exact ⟨_, e⟩
      obtain ⟨ad, rfl⟩ := hA
      go_wp2_with (with_reducible refine wpList_copyOwn w2 rfl (.tmp 31) (.tmp 32) 54 54 rfl w.heap.size 5 i0 Tryz.underlying54 hi h1 w.heap.size 0 n n rfl n _ hown 0 rfl (by simp) (by simp; omega) ad 1 c rfl 0 [x] hl2 rfl ?_)
      intro w3 hown3 hg3
      have hgw3 : w.grownBy w3 none := gr_new hg2 hg3 (Nat.le_refl _)
      clear hrun hown hl2 hg3
      go_wp2_with fail
      go_loopw [8] (fun i wr => ∃ (k : Nat) (rest : List _), 1 ≤ k ∧ k ≤ n ∧ i = .int .i64 k ∧ rest.length = n - k ∧ Own wr w.heap.size 5 (some ⟨w.heap.size, 0, none⟩) n (List.replicate k x ++ rest) ∧ w.grownBy wr none) (fun i _ => n - (intOf i).toNat)
      case atStart => exact ⟨1, List.replicate (n - 1) _, by omega, by omega, rfl, by simp, hown3, hgw3⟩
      case round =>
        obtain ⟨k, rest, hk1, hk, rfl, hrl, hown, hg⟩ := hrel
        by_cases hlt : k < n
        · have hsl := (hown.sl.take k).mono (Nat.zero_le _)
          have e1 : (List.replicate k x ++ rest).take k = List.replicate k x := by rw [List.take_append_of_le_length (by simp)]; simp
          rw [e1] at hsl
          have e2 := hide e1
          clear e1
          go_wp2_with fail
          refine wp_region_mix (fun _ => True) [true, true, true, true, true, true, true, false, true, true] (by kernel_rfl) (by kernel_rfl) trivial ?_
          iterate 7 ((refine mix_b rfl rfl _ rfl (by simp) (fun K hK => ?_); apply Exists.intro; refine ⟨fun wq hq K' hK' => ?_, ?_⟩; (focus (go_wp2_with fail; exact hK')); go_simp; refine hK _ ?_; clear hK K))
          refine mix_eff rfl (fun K hK => ?_)
          refine wp_copyOwn _ (.tmp 41) (.tmp 44) 54 54 rfl w.heap.size 5 i0 Tryz.underlying54 hi h1 w.heap.size _ (n - k) (n - k) rfl n _ (hown.pure (gr_drew (World.grownBy.refl _ _))) k (by first | rfl | exact (Nat.mul_one _).symm) (by simp; omega) (by simp; omega) _ k _ rfl 0 (List.replicate k x) (hsl.pure (gr_drew (World.grownBy.refl _ _))) (by simp) ?_
          intro w4 hown4 hg4
          rw [e2.out] at hown4
          have hgw4 : w.grownBy w4 none := gr_new (gr_drew hg) hg4 (Nat.le_refl _)
          obtain ⟨m, hm⟩ : ∃ m, min k (n - k) = m := ⟨_, rfl⟩
          rw [hm] at hown4
          have hm' : 1 ≤ m ∧ k + m ≤ n := by omega
          have e3 : List.replicate k x ++ (List.replicate k x).take m ++ (List.replicate k x ++ rest).drop (k + m) = List.replicate (k + m) x ++ rest.drop m := by
            rw [List.take_replicate, Nat.min_eq_left (by omega), ← List.replicate_append_replicate, List.drop_append, List.drop_of_length_le (by simp), List.nil_append, List.length_replicate, Nat.add_sub_cancel_left]
          rw [e3] at hown4
          have hm := hide hm
          clear e3 hown hsl
          rw [hm.out]
          (go_simp; refine hK _ _ trivial ?_; clear hK K)
          iterate 2 ((refine mix_b rfl rfl _ rfl (by simp) (fun K hK => ?_); apply Exists.intro; refine ⟨fun wq hq K' hK' => ?_, ?_⟩; (focus (go_wp2_with fail; exact hK')); go_simp; refine hK _ ?_; clear hK K))
          refine mix_nil ?_
          go_wp2
          go_roundw
          case rel => exact ⟨k + m, rest.drop m, by omega, by omega, by go_num, by simp; omega, hown4, hgw4⟩
          case measure => simp [intOf]; omega
        · have hkn : k = n := by omega
          subst hkn
          have hr0 : rest = [] := List.eq_nil_of_length_eq_zero (by omega)
          subst hr0
          go_wp2
          go_ret
          exact ⟨_, _, rfl, by simpa using hown, hg⟩

end Go.Proofs.YtgcpegjggakemaaGreatDoor

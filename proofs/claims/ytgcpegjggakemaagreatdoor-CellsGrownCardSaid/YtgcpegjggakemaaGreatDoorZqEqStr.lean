/- Contracts of functions that this seat's laws reach, each: what one call returns and what it leaves in memory; no condition beyond each theorem's own hypotheses. -/
import Derived.Test.YtgcpegjggakemaaGreatDoorZqStream
import Derived.Test.YtgcpegjggakemaaGreatDoorZqPathA
import Derived.Test.YtgcpegjggakemaaGreatDoorZqKit3
import Derived.Test.YtgcpegjggakemaaGreatDoorZqClosData
import Derived.Test.YtgcpegjggakemaaGreatDoorShelf
import Derived.Shelf.Strings.SlTrimAscii
import Derived.Test.YtgcpegjggakemaaGreatDoorZqGr2
import Derived.Test.YtgcpegjggakemaaGreatDoorZqNestCat
import Derived.Test.YtgcpegjggakemaaGreatDoorZqPathC
import Derived.Test.YtgcpegjggakemaaGreatDoorZqPlanData
set_option linter.unusedVariables false
set_option linter.unusedSimpArgs false
namespace Go.Proofs.YtgcpegjggakemaaGreatDoor
open Go.RowKit Go.Bl

end Go.Proofs.YtgcpegjggakemaaGreatDoor

namespace Go.Proofs.YtgcpegjggakemaaGreatDoor
open Go.RowKit Go.Bl

end Go.Proofs.YtgcpegjggakemaaGreatDoor

namespace Go.Proofs.YtgcpegjggakemaaGreatDoor
open Go.RowKit Go.Bl

end Go.Proofs.YtgcpegjggakemaaGreatDoor

namespace Go.Proofs.YtgcpegjggakemaaGreatDoor
open Go.RowKit Go.Bl

end Go.Proofs.YtgcpegjggakemaaGreatDoor

namespace Go.Proofs.YtgcpegjggakemaaGreatDoor
open Go.RowKit Go.Bl

end Go.Proofs.YtgcpegjggakemaaGreatDoor

namespace Go.Proofs.YtgcpegjggakemaaGreatDoor
open Go.RowKit Go.Bl

end Go.Proofs.YtgcpegjggakemaaGreatDoor

namespace Go.Proofs.YtgcpegjggakemaaGreatDoor
open Go.RowKit Go.Bl

def GoodK (n : Nat) (L : List Int) (q : Nat) : Prop := ∀ i (h : i < L.length), i < q → 0 ≤ L[i] ∧ L[i] < n ∧ memI (L.take i) L[i] = false

end Go.Proofs.YtgcpegjggakemaaGreatDoor

namespace Go.Proofs.YtgcpegjggakemaaGreatDoor
open Go.RowKit Go.Bl

def plannedF (p : List Prn) (j : List Jb) (plan : List (List Int)) (ch : Int) : Int := if planF p j plan = 0 then spanF ch 0 100000 else planF p j plan

end Go.Proofs.YtgcpegjggakemaaGreatDoor

namespace Go.Proofs.YtgcpegjggakemaaGreatDoor
open Go.RowKit Go.Bl

/-- a job is done by a clock -/
def doC (a : Int × ByteArray) (x : Jb) (ch : Int) : Int × ByteArray := (a.1 + (if a.2 = x.mat then 0 else ch) + x.min, x.mat)

theorem toList_inj {a b : ByteArray} (h : a.toList = b.toList) : a = b := by
  rw [Lib.toList_data, Lib.toList_data] at h
  exact ByteArray.ext (Array.toList_inj.1 h)

end Go.Proofs.YtgcpegjggakemaaGreatDoor

namespace Go.Proofs.YtgcpegjggakemaaGreatDoor
open Go Go.RowKit Go.Bl

def eqT (l m : List ByteArray) : Bool := decide (l = m)

set_option maxHeartbeats 400000 in
theorem equalStrs_any (A B : Option Addr) (c d : Nat) (l m : List ByteArray) (w : World) (hl : Sl w 0 A l) (hr : Sl w 0 B m) :
    Calls Tryz.prog 48 #[.slice A l.length c, .slice B m.length d] w fun e w' => e = .returned (.bool (eqT l m)) ∧ w.grownBy w' none := by
  have hm := hl.1
  unfold maxLen at hm
  have hm2 := hr.1
  unfold maxLen at hm2
  by_cases h : l.length = m.length
  · have hb : ((l.length : Int) != m.length) = false := by simp [h]
    have HL := hide h
    have hle : l.length ≤ m.length := by omega
    clear h
    go_enter Tryz.func48, Tryz.ntmps48
    go_wp2
    go_loopw [13] (fun i wr => ∃ k : Nat, k ≤ l.length ∧ i = .int .i64 k ∧ w.grownBy wr none ∧ Hid (l.take k = m.take k)) (fun i _ => l.length - (intOf i).toNat)
    case atStart => exact ⟨0, Nat.zero_le _, rfl, World.grownBy.refl _ _, rfl⟩
    case round =>
      obtain ⟨k, hk, rfl, hg, ht⟩ := hrel
      by_cases hlt : k < l.length
      · have hlt2 : k < m.length := by omega
        obtain ⟨g, o, cx, rfl, hb0, hb1, rfl, hc⟩ := (hl.pure hg).at_ (by decide) hlt
        have c0 : wr.cell? ⟨g, o + k, none⟩ = some (.string l[k]) := by have := hc 0 _ rfl; rwa [show Enc.sz ByteArray = 1 from rfl, Nat.mul_one] at this
        obtain ⟨g2, o2, cx, rfl, hb2, hb3, rfl, hc2⟩ := (hr.pure hg).at_ (by decide) hlt2
        have c1 : wr.cell? ⟨g2, o2 + k, none⟩ = some (.string m[k]) := by have := hc2 0 _ rfl; rwa [show Enc.sz ByteArray = 1 from rfl, Nat.mul_one] at this
        clear hc hc2
        have hi0 : (0 : Int) ≤ (k : Int) ∧ (k : Int) < l.length ∧ (k : Int) < m.length := by omega
        by_cases hz : l[k] = m[k]
        · have HS : Hid (l.take (k + 1) = m.take (k + 1)) := by simp only [Hid]; rw [take_snoc hlt, take_snoc hlt2, ht.out, hz]
          have hb : (l[k].toList == m[k].toList) = true := by simp [hz]
          clear hz
          go_wp2_with fail
          go_quiet (fail)
          go_wp2
          go_roundw
          case rel => exact ⟨k + 1, by omega, by go_num, gr_drewN hg _, HS⟩
          case measure => simp [intOf]; omega
        · have HS : Hid (eqT l m = false) := by
            refine decide_eq_false fun e => hz ?_
            subst e
            rfl
          have hb : (l[k].toList == m[k].toList) = false := by simp; exact fun e => hz (toList_inj e)
          clear hz
          go_wp2_with fail
          go_quiet (fail)
          go_wp2
          go_ret
          exact ⟨ret_bool HS.out.symm, gr_drewN hg _⟩
      · have HS : Hid (eqT l m = true) := by
          have h := ht.out
          rw [show k = l.length by omega, List.take_length, List.take_of_length_le (by rw [HL.out]; exact Nat.le_refl _)] at h
          exact decide_eq_true h
        go_wp2
        go_ret
        exact ⟨ret_bool HS.out.symm, hg⟩
  · have hb : ((l.length : Int) != m.length) = true := by simp; omega
    have HS : Hid (eqT l m = false) := decide_eq_false fun e => h (by rw [e])
    clear h
    go_enter Tryz.func48, Tryz.ntmps48
    go_wp2
    go_ret
    exact ⟨ret_bool HS.out.symm, World.grownBy.refl _ _⟩

end Go.Proofs.YtgcpegjggakemaaGreatDoor

/- Contracts of functions that this seat's laws reach, each: what one call returns and what it leaves in memory; no condition beyond each theorem's own hypotheses. -/
import Derived.Test.YtcjocckpbgihcaaGreatDoorZqFarmE
import Derived.Test.YtcjocckpbgihcaaGreatDoorZqPlanData
set_option linter.unusedVariables false
set_option linter.unusedSimpArgs false
namespace Go.Proofs.YtcjocckpbgihcaaGreatDoor
open Go.RowKit Go.Bl

theorem contains_snoc {l : List Bool} {k : Nat} (h : k < l.length) (b : Bool) : (l.take (k + 1)).contains b = ((l.take k).contains b || b == l[k]) := by
  rw [take_snoc h, Bool.eq_iff_iff]; simp only [List.contains_iff_mem, List.mem_append, List.mem_singleton, Bool.or_eq_true, beq_iff_eq]

set_option maxHeartbeats 800000 in
theorem indexBool_any (A : Option Addr) (c : Nat) (l : List Bool) (w : World) (hl : Sl w 0 A l) :
    Calls Tryz.prog 65 #[.slice A l.length c, .bool false] w fun e w' => (∃ n : Int, e = .returned (.int .i64 n) ∧ decide (n ≥ 0) = l.contains false) ∧ w.grownBy w' none := by
  have hm := hl.1
  unfold maxLen at hm
  go_enter Tryz.func65, Tryz.ntmps65
  go_wp2_with fail
  go_loopw [8] (fun i wr => ∃ k : Nat, k ≤ l.length ∧ i = .int .i64 k ∧ w.grownBy wr none ∧ Hid ((l.take k).contains false = false)) (fun i _ => l.length - (intOf i).toNat)
  case atStart => exact ⟨0, Nat.zero_le _, rfl, World.grownBy.refl _ _, by simp [Hid]⟩
  case round =>
    obtain ⟨k, hk, rfl, hg, hall⟩ := hrel
    by_cases hlt : k < l.length
    · obtain ⟨g, o, cx, rfl, hb0, hb1, rfl, hc⟩ := (hl.pure hg).at_ (by decide) hlt
      have c0 : wr.cell? ⟨g, o + k, none⟩ = some (.bool l[k]) := by have := hc 0 _ rfl; rwa [show Enc.sz Bool = 1 from rfl, Nat.mul_one] at this
      clear hc
      have HS : Hid ((l.take (k + 1)).contains false = (false == l[k])) := by rw [Hid, contains_snoc hlt, hall.out, Bool.false_or]
      have HT : Hid (l[k] = false → l.contains false = true) := fun h => List.contains_iff_mem.2 (h ▸ List.getElem_mem hlt)
      rcases hv : l[k] with _ | _
      · rw [hv] at c0
        replace HT := hide (HT.out hv)
        clear hv HS hall
        go_wp2_with fail
        go_ret
        exact ⟨⟨_, rfl, by rw [HT.out]; simp⟩, hg⟩
      · rw [hv] at c0
        replace HS := HS.out
        rw [hv] at HS
        replace HS := hide HS
        clear hv HT
        go_wp2_with fail
        (go_roundw; (case rel => exact ⟨k + 1, by omega, by go_num, hg, HS.out⟩); (case measure => simp [intOf]; omega))
    · have HB : Hid (l.contains false = false) := by have := hall.out; rwa [List.take_of_length_le (by omega)] at this
      go_wp2_with fail
      go_ret
      exact ⟨⟨_, rfl, by rw [HB.out]; simp⟩, hg⟩

set_option maxHeartbeats 800000 in
theorem containsBool_any (A : Option Addr) (c : Nat) (l : List Bool) (w : World) (hl : Sl w 0 A l) :
    Calls Tryz.prog 48 #[.slice A l.length c, .bool false] w fun e w' => e = .returned (.bool (l.contains false)) ∧ w.grownBy w' none := by
  go_enter Tryz.func48, Tryz.ntmps48
  go_wp2_with fail
  refine (indexBool_any _ _ _ _ hl).mono ?_
  rintro e w1 ⟨⟨n, rfl, hn⟩, hg⟩
  replace hn := hide hn
  go_wp2_with fail
  go_ret
  exact ⟨ret_bool hn.out, hg⟩

end Go.Proofs.YtcjocckpbgihcaaGreatDoor

namespace Go.Proofs.YtcjocckpbgihcaaGreatDoor
open Go.RowKit Go.Bl

theorem info_boolF : (Tryz.prog.info? 4).map (fun i => (i.zero, i.size, i.bytes)) = some (some (.bool false), 1, 1) := by kernel_rfl

def GoodK (n : Nat) (L : List Int) (q : Nat) : Prop := ∀ i (h : i < L.length), i < q → 0 ≤ L[i] ∧ L[i] < n ∧ memI (L.take i) L[i] = false

set_option maxHeartbeats 4000000 in
set_option maxRecDepth 100000 in
theorem checkPlan_any (A : Option Addr) (c : Nat) (p : List Prn) (B : Option Addr) (d : Nat) (j : List Jb) (C : Option Addr) (e0 : Nat) (plan : List (List Int)) (w : World) (hp : Sl w 0 A p) (hj : Sl w 0 B j) (hpl : Sl w 0 C plan) :
    Calls Tryz.prog 38 #[.slice A p.length c, .slice B j.length d, .slice C plan.length e0] w fun e w' => e = .returned (.int .i64 (planF p j plan)) ∧ w.grownBy w' none := by
  have hj1 := hj.1
  unfold maxLen at hj1
  have hpm := hpl.1
  unfold maxLen at hpm
  have hV : Hid (planF p j plan = if farmF p j ≠ 0 then farmF p j else if plan.length ≠ p.length then 3 else planK j.length plan.flatten 0) := rfl
  go_enter Tryz.func38, Tryz.ntmps38
  go_wp2_with fail
  refine (fault_any _ _ _ _ _ _ _ hp hj).mono ?_
  rintro e w1 ⟨rfl, hg1⟩
  by_cases h0 : farmF p j = 0
  · have hb : (farmF p j != 0) = false := by simp [h0]
    have hj5 : j.length ≤ 500 := by
      unfold farmF at h0
      by_cases hz : prnsF p = 0
      · rw [if_pos hz] at h0; unfold jbsF at h0
        by_cases hq : 500 < j.length
        · rw [if_pos hq] at h0; cases h0
        · omega
      · rw [if_neg hz] at h0; exact absurd h0 hz
    replace h0 := hide h0
    by_cases h1 : plan.length = p.length
    · have hb2 : ((plan.length : Int) != p.length) = false := by simp [h1]
      have hV2 : Hid (planF p j plan = planK j.length plan.flatten 0) := by rw [Hid, hV.out, if_neg (by simp [h0.out]), if_neg (by simp [h1])]
      clear hV h1
      obtain ⟨i0, hi, hz, hi1, hi2⟩ := info_parts info_boolF
      obtain ⟨w2, hrun, hoS, hg2⟩ := run_makeOwn (P := Tryz.prog) w1 77 4 i0 _ false Tryz.underlying77 hi hz hi1 rfl rfl .i64 .i64 j.length (by rw [hi2]; omega) (by simp [maxLen]; omega)
      clear hi hz hi1 hi2 i0
      rw [← seenN_nil] at hoS
      obtain ⟨gs, hgs⟩ : ∃ g, g = w1.heap.size := ⟨_, rfl⟩
      rw [← hgs] at hrun hoS
      have hgs1 : gs < w2.heap.size := (hoS.blk_lt (g := gs) rfl).2
      have hgs0 : w.heap.size ≤ gs := by rw [hgs]; exact hg1.size
      have hgw : w.grownBy w2 none := hg1.t hg2
      clear hgs
      replace hoS := hoS.lower hgs0
      obtain ⟨L, hL⟩ : ∃ L, L = plan.flatten := ⟨_, rfl⟩
      have hfa : Hid (flatK plan plan.length = L) := by rw [Hid, hL]; exact flatK_all (Nat.le_refl _)
      have hfg : Hid (∀ k m (hk : k < plan.length) (hm : m < plan[k].length), ∃ h : (flatK plan k).length + m < L.length, L[(flatK plan k).length + m] = plan[k][m]) := by rw [Hid, hL]; exact fun k m hk hm => flat_get hk hm
      rw [← hL] at hV2
      replace hL := hide hL
      go_wp2_with fail
      clear hrun hg1 hg2
      go_loopw [29] (fun i wr => ∃ k q : Nat, k ≤ plan.length ∧ i = .int .i64 k ∧ q = (flatK plan k).length ∧ Own wr w.heap.size 4 (some ⟨gs, 0, none⟩) j.length (seenN j.length (L.take q)) ∧ w.grownBy wr none ∧ Hid (planF p j plan = planK j.length L q) ∧ Hid (GoodK j.length L q)) (fun i _ => plan.length - (intOf i).toNat)
      case atStart => exact ⟨0, 0, Nat.zero_le _, rfl, rfl, hoS, hgw, hV2, fun i _ h => by omega⟩
      case round =>
        clear hoS hgw hgs1 hV2
        obtain ⟨k, q, hk, rfl, hq, hoS, hg, hX, hG⟩ := hrel
        by_cases hlt : k < plan.length
        · obtain ⟨g, o, Bk, dk, rfl, hb1, c0, hsl⟩ := sl_inner hpl hlt
          replace c0 := hg.k c0
          have hq2 : Hid ((flatK plan (k + 1)).length = q + plan[k].length) := by rw [Hid, flatK_snoc hlt, List.length_append, hq]
          have hfk : Hid (∀ m (hm : m < plan[k].length), ∃ h : q + m < L.length, L[q + m] = plan[k][m]) := by rw [hq]; exact fun m hm => hfg.out k m hlt hm
          replace hq := hide hq
          obtain ⟨pk, hpk⟩ : ∃ x, x = plan[k] := ⟨_, rfl⟩
          rw [← hpk] at c0 hsl hq2 hfk
          replace hpk := hide hpk
          have hpkm := hsl.1
          unfold maxLen at hpkm
          go_wp2_with fail
          go_loopw [35] (fun i wr => ∃ m : Nat, m ≤ pk.length ∧ i = .int .i64 m ∧ Own wr w.heap.size 4 (some ⟨gs, 0, none⟩) j.length (seenN j.length (L.take (q + m))) ∧ w.grownBy wr none ∧ Hid (planF p j plan = planK j.length L (q + m)) ∧ Hid (GoodK j.length L (q + m))) (fun i _ => pk.length - (intOf i).toNat)
          case atStart => exact ⟨0, Nat.zero_le _, rfl, hoS, hg, hX, hG⟩
          case round =>
            clear hoS hg hX hG c0
            obtain ⟨m, hmk, rfl, hoS, hg, hX, hG⟩ := hrel
            by_cases hml : m < pk.length
            · obtain ⟨hqm, hget⟩ := hfk.out m hml
              obtain ⟨g2, o2, cx, rfl, _, hb2', rfl, hc⟩ := (hsl.pure hg).at_ (by decide) hml
              have c0 : _ := hc 0 _ rfl
              rw [show Enc.sz Int = 1 from rfl, Nat.mul_one, Nat.add_zero, ← hget] at c0
              clear hc
              have hst := hide (planK_step (n := j.length) hqm)
              have hgd := hG.out
              generalize hxx : L[q + m] = x at *
              by_cases hr : x < 0 ∨ (j.length : Int) ≤ x
              · have hF : Hid (planF p j plan = 1) := by rw [Hid, hX.out, hst.out, if_pos hr]
                clear hst hX hgd hget hG
                by_cases hr1 : x < 0
                · have hd1 : decide (x < 0) = true := by simp [hr1]
                  clear hr
                  go_wp2_with fail
                  go_ret
                  exact ⟨ret_int hF.out.symm, hg⟩
                · have hd1 : decide (x < 0) = false := by simp; omega
                  have hd2 : decide (x ≥ (j.length : Int)) = true := by simp; omega
                  clear hr
                  go_wp2_with fail
                  go_ret
                  exact ⟨ret_int hF.out.symm, hg⟩
              · have hX2 : Hid (planF p j plan = if memI (L.take (q + m)) x then 6 else planK j.length L (q + m + 1)) := by rw [Hid, hX.out, hst.out, if_neg hr]
                have hd1 : decide (x < 0) = false := by simp; omega
                have hd2 : decide (x ≥ (j.length : Int)) = false := by simp; omega
                obtain ⟨i, rfl⟩ : ∃ i : Nat, x = (i : Int) := ⟨x.toNat, by omega⟩
                have hij : i < j.length := by omega
                have hlS : i < (seenN j.length (L.take (q + m))).length := by rw [seenN_len]; exact hij
                have s0 := hoS.cell_bool hlS
                have sf := hoS.frozen i
                rw [seenN_get] at s0
                clear hst hX hr hget hG
                replace hxx := hide hxx
                replace hgd := hide hgd
                rcases hv : memI (L.take (q + m)) (i : Int) with _ | _
                · rw [hv] at s0 hX2
                  have hse := seenN_set (n := j.length) hqm hxx.out
                  have hoS2 := hoS.set_bool hlS true
                  rw [← hse] at hoS2
                  have hG2 : Hid (GoodK j.length L (q + m + 1)) := fun i' hi' hlt' => by
                    by_cases e : i' = q + m
                    · subst e; rw [hxx.out]; exact ⟨by omega, by omega, hv⟩
                    · exact hgd.out i' hi' (by omega)
                  have hgs2 := gr_set hg (p := ⟨gs, i, none⟩) (.inr hgs0) (.bool true)
                  replace hX2 := hide hX2.out
                  clear hse hgd
                  go_wp2_with fail
                  (go_roundw; (case rel => exact ⟨m + 1, by omega, by go_num, hoS2, hgs2, hX2.out, hG2⟩); (case measure => simp [intOf]; omega))
                · rw [hv] at s0 hX2
                  replace hX2 := hide (hX2.out.trans (if_pos rfl))
                  go_wp2_with fail
                  go_ret
                  exact ⟨ret_int hX2.out.symm, hg⟩
            · have hm2 : m = pk.length := by omega
              subst hm2
              go_wp2_with fail
              (go_roundw; (case rel => exact ⟨k + 1, q + pk.length, by omega, by go_num, hq2.out.symm, hoS, hg, hX, hG⟩); (case measure => simp [intOf]; omega))
        · have hq3 : Hid (planF p j plan = if L.length < j.length then 8 else 0) := by
            have : q = L.length := by rw [hq, show k = plan.length by omega, hfa.out]
            rw [Hid, hX.out, this, planK_end]
          have hse : Hid ((seenN j.length (L.take q)).contains false = decide (L.length < j.length)) := by
            have : q = L.length := by rw [hq, show k = plan.length by omega, hfa.out]
            rw [Hid, this, List.take_length]
            exact seenN_all fun i hh => hG.out i hh (by omega)
          have hC := containsBool_any _ j.length _ _ (hoS.sl.mono (Nat.zero_le _))
          rw [seenN_len, hse.out] at hC
          go_wp2_with fail
          refine hC.mono ?_
          rintro e w4 ⟨rfl, hg4⟩
          by_cases hb3 : L.length < j.length
          · have hb4 : decide (L.length < j.length) = true := by simp [hb3]
            rw [hb4]
            replace hq3 := hide (hq3.out.trans (if_pos hb3))
            clear hb3 hb4
            go_wp2_with fail
            go_ret
            exact ⟨ret_int hq3.out.symm, hg.t hg4⟩
          · have hb4 : decide (L.length < j.length) = false := by simp; omega
            rw [hb4]
            replace hq3 := hide (hq3.out.trans (if_neg hb3))
            clear hb3 hb4
            go_wp2_with fail
            go_ret
            exact ⟨ret_int hq3.out.symm, hg.t hg4⟩
    · have hb2 : ((plan.length : Int) != p.length) = true := by simp; omega
      have hV2 : Hid (planF p j plan = 3) := by rw [Hid, hV.out, if_neg (by simp [h0.out]), if_pos h1]
      clear hV h1
      go_wp2_with fail
      go_ret
      exact ⟨ret_int hV2.out.symm, hg1⟩
  · have hb : (farmF p j != 0) = true := by simp [h0]
    have hV2 : Hid (planF p j plan = farmF p j) := by rw [Hid, hV.out, if_pos h0]
    clear h0 hV
    go_wp2_with fail
    go_ret
    exact ⟨ret_int hV2.out.symm, hg1⟩

end Go.Proofs.YtcjocckpbgihcaaGreatDoor

namespace Go.Proofs.YtcjocckpbgihcaaGreatDoor
open Go.RowKit Go.Bl

def plannedF (p : List Prn) (j : List Jb) (plan : List (List Int)) (ch : Int) : Int := if planF p j plan = 0 then spanF ch 0 100000 else planF p j plan

theorem spanF_outB (n a b : Int) : spanF n a b = if outB n a b then 1 else 0 := by
  rcases h : outB n a b with _ | _
  · rw [spanF_in (by rw [in_out, h]; rfl)]; rfl
  · rw [spanF_out (by rw [in_out, h]; rfl)]; rfl

set_option maxHeartbeats 1000000 in
theorem planned_any (A : Option Addr) (c : Nat) (p : List Prn) (B : Option Addr) (d : Nat) (j : List Jb) (C : Option Addr) (e0 : Nat) (plan : List (List Int)) (ch : Int) (w : World) (hp : Sl w 0 A p) (hj : Sl w 0 B j) (hpl : Sl w 0 C plan) :
    Calls Tryz.prog 22 #[.slice A p.length c, .slice B j.length d, .slice C plan.length e0, .int .i64 ch] w fun e w' => e = .returned (.int .i64 (plannedF p j plan ch)) ∧ w.grownBy w' none := by
  have hV : Hid (plannedF p j plan ch = if planF p j plan = 0 then spanF ch 0 100000 else planF p j plan) := rfl
  go_enter Tryz.func22, Tryz.ntmps22
  go_wp2_with fail
  refine (checkPlan_any _ _ _ _ _ _ _ _ _ _ hp hj hpl).mono ?_
  rintro e w1 ⟨rfl, hg1⟩
  by_cases h0 : planF p j plan = 0
  · have hb : (planF p j plan != 0) = false := by simp [h0]
    rw [if_pos h0, spanF_outB] at hV
    replace h0 := hide h0
    rcases h1 : outB ch 0 100000 with _ | _
    · rw [h1] at hV
      go_wp2_with (go_at_call 17; refine (isChange_any _ _).mono ?_; rintro _ _ ⟨rfl, rfl⟩; rw [h1])
      go_ret
      exact ⟨ret_int hV.out.symm, hg1⟩
    · rw [h1] at hV
      go_wp2_with (go_at_call 17; refine (isChange_any _ _).mono ?_; rintro _ _ ⟨rfl, rfl⟩; rw [h1])
      go_ret
      exact ⟨ret_int hV.out.symm, hg1⟩
  · have hb : (planF p j plan != 0) = true := by simp [h0]
    rw [if_neg h0] at hV
    clear h0
    go_wp2_with fail
    go_ret
    exact ⟨ret_int hV.out.symm, hg1⟩

end Go.Proofs.YtcjocckpbgihcaaGreatDoor

namespace Go.Proofs.YtcjocckpbgihcaaGreatDoor
open Go.RowKit Go.Bl

/-- a job is done by a clock -/
def doC (a : Int × ByteArray) (x : Jb) (ch : Int) : Int × ByteArray := (a.1 + (if a.2 = x.mat then 0 else ch) + x.min, x.mat)

theorem toList_inj {a b : ByteArray} (h : a.toList = b.toList) : a = b := by
  rw [Lib.toList_data, Lib.toList_data] at h
  exact ByteArray.ext (Array.toList_inj.1 h)

set_option maxHeartbeats 1000000 in
theorem clockDo_any (n : Int) (m : ByteArray) (x : Jb) (ch : Int) (w : World) (h0 : 0 ≤ n ∧ n ≤ 1000000000) (h1 : 0 ≤ ch ∧ ch ≤ 1000000) (h2 : 0 ≤ x.min ∧ x.min ≤ 1000000) :
    Calls Tryz.prog 20 #[.agg #[.int .i64 n, .string m], .agg #[.string x.key, .string x.mat, .int .i64 x.min, .int .i64 x.due], .int .i64 ch] w fun e w' => e = .returned (.agg #[.int .i64 (doC (n, m) x ch).1, .string (doC (n, m) x ch).2]) ∧ w.grownBy w' none := by
  by_cases hm : m = x.mat
  · have hV : doC (n, m) x ch = (n + x.min, x.mat) := by simp [doC, hm]
    have hb : (m.toList == x.mat.toList) = true := by simp [hm]
    rw [hV]
    go_enter Tryz.func20, Tryz.ntmps20
    go_wp2_with fail
    refine bodyPost_ret (v := .agg #[.int .i64 (n + x.min), .string x.mat]) (by simp [results, Tryz.results20, go_sem]) rfl ⟨rfl, ?_⟩
    exact (by repeat (first | exact World.grownBy.refl _ _ | assumption | refine gr_alloc ?_ _ | (apply gr_tail; assumption) | refine gr_drewN ?_ _ | refine gr_drew ?_))
  · have hV : doC (n, m) x ch = (n + ch + x.min, x.mat) := by simp [doC, hm]
    have hb : (m.toList == x.mat.toList) = false := by simp; exact fun e => hm (toList_inj e)
    rw [hV]
    go_enter Tryz.func20, Tryz.ntmps20
    go_wp2_with fail
    refine bodyPost_ret (v := .agg #[.int .i64 (n + ch + x.min), .string x.mat]) (by simp [results, Tryz.results20, go_sem]) rfl ⟨rfl, ?_⟩
    exact (by repeat (first | exact World.grownBy.refl _ _ | assumption | refine gr_alloc ?_ _ | (apply gr_tail; assumption) | refine gr_drewN ?_ _ | refine gr_drew ?_))

end Go.Proofs.YtcjocckpbgihcaaGreatDoor

namespace Go.Proofs.YtcjocckpbgihcaaGreatDoor
open Go Go.RowKit Go.Bl

def jobAt (j : List Jb) (i : Int) : Jb := j.getD i.toNat default
/-- the ends of a row of jobs, from a clock on -/
def rowC (j : List Jb) (ch : Int) (c : Int × ByteArray) : List Int → List (Int × Int)
  | [] => []
  | i :: r => (i, (doC c (jobAt j i) ch).1) :: rowC j ch (doC c (jobAt j i) ch) r

def clkC (j : List Jb) (ch : Int) (c : Int × ByteArray) (row : List Int) : Int × ByteArray := row.foldl (fun c i => doC c (jobAt j i) ch) c

def rowP (p : List Prn) (j : List Jb) (ch : Int) (plan : List (List Int)) (k : Nat) : List (Int × Int) := rowC j ch (0, (p.getD k default).mat) (plan.getD k [])

def pairsK (p : List Prn) (j : List Jb) (plan : List (List Int)) (ch : Int) (k : Nat) : List (Int × Int) := ((List.range k).map (rowP p j ch plan)).flatten

def outO (n : Nat) (L : List (Int × Int)) : List Int := L.foldl (fun o q => o.set q.1.toNat q.2) (List.replicate n 0)

def lastO (L : List (Int × Int)) : Int := L.foldl (fun a q => max a q.2) 0

def endsF (p : List Prn) (j : List Jb) (plan : List (List Int)) (ch : Int) : List Int := outO j.length (pairsK p j plan ch plan.length)

def endF (p : List Prn) (j : List Jb) (plan : List (List Int)) (ch : Int) : Int := lastO (pairsK p j plan ch plan.length)

theorem rowC_append (j : List Jb) (ch : Int) : ∀ (c : Int × ByteArray) (a b : List Int), rowC j ch c (a ++ b) = rowC j ch c a ++ rowC j ch (clkC j ch c a) b
  | _, [], _ => rfl
  | c, i :: a, b => by simp only [List.cons_append, rowC, rowC_append j ch _ a b]; rfl

theorem rowC_snoc (j : List Jb) (ch : Int) (c : Int × ByteArray) (a : List Int) (i : Int) : rowC j ch c (a ++ [i]) = rowC j ch c a ++ [(i, (doC (clkC j ch c a) (jobAt j i) ch).1)] := by rw [rowC_append]; rfl

theorem clkC_snoc (j : List Jb) (ch : Int) (c : Int × ByteArray) (a : List Int) (i : Int) : clkC j ch c (a ++ [i]) = doC (clkC j ch c a) (jobAt j i) ch := by simp [clkC]

theorem outO_snoc (n : Nat) (L : List (Int × Int)) (q : Int × Int) : outO n (L ++ [q]) = (outO n L).set q.1.toNat q.2 := by simp [outO]

theorem lastO_snoc (L : List (Int × Int)) (q : Int × Int) : lastO (L ++ [q]) = max (lastO L) q.2 := by simp [lastO]

theorem outO_len (n : Nat) (L : List (Int × Int)) : (outO n L).length = n := by
  have : ∀ (L : List (Int × Int)) (o : List Int), (L.foldl (fun o q => o.set q.1.toNat q.2) o).length = o.length := by
    intro L; induction L with
    | nil => intro o; rfl
    | cons q L ih => intro o; rw [List.foldl_cons, ih, List.length_set]
  simp [outO, this]

theorem pairsK_succ (p : List Prn) (j : List Jb) (plan : List (List Int)) (ch : Int) (k : Nat) : pairsK p j plan ch (k + 1) = pairsK p j plan ch k ++ rowP p j ch plan k := by
  unfold pairsK; rw [List.range_succ, List.map_append, List.flatten_append]; simp

theorem jobAt_nat {j : List Jb} {i : Nat} (h : i < j.length) : jobAt j i = j[i] := by unfold jobAt; rw [Int.toNat_natCast]; simp [List.getD, h]

/-- what is asked of printers, jobs, plans and changes that are right -/
structure JOk (j : List Jb) (ch : Int) : Prop where
  len : j.length ≤ 500
  bd : ∀ x ∈ j, 1 ≤ x.min ∧ x.min ≤ 100000 ∧ 0 ≤ x.due ∧ x.due ≤ 1000000000
  chg : 0 ≤ ch ∧ ch ≤ 100000

structure POk (p : List Prn) (j : List Jb) (plan : List (List Int)) (ch : Int) : Prop extends JOk j ch where
  row : plan.length = p.length
  few : plan.flatten.length ≤ 500
  ix : ∀ i ∈ plan.flatten, 0 ≤ i ∧ i < j.length

theorem scanN_zero {f : Nat → Int} : ∀ {n : Nat}, scanN f n = 0 → ∀ k, k < n → f k = 0
  | 0, _, k, hk => by omega
  | n + 1, h, k, hk => by
    by_cases e : scanN f n = 0
    · have hn : f n = 0 := by simpa [scanN, e] using h
      by_cases he : k = n
      · rw [he]; exact hn
      · exact scanN_zero e k (by omega)
    · simp [scanN, e] at h

theorem jok_of {p : List Prn} {j : List Jb} {ch : Int} (h : farmF p j = 0) (hc : spanF ch 0 100000 = 0) : JOk j ch := by
  have h2 : jbsF j = 0 := by
    unfold farmF at h
    by_cases hz : prnsF p = 0
    · rw [if_pos hz] at h; exact h
    · rw [if_neg hz] at h; exact absurd h hz
  unfold jbsF at h2
  have hlen : j.length ≤ 500 := by
    by_cases hq : 500 < j.length
    · rw [if_pos hq] at h2; cases h2
    · omega
  rw [if_neg (by omega)] at h2
  refine ⟨hlen, fun x hx => ?_, ?_⟩
  · obtain ⟨k, hk, rfl⟩ := List.getElem_of_mem hx
    have := scanN_zero h2 k hk
    unfold jbF at this
    have e : j.getD k default = j[k] := by simp [List.getD, hk]
    rw [e] at this
    by_cases h1 : (keyB j[k].key && keyB j[k].mat) = true
    · rw [if_pos h1] at this
      by_cases h3 : (outB j[k].min 1 100000 || outB j[k].due 0 1000000000) = true
      · rw [if_pos h3] at this; cases this
      · simp [outB] at h3; omega
    · rw [if_neg h1] at this; cases this
  · rw [spanF_outB] at hc
    by_cases ho : outB ch 0 100000 = true
    · rw [if_pos ho] at hc; cases hc
    · simp [outB] at ho; omega

theorem planIn_zero (n : Nat) : ∀ (L T : List Int), planIn n T L = 0 → ∀ i (h : i < L.length), 0 ≤ L[i] ∧ L[i] < n ∧ memI (T ++ L.take i) L[i] = false
  | [], _, _, i, h => by simp at h
  | k :: r, T, h, i, hi => by
    unfold planIn at h
    by_cases h1 : k < 0 ∨ (n : Int) ≤ k
    · rw [if_pos h1] at h; cases h
    · rw [if_neg h1] at h
      rcases hm : memI T k with _ | _
      · rw [hm] at h
        have ih := planIn_zero n r (T ++ [k]) h
        rcases i with _ | i
        · simp [hm]; omega
        · have := ih i (by simpa using hi)
          simpa using this
      · rw [hm] at h; cases h

theorem planK_good {n : Nat} {L : List Int} (h : planK n L 0 = 0) : ∀ i (h : i < L.length), 0 ≤ L[i] ∧ L[i] < n ∧ memI (L.take i) L[i] = false := by
  intro i hi
  have := planIn_zero n L [] (by simpa [planK] using h) i hi
  simpa using this

theorem planK_few {n : Nat} {L : List Int} (h : planK n L 0 = 0) : L.length ≤ n := by
  have hg := planK_good h
  have hc := seenN_count (n := n) (L := L) (Nat.le_refl _) (fun i hh _ => hg i hh)
  rw [List.take_length] at hc
  have := List.count_le_length (a := true) (l := seenN n L)
  rw [hc, seenN_len] at this
  exact this

theorem pok_of {p : List Prn} {j : List Jb} {plan : List (List Int)} {ch : Int} (h : plannedF p j plan ch = 0) : POk p j plan ch := by
  unfold plannedF at h
  by_cases h0 : planF p j plan = 0
  · rw [if_pos h0] at h
    unfold planF at h0
    by_cases h1 : farmF p j = 0
    · rw [if_neg (by simp [h1])] at h0
      by_cases h2 : plan.length = p.length
      · rw [if_neg (by simp [h2])] at h0
        have hj := jok_of h1 h
        exact { toJOk := hj, row := h2, few := Nat.le_trans (planK_few h0) hj.len, ix := fun i hi => by
                  obtain ⟨k, hk, rfl⟩ := List.getElem_of_mem hi
                  exact ⟨(planK_good h0 k hk).1, (planK_good h0 k hk).2.1⟩ }
      · rw [if_pos (by simpa using h2)] at h0; cases h0
    · rw [if_pos (by simpa using h1)] at h0; exact absurd h0 h1
  · rw [if_neg h0] at h; exact absurd h h0

theorem doC_bd {j : List Jb} {ch : Int} (h : JOk j ch) {c : Int × ByteArray} {i : Int} (hi : 0 ≤ i ∧ i < j.length) {N : Int} (hc : 0 ≤ c.1 ∧ c.1 ≤ N) : 0 ≤ (doC c (jobAt j i) ch).1 ∧ (doC c (jobAt j i) ch).1 ≤ N + 200000 := by
  obtain ⟨k, rfl⟩ := Int.eq_ofNat_of_zero_le hi.1
  have hk : k < j.length := by omega
  rw [jobAt_nat hk]
  have hb := h.bd _ (List.getElem_mem hk)
  have hch := h.chg
  unfold doC
  by_cases hm : c.2 = j[k].mat
  · rw [if_pos hm]; simp only; omega
  · rw [if_neg hm]; simp only; omega

theorem clkC_bd {j : List Jb} {ch : Int} (h : JOk j ch) : ∀ (row : List Int) (_ : ∀ i ∈ row, 0 ≤ i ∧ i < (j.length : Int)) (c : Int × ByteArray) {N : Int} (_ : 0 ≤ c.1 ∧ c.1 ≤ N), 0 ≤ (clkC j ch c row).1 ∧ (clkC j ch c row).1 ≤ N + 200000 * row.length
  | [], _, c, N, hc => by unfold clkC; simpa using hc
  | i :: r, hr, c, N, hc => by
    have h1 := doC_bd h (hr i (by simp)) hc
    have := clkC_bd h r (fun k hk => hr k (by simp [hk])) (doC c (jobAt j i) ch) h1
    rw [show clkC j ch c (i :: r) = clkC j ch (doC c (jobAt j i) ch) r from rfl, List.length_cons]
    constructor
    · exact this.1
    · have := this.2; push_cast; omega

theorem row_in {plan : List (List Int)} {k : Nat} (hk : k < plan.length) : ∀ i ∈ plan[k], i ∈ plan.flatten := fun i hi => List.mem_flatten.2 ⟨_, List.getElem_mem hk, hi⟩

theorem row_len {plan : List (List Int)} {k : Nat} (hk : k < plan.length) : plan[k].length ≤ plan.flatten.length := by
  have e : plan.flatten = flatK plan k ++ (plan[k] ++ (plan.drop (k + 1)).flatten) := by
    unfold flatK
    conv => lhs; rw [← List.take_append_drop k plan, List.flatten_append, List.drop_eq_getElem_cons hk, List.flatten_cons]
  rw [e]; simp; omega

end Go.Proofs.YtcjocckpbgihcaaGreatDoor

namespace Go.Proofs.YtcjocckpbgihcaaGreatDoor
open Go Go.RowKit Go.Bl

set_option maxHeartbeats 4000000 in
set_option maxRecDepth 100000 in
theorem endsJ_any (A : Option Addr) (c : Nat) (p : List Prn) (B : Option Addr) (d : Nat) (j : List Jb) (C : Option Addr) (e0 : Nat) (plan : List (List Int)) (ch : Int) (w : World) (hp : Sl w 0 A p) (hj : Sl w 0 B j) (hpl : Sl w 0 C plan) (hok : POk p j plan ch) :
    Calls Tryz.prog 23 #[.slice A p.length c, .slice B j.length d, .slice C plan.length e0, .int .i64 ch] w fun e w' => ∃ g, e = .returned (.tuple #[.slice (some ⟨g, 0, none⟩) j.length j.length, .int .i64 (endF p j plan ch)]) ∧ Own w' w.heap.size 3 (some ⟨g, 0, none⟩) j.length (endsF p j plan ch) ∧ w.grownBy w' none := by
  have hj5 := hok.len
  have hch := hok.chg
  have hrw := hok.row
  have hpm := hpl.1
  unfold maxLen at hpm
  obtain ⟨i0, hi, hz, hi1, hi2⟩ := info_parts info_int
  obtain ⟨w2, hrun, hoO, hg2⟩ := run_makeOwn (P := Tryz.prog) w 22 3 i0 _ (0 : Int) Tryz.underlying22 hi hz hi1 rfl rfl .i64 .i64 j.length (by rw [hi2]; omega) (by simp [maxLen]; omega)
  clear hi hz hi1 hi2 i0
  obtain ⟨gs, hgs⟩ : ∃ g, g = w.heap.size := ⟨_, rfl⟩
  rw [← hgs] at hrun hoO
  have hgs0 : w.heap.size ≤ gs := by omega
  clear hgs
  replace hoO := hoO.lower hgs0
  replace hok := hide hok
  go_enter Tryz.func23, Tryz.ntmps23
  go_wp2_with fail
  clear hrun
  go_loopw [11, 22] (fun l i wr => ∃ k : Nat, k ≤ plan.length ∧ i = .int .i64 k ∧ l = .int .i64 (lastO (pairsK p j plan ch k)) ∧ Own wr w.heap.size 3 (some ⟨gs, 0, none⟩) j.length (outO j.length (pairsK p j plan ch k)) ∧ w.grownBy wr none) (fun _ i _ => plan.length - (intOf i).toNat)
  case atStart => exact ⟨0, Nat.zero_le _, rfl, rfl, hoO, hg2⟩
  case round =>
    clear hoO hg2
    obtain ⟨k, hk, rfl, rfl, hoO, hg⟩ := hrel
    by_cases hlt : k < plan.length
    · obtain ⟨g, o, Bk, dk, rfl, hb1, c0, hsl⟩ := sl_inner hpl hlt
      replace c0 := hg.k c0
      have hpk : k < p.length := by omega
      clear hrw
      obtain ⟨ga, oa, cx, rfl, _, hb2, rfl, hc⟩ := (hp.pure hg).at_ (by decide) hpk
      have d0 : wr.cell? ⟨ga, oa + k * 2, none⟩ = some (.string p[k].key) := hc 0 _ rfl
      have d1 : wr.cell? ⟨ga, oa + k * 2 + 1, none⟩ = some (.string p[k].mat) := hc 1 _ rfl
      clear hc
      have hps : pairsK p j plan ch (k + 1) = pairsK p j plan ch k ++ rowC j ch (0, p[k].mat) plan[k] := by rw [pairsK_succ]; unfold rowP; simp [List.getD, hlt, hpk]
      replace hps := hide hps
      have hin := hide (fun i hi => hok.out.ix i (row_in hlt i hi))
      have hln := hide (Nat.le_trans (row_len hlt) hok.out.few)
      obtain ⟨row, hrow⟩ : ∃ x, x = plan[k] := ⟨_, rfl⟩
      rw [← hrow] at c0 hsl hps hin hln
      clear hrow
      have hrm := hln.out
      generalize hPk : pairsK p j plan ch k = Pk at *
      clear hPk
      go_upto_region 7 with fail
      obtain ⟨w0, hw0⟩ : ∃ x, x = (wr).alloc (.cells [.int .i64 0, .string p[k].mat].toArray 50) := ⟨_, rfl⟩
      have hg0 : (wr).grownBy w0 none := by rw [hw0]; exact gr_alloc (World.grownBy.refl _ _) _
      have hb0 : Box w0 (wr).heap.size 50 [.int .i64 0, .string p[k].mat] := by rw [hw0]; exact Box.new _ _ _
      have hxs0 := hb0.lt
      rw [← hw0]
      clear hw0
      obtain ⟨x0, hx0⟩ : ∃ x, x = (wr).heap.size := ⟨_, rfl⟩
      rw [← hx0] at hb0 hxs0 ⊢
      have hxl0 : (wr).heap.size ≤ x0 := by omega
      clear hx0
      replace c0 := hg0.k c0
      have hx0 : w.heap.size ≤ x0 := Nat.le_trans hg.size hxl0
      replace hoO := hoO.pure hg0
      replace hg := gr_trans hg hg0
      clear hg0 d0 d1
      generalize hmt : p[k].mat = mat at *
      clear hmt
      go_wp2_with fail
      go_loopw [11, 35] (fun l i wr => ∃ m : Nat, m ≤ row.length ∧ i = .int .i64 m ∧ l = .int .i64 (lastO (Pk ++ rowC j ch (0, mat) (row.take m))) ∧ Own wr w.heap.size 3 (some ⟨gs, 0, none⟩) j.length (outO j.length (Pk ++ rowC j ch (0, mat) (row.take m))) ∧ Box wr x0 50 [.int .i64 (clkC j ch (0, mat) (row.take m)).1, .string (clkC j ch (0, mat) (row.take m)).2] ∧ w.grownBy wr none) (fun _ i _ => row.length - (intOf i).toNat)
      case atStart => exact ⟨0, Nat.zero_le _, rfl, by simp [rowC], by simpa [rowC] using hoO, hb0, hg⟩
      case round =>
        clear hoO hg hb0 c0
        obtain ⟨m, hmk, rfl, rfl, hoO, hb0, hg⟩ := hrel
        by_cases hml : m < row.length
        · obtain ⟨g2, o2, cx, rfl, _, hb2', rfl, hc⟩ := (hsl.pure hg).at_ (by decide) hml
          have r0 : _ := hc 0 _ rfl
          rw [show Enc.sz Int = 1 from rfl, Nat.mul_one, Nat.add_zero] at r0
          clear hc
          have hri := hin.out _ (List.getElem_mem hml)
          obtain ⟨x, hx⟩ := Int.eq_ofNat_of_zero_le hri.1
          have hxl : x < j.length := by omega
          have htk := take_snoc hml
          have hps2 : Hid (Pk ++ rowC j ch (0, mat) (row.take (m + 1)) = (Pk ++ rowC j ch (0, mat) (row.take m)) ++ [((x : Int), (doC (clkC j ch (0, mat) (row.take m)) j[x] ch).1)]) := by rw [Hid, htk, rowC_snoc, List.append_assoc, hx, jobAt_nat hxl]
          have hck2 : Hid (clkC j ch (0, mat) (row.take (m + 1)) = doC (clkC j ch (0, mat) (row.take m)) j[x] ch) := by rw [Hid, htk, clkC_snoc, hx, jobAt_nat hxl]
          have hbd := clkC_bd hok.out.toJOk (row.take m) (fun i hi => hin.out i (List.mem_of_mem_take hi)) (0, mat) (N := 0) (by simp)
          rw [List.length_take, Nat.min_eq_left hmk] at hbd
          obtain ⟨gj, oj, cx, rfl, _, hbj, rfl, hc⟩ := (hj.pure hg).at_ (by decide) hxl
          have hjb := hok.out.bd _ (List.getElem_mem hxl)
          rw [hx] at r0
          clear htk hri hx
          generalize hQ : Pk ++ rowC j ch (0, mat) (row.take m) = Q at *
          generalize hcl : clkC j ch (0, mat) (row.take m) = cl at *
          clear hQ hcl
          obtain ⟨cle, clm⟩ := cl
          have xb := hbd.1
          have xb2 := hbd.2
          simp only at xb xb2
          have j0 : wr.cell? ⟨gj, oj + x * 4, none⟩ = some (.string j[x].key) := hc 0 _ rfl
          have j1 : wr.cell? ⟨gj, oj + x * 4 + 1, none⟩ = some (.string j[x].mat) := hc 1 _ rfl
          have j2 : wr.cell? ⟨gj, oj + x * 4 + 2, none⟩ = some (.int .i64 j[x].min) := hc 2 _ rfl
          have j3 : wr.cell? ⟨gj, oj + x * 4 + 3, none⟩ = some (.int .i64 j[x].due) := hc 3 _ rfl
          clear hc
          generalize hY : j[x] = Y at *
          have hcd := clockDo_any cle clm Y ch
          obtain ⟨z, hz⟩ : ∃ z, z = doC (cle, clm) Y ch := ⟨_, rfl⟩
          rw [← hz] at hcd hck2 hps2
          clear hz
          go_upto_region 10 with fail
          refine wp_region_tree (fun wx => wr.grownBy wx none) [1, 2, 2, 2, 1, 2, 0, 0] (.bl 0 (.bl 1 (.bl 2 (.bl 3 (.bl 4 (.bl 5 (.ef 6 (.ef 7 .done)))))))) (by kernel_rfl) (by kernel_rfl) (gr_drew (World.grownBy.refl _ _)) ?_
          obtain ⟨W1, hW1⟩ : ∃ x, x = (wr).drew := ⟨_, rfl⟩
          rw [← hW1]
          have hgW1 : (wr).grownBy W1 none := by rw [hW1]; exact gr_drew (World.grownBy.refl _ _)
          clear hW1
          refine tree_b rfl rfl rfl rfl _ rfl (by simp) (fun K hK => ?_)
          apply Exists.intro
          refine ⟨fun wq hq K' hK' => ?_, ?_⟩
          · have jj0 := hq.k j0
            have jj1 := hq.k j1
            have jj2 := hq.k j2
            have jj3 := hq.k j3
            have ⟨bb0, _⟩ := (hb0.pure hq).c 0 rfl
            have ⟨bb1, _⟩ := (hb0.pure hq).c 1 rfl
            go_wp2_with fail
            exact hK'
          go_simp
          refine hK _ ?_
          clear hK K
          refine tree_p rfl rfl rfl rfl _ rfl (by simp) (fun K hK => ?_)
          apply Exists.intro
          refine ⟨fun wq K' hK' => ?_, ?_⟩
          · go_wp2_with fail
            exact hK'
          go_simp
          refine hK _ ?_
          clear hK K
          refine tree_p rfl rfl rfl rfl _ rfl (by simp) (fun K hK => ?_)
          apply Exists.intro
          refine ⟨fun wq K' hK' => ?_, ?_⟩
          · go_wp2_with fail
            exact hK'
          go_simp
          refine hK _ ?_
          clear hK K
          refine tree_p rfl rfl rfl rfl _ rfl (by simp) (fun K hK => ?_)
          apply Exists.intro
          refine ⟨fun wq K' hK' => ?_, ?_⟩
          · go_wp2_with fail
            exact hK'
          go_simp
          refine hK _ ?_
          clear hK K
          refine tree_b rfl rfl rfl rfl _ rfl (by simp) (fun K hK => ?_)
          apply Exists.intro
          refine ⟨fun wq hq K' hK' => ?_, ?_⟩
          · have jj0 := hq.k j0
            have jj1 := hq.k j1
            have jj2 := hq.k j2
            have jj3 := hq.k j3
            have ⟨bb0, _⟩ := (hb0.pure hq).c 0 rfl
            have ⟨bb1, _⟩ := (hb0.pure hq).c 1 rfl
            go_wp2_with fail
            exact hK'
          go_simp
          refine hK _ ?_
          clear hK K
          refine tree_p rfl rfl rfl rfl _ rfl (by simp) (fun K hK => ?_)
          apply Exists.intro
          refine ⟨fun wq K' hK' => ?_, ?_⟩
          · go_wp2_with fail
            exact hK'
          go_simp
          refine hK _ ?_
          clear hK K
          refine tree_e0 (by kernel_rfl) rfl rfl (fun K hK => ?_)
          go_wp2_with fail
          refine (hcd W1 ?_ ?_ ?_).mono ?_
          · omega
          · omega
          · omega
          rintro e w6 ⟨rfl, hg6⟩
          have hg6w := gr_trans hgW1 hg6
          go_wp2_with fail
          try go_simp
          refine hK _ _ trivial ?_
          clear hK K
          refine tree_e0 (by kernel_rfl) rfl rfl (fun K hK => ?_)
          have hb6 := hb0.pure hg6w
          obtain ⟨y0, z0⟩ := hb6.c 0 rfl
          obtain ⟨y1, z1⟩ := hb6.c 1 rfl
          go_wp2_with fail
          try go_simp
          refine hK _ _ trivial ?_
          clear hK K
          refine tree_done ?_
          have hoO6 := hoO.pure hg6w
          have hne := hb6.ne_own hoO6 (by decide)
          obtain ⟨w8, hw8⟩ : ∃ x, x = (w6.setCell ⟨x0, 0, none⟩ (.int .i64 z.1)).setCell ⟨x0, 1, none⟩ (.string z.2) := ⟨_, rfl⟩
          have hb8 : Box w8 x0 50 [.int .i64 z.1, .string z.2] := by rw [hw8]; exact (hb6.set_ 0 _ (by simp)).set_ 1 _ (by simp)
          have hoO8 : Own w8 w.heap.size 3 (some ⟨gs, 0, none⟩) j.length (outO j.length Q) := by rw [hw8]; exact (hoO6.set_other _ hne).set_other _ hne
          have hg8 : w.grownBy w8 none := by rw [hw8]; exact gr_set (gr_set (gr_trans hg hg6w) (.inr hx0) _) (.inr hx0) _
          rw [← hw8]
          clear hw8 y0 y1 z0 z1 hb6 hoO6 hg6w hg6 hgW1 hcd j0 j1 j2 j3 r0 hb0 hg hoO hY hjb xb xb2 hbd hne
          obtain ⟨y0, z0⟩ := hb8.c 0 rfl
          obtain ⟨y1, z1⟩ := hb8.c 1 rfl
          have hlO : x < (outO j.length Q).length := by rw [outO_len]; exact hxl
          have o0 := hoO8.cell_int hlO
          have of := hoO8.frozen x
          have hoO9 := hoO8.set_int x z.1
          have hb9 := hb8.set_other (g' := gs) (i := x) (.int .i64 z.1) (fun e => hb8.ne_own hoO8 (by decide) (by rw [e]; rfl))
          have hg9 := gr_set hg8 (p := ⟨gs, x, none⟩) (.inr hgs0) (.int .i64 z.1)
          obtain ⟨y2, z2⟩ := hb9.c 0 rfl
          obtain ⟨y3, z3⟩ := hb9.c 1 rfl
          go_wp2_with fail
          (go_roundw; (case rel => exact ⟨m + 1, by omega, by go_num, by rw [hps2.out, lastO_snoc], by rw [hps2.out, outO_snoc]; exact hoO9, by rw [hck2.out]; exact hb9, hg9⟩); (case measure => simp [intOf]; omega))
        · have hm2 : m = row.length := by omega
          subst hm2
          rw [List.take_length] at hoO hb0 ⊢
          rw [← hps.out] at hoO ⊢
          go_wp2_with fail
          (go_roundw; (case rel => exact ⟨k + 1, by omega, by go_num, rfl, hoO, hg⟩); (case measure => simp [intOf]; omega))
    · have hke : k = plan.length := by omega
      subst hke
      go_wp2_with fail
      refine bodyPost_ret (v := .tuple #[.slice (some ⟨gs, 0, none⟩) j.length j.length, .int .i64 (lastO (pairsK p j plan ch plan.length))]) (by simp [results, Tryz.results23, go_sem]) rfl ⟨gs, rfl, hoO, hg⟩

end Go.Proofs.YtcjocckpbgihcaaGreatDoor

namespace Go.Proofs.YtcjocckpbgihcaaGreatDoor
open Go Go.RowKit Go.Bl

def endsL (p : List Prn) (j : List Jb) (plan : List (List Int)) (ch : Int) : List Int := if plannedF p j plan ch = 0 then endsF p j plan ch else []

def endsN (p : List Prn) (j : List Jb) (plan : List (List Int)) (ch : Int) : Int := if plannedF p j plan ch = 0 then endF p j plan ch else 0

theorem endsF_len (p : List Prn) (j : List Jb) (plan : List (List Int)) (ch : Int) : (endsF p j plan ch).length = j.length := outO_len _ _

set_option maxHeartbeats 1000000 in
theorem endsTop_any (A : Option Addr) (c : Nat) (p : List Prn) (B : Option Addr) (d : Nat) (j : List Jb) (C : Option Addr) (e0 : Nat) (plan : List (List Int)) (ch : Int) (w : World) (hp : Sl w 0 A p) (hj : Sl w 0 B j) (hpl : Sl w 0 C plan) :
    Calls Tryz.prog 26 #[.slice A p.length c, .slice B j.length d, .slice C plan.length e0, .int .i64 ch] w fun e w' => ∃ A' c', e = .returned (.tuple #[.slice A' (endsL p j plan ch).length c', .int .i64 (endsN p j plan ch), .int .i64 (plannedF p j plan ch)]) ∧ Sl w' 0 A' (endsL p j plan ch) ∧ w.grownBy w' none := by
  have hPl := planned_any A c p B d j C e0 plan ch w hp hj hpl
  by_cases h0 : plannedF p j plan ch = 0
  · have hE : endsL p j plan ch = endsF p j plan ch := if_pos h0
    have hN : endsN p j plan ch = endF p j plan ch := if_pos h0
    rw [hE, hN]
    have hok := pok_of h0
    rw [h0] at hPl ⊢
    clear h0 hE hN
    have hel := endsF_len p j plan ch
    rw [hel]
    replace hel := hide hel
    replace hok := hide hok
    go_enter Tryz.func26, Tryz.ntmps26
    go_wp2_with fail
    refine hPl.mono ?_
    rintro e w1 ⟨rfl, hg1⟩
    go_wp2_with fail
    refine (endsJ_any _ _ _ _ _ _ _ _ _ _ _ (hp.pure hg1) (hj.pure hg1) (hpl.pure hg1) hok.out).mono ?_
    rintro e w2 ⟨g, rfl, ho, hg2⟩
    go_wp2_with fail
    exact bodyPost_ret (v := .tuple #[.slice (some ⟨g, 0, none⟩) j.length j.length, .int .i64 (endF p j plan ch), .int .i64 0]) (by simp [results, Tryz.results26, go_sem]) rfl ⟨_, _, rfl, ho.sl.mono (Nat.zero_le _), gr_trans hg1 hg2⟩
  · have hE : endsL p j plan ch = [] := if_neg h0
    have hN : endsN p j plan ch = 0 := if_neg h0
    rw [hE, hN]
    clear hE hN
    generalize plannedF p j plan ch = F at *
    have hb : (F != 0) = true := by simp [h0]
    clear h0
    go_enter Tryz.func26, Tryz.ntmps26
    go_wp2_with fail
    refine hPl.mono ?_
    rintro e w1 ⟨rfl, hg1⟩
    go_wp2_with fail
    exact bodyPost_ret (v := .tuple #[.slice none 0 0, .int .i64 0, .int .i64 F]) (by simp [results, Tryz.results26, go_sem]) rfl ⟨_, _, rfl, Sl.nil, hg1⟩

def endV (j : List Jb) (ch : Int) (m : ByteArray) (row : List Int) : List Int := (rowC j ch (0, m) row).map (·.2)

theorem endV_snoc (j : List Jb) (ch : Int) (m : ByteArray) (row : List Int) (i : Int) : endV j ch m (row ++ [i]) = endV j ch m row ++ [(doC (clkC j ch (0, m) row) (jobAt j i) ch).1] := by unfold endV; rw [rowC_snoc, List.map_append]; rfl

theorem rowC_len (j : List Jb) (ch : Int) : ∀ (c : Int × ByteArray) (row : List Int), (rowC j ch c row).length = row.length
  | _, [] => rfl
  | c, i :: r => by simp [rowC, rowC_len j ch _ r]

theorem endV_len (j : List Jb) (ch : Int) (m : ByteArray) (row : List Int) : (endV j ch m row).length = row.length := by simp [endV, rowC_len]

end Go.Proofs.YtcjocckpbgihcaaGreatDoor

namespace Go.Proofs.YtcjocckpbgihcaaGreatDoor
open Go Go.RowKit Go.Bl

theorem rowC_fst (j : List Jb) (ch : Int) : ∀ (c : Int × ByteArray) (row : List Int), (rowC j ch c row).map (·.1) = row
  | _, [] => rfl
  | c, i :: r => by simp [rowC, rowC_fst j ch _ r]

theorem rowC_get {j : List Jb} {ch : Int} {mat : ByteArray} {row : List Int} {m : Nat} (hm : m < row.length) : (rowC j ch (0, mat) row)[m]'(by rw [rowC_len]; exact hm) = (row[m], (endV j ch mat row)[m]'(by rw [endV_len]; exact hm)) := by
  have h1 := rowC_fst j ch (0, mat) row
  have e1 : row[m] = ((rowC j ch (0, mat) row)[m]'(by rw [rowC_len]; exact hm)).1 := by
    have : row[m]? = ((rowC j ch (0, mat) row).map (·.1))[m]? := by rw [h1]
    rw [List.getElem?_eq_getElem hm, List.getElem?_map, List.getElem?_eq_getElem (by rw [rowC_len]; exact hm)] at this
    simpa using this
  rw [e1]
  unfold endV
  rw [List.getElem_map]

end Go.Proofs.YtcjocckpbgihcaaGreatDoor

namespace Go.Proofs.YtcjocckpbgihcaaGreatDoor
open Go Go.RowKit Go.Bl

theorem info_str : (Tryz.prog.info? 9).map (fun i => (i.zero, i.size, i.bytes)) = some (some (.string ByteArray.empty), 1, 16) := by kernel_rfl

def lateS (E : List Int) (j : List Jb) : Nat → Int
  | 0 => 0
  | k + 1 => if E.getD k 0 > (j.getD k default).due then lateS E j k + (E.getD k 0 - (j.getD k default).due) else lateS E j k

def lateL (E : List Int) (j : List Jb) : Nat → List ByteArray
  | 0 => []
  | k + 1 => if E.getD k 0 > (j.getD k default).due then lateL E j k ++ [(j.getD k default).key] else lateL E j k

theorem lateS_at {E : List Int} {j : List Jb} {k : Nat} (h1 : k < E.length) (h2 : k < j.length) : lateS E j (k + 1) = if E[k] > j[k].due then lateS E j k + (E[k] - j[k].due) else lateS E j k := by
  simp only [lateS, List.getD_eq_getElem?_getD, List.getElem?_eq_getElem h1, List.getElem?_eq_getElem h2, Option.getD_some]

theorem lateL_at {E : List Int} {j : List Jb} {k : Nat} (h1 : k < E.length) (h2 : k < j.length) : lateL E j (k + 1) = if E[k] > j[k].due then lateL E j k ++ [j[k].key] else lateL E j k := by
  simp only [lateL, List.getD_eq_getElem?_getD, List.getElem?_eq_getElem h1, List.getElem?_eq_getElem h2, Option.getD_some]

theorem lateL_len (E : List Int) (j : List Jb) : ∀ k, (lateL E j k).length ≤ k
  | 0 => by simp [lateL]
  | k + 1 => by
    have := lateL_len E j k
    unfold lateL; split <;> simp <;> omega

theorem lateS_bd {E : List Int} {j : List Jb} (hE : ∀ e ∈ E, 0 ≤ e ∧ e ≤ 100000000) (hl : E.length = j.length) (hj : ∀ x ∈ j, 0 ≤ x.due) : ∀ k, k ≤ j.length → 0 ≤ lateS E j k ∧ lateS E j k ≤ 100000000 * k
  | 0, _ => by simp [lateS]
  | k + 1, hk => by
    have ih := lateS_bd hE hl hj k (by omega)
    have h1 : k < E.length := by omega
    have h2 : k < j.length := by omega
    rw [lateS_at h1 h2]
    have b1 := hE _ (List.getElem_mem h1)
    have b2 := hj _ (List.getElem_mem h2)
    split <;> (constructor <;> push_cast <;> omega)

theorem rowC_bd {j : List Jb} {ch : Int} (h : JOk j ch) : ∀ (row : List Int) (_ : ∀ i ∈ row, 0 ≤ i ∧ i < (j.length : Int)) (c : Int × ByteArray) {N : Int} (_ : 0 ≤ c.1 ∧ c.1 ≤ N), ∀ q ∈ rowC j ch c row, 0 ≤ q.2 ∧ q.2 ≤ N + 200000 * row.length
  | [], _, c, N, hc => by simp [rowC]
  | i :: r, hr, c, N, hc => by
    have h1 := doC_bd h (hr i (by simp)) hc
    have ih := rowC_bd h r (fun k hk => hr k (by simp [hk])) (doC c (jobAt j i) ch) h1
    intro q hq
    rw [rowC, List.mem_cons] at hq
    rw [List.length_cons]
    rcases hq with rfl | hq
    · constructor
      · exact h1.1
      · have := h1.2; push_cast; omega
    · have := ih q hq
      constructor
      · exact this.1
      · have := this.2; push_cast; omega

theorem outO_bd {n : Nat} {N : Int} (hN : 0 ≤ N) : ∀ (L : List (Int × Int)) (_ : ∀ q ∈ L, 0 ≤ q.2 ∧ q.2 ≤ N), ∀ e ∈ outO n L, 0 ≤ e ∧ e ≤ N := by
  have : ∀ (L : List (Int × Int)) (o : List Int), (∀ q ∈ L, 0 ≤ q.2 ∧ q.2 ≤ N) → (∀ e ∈ o, 0 ≤ e ∧ e ≤ N) → ∀ e ∈ L.foldl (fun o q => o.set q.1.toNat q.2) o, 0 ≤ e ∧ e ≤ N := by
    intro L
    induction L with
    | nil => intro o _ h; exact h
    | cons q L ih =>
      intro o hL ho
      rw [List.foldl_cons]
      refine ih _ (fun q hq => hL q (by simp [hq])) fun e he => ?_
      rcases List.mem_or_eq_of_mem_set he with h | h
      · exact ho e h
      · rw [h]; exact hL q (by simp)
  intro L hL
  exact this L _ hL (fun e he => by have := List.eq_of_mem_replicate he; omega)

theorem pairsK_bd {p : List Prn} {j : List Jb} {plan : List (List Int)} {ch : Int} (h : POk p j plan ch) (k : Nat) : ∀ q ∈ pairsK p j plan ch k, 0 ≤ q.2 ∧ q.2 ≤ 100000000 := by
  intro q hq
  unfold pairsK at hq
  rw [List.mem_flatten] at hq
  obtain ⟨l, hl, hq⟩ := hq
  obtain ⟨i, _, rfl⟩ := List.mem_map.1 hl
  unfold rowP at hq
  by_cases hi : i < plan.length
  · have e : plan.getD i [] = plan[i] := by simp [List.getD, hi]
    rw [e] at hq
    have := rowC_bd h.toJOk plan[i] (fun x hx => h.ix x (row_in hi x hx)) (0, (p.getD i default).mat) (N := 0) (by simp) q hq
    have h2 := Nat.le_trans (row_len hi) h.few
    omega
  · have e : plan.getD i [] = [] := by simp [List.getD, hi]
    rw [e] at hq
    simp [rowC] at hq

theorem endsF_bd {p : List Prn} {j : List Jb} {plan : List (List Int)} {ch : Int} (h : POk p j plan ch) : ∀ e ∈ endsF p j plan ch, 0 ≤ e ∧ e ≤ 100000000 := outO_bd (by decide) _ (pairsK_bd h _)

def lateT (p : List Prn) (j : List Jb) (plan : List (List Int)) (ch : Int) : Int := if plannedF p j plan ch = 0 then lateS (endsF p j plan ch) j j.length else 0

def lateM (p : List Prn) (j : List Jb) (plan : List (List Int)) (ch : Int) : List ByteArray := if plannedF p j plan ch = 0 then lateL (endsF p j plan ch) j j.length else []

set_option maxHeartbeats 4000000 in
set_option maxRecDepth 100000 in
theorem late_any (A : Option Addr) (c : Nat) (p : List Prn) (B : Option Addr) (d : Nat) (j : List Jb) (C : Option Addr) (e0 : Nat) (plan : List (List Int)) (ch : Int) (w : World) (hp : Sl w 0 A p) (hj : Sl w 0 B j) (hpl : Sl w 0 C plan) :
    Calls Tryz.prog 8 #[.slice A p.length c, .slice B j.length d, .slice C plan.length e0, .int .i64 ch] w fun e w' => ∃ A' c', e = .returned (.tuple #[.int .i64 (lateT p j plan ch), .slice A' (lateM p j plan ch).length c', .int .i64 (plannedF p j plan ch)]) ∧ Sl w' 0 A' (lateM p j plan ch) ∧ w.grownBy w' none := by
  have hPl := planned_any A c p B d j C e0 plan ch w hp hj hpl
  by_cases h0 : plannedF p j plan ch = 0
  · have hE : lateT p j plan ch = lateS (endsF p j plan ch) j j.length := if_pos h0
    have hN : lateM p j plan ch = lateL (endsF p j plan ch) j j.length := if_pos h0
    rw [hE, hN]
    have hok := pok_of h0
    rw [h0] at hPl ⊢
    clear h0 hE hN
    have hEl := hide (endsF_len p j plan ch)
    have hEb := hide (endsF_bd hok)
    have hj5 := hok.len
    have hch := hok.chg
    replace hok := hide hok
    go_enter Tryz.func8, Tryz.ntmps8
    go_wp2_with fail
    refine hPl.mono ?_
    rintro e w1 ⟨rfl, hg1⟩
    go_wp2_with fail
    refine (endsJ_any _ _ _ _ _ _ _ _ _ _ _ (hp.pure hg1) (hj.pure hg1) (hpl.pure hg1) hok.out).mono ?_
    rintro e w2 ⟨g, rfl, ho, hg2⟩
    have hgw2 := gr_trans hg1 hg2
    have hE0 := ho.sl.mono (Nat.zero_le _)
    generalize hEE : endsF p j plan ch = E at *
    replace hEE := hide hEE
    clear ho hg1 hg2 hPl
    go_wp2_with fail
    have hE : ∀ e ∈ E, 0 ≤ e ∧ e ≤ 100000000 := hEb.out
    have hbd := hide (fun k hk => lateS_bd hE hEl.out (fun x hx => (hok.out.bd x hx).2.2.1) k hk)
    clear hE
    go_loopw [14, 15, 36] (fun s l i wr => ∃ (k : Nat) (A' : Option Addr) (c' : Nat), k ≤ j.length ∧ i = .int .i64 k ∧ s = .int .i64 (lateS E j k) ∧ l = .slice A' (lateL E j k).length c' ∧ Own wr w2.heap.size 9 A' c' (lateL E j k) ∧ w2.grownBy wr none) (fun _ _ i _ => j.length - (intOf i).toNat)
    case atStart => exact ⟨0, none, 0, Nat.zero_le _, rfl, rfl, rfl, Own.nil _ _ _, World.grownBy.refl _ _⟩
    case round =>
      obtain ⟨k, A', c', hk, rfl, rfl, rfl, hown, hg⟩ := hrel
      have hgw := gr_trans hgw2 hg
      by_cases hlt : k < j.length
      · have hltE : k < E.length := by rw [hEl.out]; exact hlt
        obtain ⟨gj, oj, cx, rfl, _, hbj, rfl, hc⟩ := (hj.pure hgw).at_ (by decide) hlt
        have j0 : wr.cell? ⟨gj, oj + k * 4, none⟩ = some (.string j[k].key) := hc 0 _ rfl
        have j1 : wr.cell? ⟨gj, oj + k * 4 + 1, none⟩ = some (.string j[k].mat) := hc 1 _ rfl
        have j2 : wr.cell? ⟨gj, oj + k * 4 + 2, none⟩ = some (.int .i64 j[k].min) := hc 2 _ rfl
        have j3 : wr.cell? ⟨gj, oj + k * 4 + 3, none⟩ = some (.int .i64 j[k].due) := hc 3 _ rfl
        clear hc
        obtain ⟨g3, o3, cx, e3, _, hb3', rfl, hc⟩ := (hE0.pure hg).at_ (by decide) hltE
        injection e3 with e3
        injection e3 with e3 e4
        subst e3
        subst e4
        have r1 : _ := hc 0 _ rfl
        rw [show Enc.sz Int = 1 from rfl, Nat.mul_one, Nat.add_zero, Nat.zero_add] at r1
        clear hc
        have hS := lateS_at hltE hlt
        have hL := lateL_at hltE hlt
        have hSb := hbd.out k hk
        have hll := lateL_len E j k
        have hEk := hEb.out _ (List.getElem_mem hltE)
        have hdk := hok.out.bd _ (List.getElem_mem hlt)
        generalize lateS E j k = S at *
        generalize lateL E j k = L at *
        generalize E[k] = e at *
        generalize j[k] = Y at *
        have hgm := hg.size
        go_wp2_with fail
        obtain ⟨w9, hw9⟩ : ∃ x, x = (wr).alloc (.cells [.string Y.key, .string Y.mat, .int .i64 Y.min, .int .i64 Y.due].toArray 53) := ⟨_, rfl⟩
        have hg9 : (wr).grownBy w9 none := by rw [hw9]; exact gr_alloc (World.grownBy.refl _ _) _
        have hb9 : Box w9 (wr).heap.size 53 [.string Y.key, .string Y.mat, .int .i64 Y.min, .int .i64 Y.due] := by rw [hw9]; exact Box.new _ _ _
        have hxs9 := hb9.lt
        rw [← hw9]
        clear hw9
        obtain ⟨x9, hx9⟩ : ∃ x, x = (wr).heap.size := ⟨_, rfl⟩
        rw [← hx9] at hb9 hxs9 ⊢
        have hxl9 : (wr).heap.size ≤ x9 := by omega
        clear hx9
        obtain ⟨y0, _⟩ := hb9.c 0 rfl
        obtain ⟨y3, _⟩ := hb9.c 3 rfl
        replace r1 := hg9.k r1
        replace hg := gr_trans hg hg9
        replace hown := hown.pure hg9
        clear hgw j0 j1 j2 j3 hg9 hb9
        by_cases hgt : e > Y.due
        · have hb : decide (e > Y.due) = true := by simp [hgt]
          rw [if_pos hgt] at hS hL
          replace hS := hide hS
          replace hL := hide hL
          clear hgt
          go_quiet (fail)
          go_wp2_with fail
          go_quiet (fail)
          go_wp2_with (at_builtin; obtain ⟨i0, hi, hz, hi1, hi2⟩ := info_parts info_str; refine wpList_push (α := ByteArray) _ rfl (.tmp 57) (.tmp 60) _ rfl w2.heap.size 9 i0 _ 16 Tryz.underlying36 hi hz hi1 hi2 rfl _ _ _ L rfl ?c1 (by exact hown.pure (by repeat (first | exact World.grownBy.refl _ _ | assumption | refine gr_alloc ?_ _ | (apply gr_tail; assumption) | refine gr_drewN ?_ _ | refine gr_drew ?_))) 0 ⟨_, 0, none⟩ 1 1 [Y.key] rfl rfl (by exact sl_oneAt _ 0 _ _ _ _ (by first | rfl | simp) (Nat.zero_le _) rfl) ?c2 ?c3 ?c4 ?_)
          case c1 => rfl
          case c2 => first | omega | (simp; omega)
          case c3 => first | (simp [maxLen]; omega) | (unfold maxLen; omega)
          case c4 => first | omega | (simp; omega)
          intro A5 c5 w5 hown5 hup5
          have hg5 : w2.grownBy w5 none := hup5.gr (Nat.le_refl _) (by first | exact (by repeat (first | exact World.grownBy.refl _ _ | assumption | refine gr_alloc ?_ _ | (apply gr_tail; assumption) | refine gr_drewN ?_ _ | refine gr_drew ?_)) | exact gr_alloc (by repeat (first | exact World.grownBy.refl _ _ | assumption | refine gr_alloc ?_ _ | (apply gr_tail; assumption) | refine gr_drewN ?_ _ | refine gr_drew ?_)) _)
          have hl5 : Hid ((lateL E j (k + 1)).length = L.length + 1) := by rw [Hid, hL.out]; simp
          rw [← hL.out] at hown5
          go_wp2
          (go_roundw; (case rel => exact ⟨k + 1, A5, c5, by omega, by go_num, by rw [hS.out], by rw [hl5.out], hown5, hg5⟩); (case measure => simp [intOf]; omega))
        · have hb : decide (e > Y.due) = false := by simp; omega
          rw [if_neg hgt] at hS hL
          replace hS := hide hS
          replace hL := hide hL
          clear hgt
          go_quiet (fail)
          go_wp2_with fail
          (go_roundw; (case rel => exact ⟨k + 1, A', c', by omega, by go_num, by rw [hS.out], by rw [hL.out], by rw [hL.out]; exact hown.pure (by repeat (first | exact World.grownBy.refl _ _ | assumption | refine gr_alloc ?_ _ | (apply gr_tail; assumption) | refine gr_drewN ?_ _ | refine gr_drew ?_)), by exact (by repeat (first | exact World.grownBy.refl _ _ | assumption | refine gr_alloc ?_ _ | (apply gr_tail; assumption) | refine gr_drewN ?_ _ | refine gr_drew ?_))⟩); (case measure => simp [intOf]; omega))
      · have hke : k = j.length := by omega
        subst hke
        go_wp2_with fail
        have hEE := hEE.out
        subst hEE
        refine bodyPost_ret (v := .tuple #[.int .i64 (lateS (endsF p j plan ch) j j.length), .slice A' (lateL (endsF p j plan ch) j j.length).length c', .int .i64 0]) (by simp [results, Tryz.results8, go_sem]) rfl ⟨_, _, rfl, hown.sl.mono (Nat.zero_le _), hgw⟩
  · have hE : lateT p j plan ch = 0 := if_neg h0
    have hN : lateM p j plan ch = [] := if_neg h0
    rw [hE, hN]
    clear hE hN
    generalize plannedF p j plan ch = F at *
    have hb : (F != 0) = true := by simp [h0]
    clear h0
    go_enter Tryz.func8, Tryz.ntmps8
    go_wp2_with fail
    refine hPl.mono ?_
    rintro e w1 ⟨rfl, hg1⟩
    go_wp2_with fail
    exact bodyPost_ret (v := .tuple #[.int .i64 0, .slice none 0 0, .int .i64 F]) (by simp [results, Tryz.results8, go_sem]) rfl ⟨_, _, rfl, Sl.nil, hg1⟩

end Go.Proofs.YtcjocckpbgihcaaGreatDoor

namespace Go.Proofs.YtcjocckpbgihcaaGreatDoor
open Go Go.RowKit Go.Bl

def sumM (j : List Jb) (k : Nat) : Int := ((j.take k).map (·.min)).sum

def mostM (j : List Jb) (k : Nat) : Int := ((j.take k).map (·.min)).foldl max 0

def boundF (p : List Prn) (j : List Jb) : Int := max (mostM j j.length) ((sumM j j.length + p.length - 1) / p.length)

def boundT (p : List Prn) (j : List Jb) : Int := if farmF p j = 0 then boundF p j else 0

theorem sumM_snoc {j : List Jb} {k : Nat} (h : k < j.length) : sumM j (k + 1) = sumM j k + j[k].min := by
  unfold sumM; rw [take_snoc h, List.map_append, List.sum_append]; simp

theorem mostM_snoc {j : List Jb} {k : Nat} (h : k < j.length) : mostM j (k + 1) = max (mostM j k) j[k].min := by
  unfold mostM; rw [take_snoc h, List.map_append, List.foldl_append]; simp

theorem sumM_bd {j : List Jb} {ch : Int} (hok : JOk j ch) : ∀ k, k ≤ j.length → 0 ≤ sumM j k ∧ sumM j k ≤ 100000 * k
  | 0, _ => by simp [sumM]
  | k + 1, h => by
    have ih := sumM_bd hok k (by omega)
    have := hok.bd _ (List.getElem_mem (show k < j.length by omega))
    rw [sumM_snoc (by omega)]
    constructor <;> (push_cast; omega)

theorem mostM_bd {j : List Jb} {ch : Int} (hok : JOk j ch) : ∀ k, k ≤ j.length → 0 ≤ mostM j k ∧ mostM j k ≤ 100000
  | 0, _ => by simp [mostM]
  | k + 1, h => by
    have ih := mostM_bd hok k (by omega)
    have := hok.bd _ (List.getElem_mem (show k < j.length by omega))
    rw [mostM_snoc (by omega)]
    omega

theorem farm_plen {p : List Prn} {j : List Jb} (h : farmF p j = 0) : 0 < p.length ∧ p.length ≤ 50 := by
  unfold farmF at h
  by_cases hz : prnsF p = 0
  · unfold prnsF at hz
    by_cases h1 : p.length = 0
    · rw [if_pos h1] at hz; cases hz
    · rw [if_neg h1] at hz
      by_cases h2 : 50 < p.length
      · rw [if_pos h2] at hz; cases hz
      · omega
  · rw [if_neg hz] at h; exact absurd h hz

theorem div_up {s n : Int} (hs : 0 ≤ s) (hn : 0 < n) : (s + n - 1) / n = s / n + (if decide (s % n > 0) then 1 else 0) := by
  have h1 := Int.emod_nonneg s (show n ≠ 0 by omega)
  have h2 := Int.emod_lt_of_pos s hn
  have h3 := Int.emod_add_mul_ediv s n
  generalize s % n = r at *
  generalize s / n = q at *
  have : s + n - 1 = (r + n - 1) + n * q := by omega
  rw [this, Int.add_mul_ediv_left _ _ (by omega)]
  by_cases hr : r > 0
  · have : (r + n - 1) / n = 1 := by
      rw [show r + n - 1 = (r - 1) + n * 1 by omega, Int.add_mul_ediv_left _ _ (by omega), Int.ediv_eq_zero_of_lt (by omega) (by omega)]; rfl
    simp [this, hr]; omega
  · have : (r + n - 1) / n = 0 := Int.ediv_eq_zero_of_lt (by omega) (by omega)
    simp [this, hr]

end Go.Proofs.YtcjocckpbgihcaaGreatDoor

namespace Go.Proofs.YtcjocckpbgihcaaGreatDoor
open Go Go.RowKit Go.Bl

/-- the minutes that a row of jobs is late, from a clock on -/
def lateR (j : List Jb) (ch : Int) (c : Int × ByteArray) : List Int → Int
  | [] => 0
  | i :: r => max 0 ((doC c (jobAt j i) ch).1 - (jobAt j i).due) + lateR j ch (doC c (jobAt j i) ch) r

def stepO (f : List Int → Int) (s : List Int × Int) (o : List Int) : List Int × Int := if s.2 < 0 ∨ f o < s.2 then (o, f o) else s

def moreL (g : List Int → List Int × Int → List Int × Int) (o : List Int) (s : List Int × Int) : Nat → List Int × Int
  | 0 => s
  | m + 1 => if (m : Int) ∈ o then moreL g o s m else g (o ++ [(m : Int)]) (moreL g o s m)

def moreS (f : List Int → Int) (n : Nat) : Nat → List Int → List Int × Int → List Int × Int
  | 0, o, s => stepO f s o
  | k + 1, o, s => moreL (moreS f n k) o s n

structure IsP (n : Nat) (o : List Int) : Prop where
  nd : o.Nodup
  bd : ∀ i ∈ o, 0 ≤ i ∧ i < (n : Int)
/-- what the search has found: nothing yet, or an order and how late it is -/
def Fnd (f : List Int → Int) (n : Nat) (s : List Int × Int) : Prop := s.2 < 0 ∨ (IsP n s.1 ∧ s.1.length = n ∧ s.2 = f s.1)

theorem stepO_fnd {f : List Int → Int} {n : Nat} {s : List Int × Int} {o : List Int} (hf : ∀ o, 0 ≤ f o) (hs : Fnd f n s) (ho : IsP n o) (hl : o.length = n) :
    Fnd f n (stepO f s o) ∧ 0 ≤ (stepO f s o).2 ∧ (0 ≤ s.2 → (stepO f s o).2 ≤ s.2) ∧ (stepO f s o).2 ≤ f o := by
  have h0 := hf o
  unfold stepO
  by_cases h : s.2 < 0 ∨ f o < s.2
  · rw [if_pos h]
    exact ⟨.inr ⟨ho, hl, rfl⟩, h0, fun _ => by simp only; omega, Int.le_refl _⟩
  · rw [if_neg h]
    exact ⟨hs, by omega, fun _ => Int.le_refl _, by omega⟩

theorem moreS_spec {f : List Int → Int} {n : Nat} (hf : ∀ o, 0 ≤ f o) : ∀ (k : Nat) (o : List Int) (s : List Int × Int), IsP n o → o.length + k = n → Fnd f n s →
    Fnd f n (moreS f n k o s) ∧ (0 ≤ s.2 → (moreS f n k o s).2 ≤ s.2 ∧ 0 ≤ (moreS f n k o s).2) ∧ ∀ r, IsP n (o ++ r) → (o ++ r).length = n → (moreS f n k o s).2 ≤ f (o ++ r) ∧ 0 ≤ (moreS f n k o s).2
  | 0, o, s, ho, hl, hs => by
    obtain ⟨h1, h2, h3, h4⟩ := stepO_fnd hf hs ho (by omega)
    refine ⟨h1, fun h => ⟨h3 h, h2⟩, fun r _ hr => ?_⟩
    have : r = [] := by
      rw [List.length_append] at hr
      exact List.eq_nil_of_length_eq_zero (by omega)
    subst this
    rw [List.append_nil]
    exact ⟨h4, h2⟩
  | k + 1, o, s, ho, hl, hs => by
    have hsn : ∀ m : Nat, m < n → (m : Int) ∉ o → IsP n (o ++ [(m : Int)]) := fun m hm hn => by
      refine ⟨?_, fun i hi => ?_⟩
      · rw [List.nodup_append]
        refine ⟨ho.nd, by simp, fun a ha b hb => ?_⟩
        rw [List.mem_singleton] at hb
        subst hb
        exact fun e => hn (e ▸ ha)
      · rw [List.mem_append, List.mem_singleton] at hi
        rcases hi with hi | rfl
        · exact ho.bd i hi
        · omega
    have key : ∀ m, m ≤ n → Fnd f n (moreL (moreS f n k) o s m) ∧ (0 ≤ s.2 → (moreL (moreS f n k) o s m).2 ≤ s.2 ∧ 0 ≤ (moreL (moreS f n k) o s m).2) ∧
        ∀ (i : Nat) (r : List Int), i < m → IsP n (o ++ (i : Int) :: r) → (o ++ (i : Int) :: r).length = n → (moreL (moreS f n k) o s m).2 ≤ f (o ++ (i : Int) :: r) ∧ 0 ≤ (moreL (moreS f n k) o s m).2 := by
      intro m
      induction m with
      | zero => exact fun _ => ⟨hs, fun h => ⟨Int.le_refl _, h⟩, fun i r h => absurd h (by omega)⟩
      | succ m ih =>
        intro hm
        obtain ⟨a1, a2, a3⟩ := ih (by omega)
        unfold moreL
        by_cases hmem : (m : Int) ∈ o
        · rw [if_pos hmem]
          refine ⟨a1, a2, fun i r hi hp hlen => ?_⟩
          by_cases e : i = m
          · subst e
            have := (List.nodup_append.1 hp.nd).2.2 _ hmem _ (List.mem_cons_self)
            exact absurd rfl this
          · exact a3 i r (by omega) hp hlen
        · rw [if_neg hmem]
          obtain ⟨b1, b2, b3⟩ := moreS_spec hf k (o ++ [(m : Int)]) (moreL (moreS f n k) o s m) (hsn m (by omega) hmem) (by rw [List.length_append]; simp; omega) a1
          refine ⟨b1, fun h => ?_, fun i r hi hp hlen => ?_⟩
          · obtain ⟨c1, c2⟩ := a2 h
            obtain ⟨c3, c4⟩ := b2 c2
            exact ⟨by omega, c4⟩
          · by_cases e : i = m
            · subst e
              have e2 : o ++ (i : Int) :: r = (o ++ [(i : Int)]) ++ r := by simp
              rw [e2] at hp hlen ⊢
              exact b3 r hp hlen
            · obtain ⟨c1, c2⟩ := a3 i r (by omega) hp hlen
              obtain ⟨c3, c4⟩ := b2 c2
              exact ⟨by omega, c4⟩
    obtain ⟨h1, h2, h3⟩ := key n (Nat.le_refl _)
    refine ⟨h1, h2, fun r hp hlen => ?_⟩
    match r, hp, hlen with
    | [], hp, hlen => rw [List.append_nil] at hlen; omega
    | i :: r, hp, hlen =>
      have hb := hp.bd i (by simp)
      obtain ⟨q, rfl⟩ := Int.eq_ofNat_of_zero_le hb.1
      exact h3 q r (by omega) hp hlen
/-- the least late order -/
def leastL (f : List Int → Int) (n : Nat) : List Int × Int := moreS f n n [] ([], -1)

theorem leastL_spec {f : List Int → Int} {n : Nat} (hf : ∀ o, 0 ≤ f o) : IsP n (leastL f n).1 ∧ (leastL f n).1.length = n ∧ (leastL f n).2 = f (leastL f n).1 ∧ ∀ o, IsP n o → o.length = n → (leastL f n).2 ≤ f o := by
  obtain ⟨h1, -, h3⟩ := moreS_spec (n := n) hf n [] ([], -1) ⟨List.nodup_nil, by simp⟩ (by simp) (.inl (by decide))
  -- some order there is: 0, 1, ..
  have hid : IsP n ((List.range n).map fun i : Nat => (i : Int)) := by
    refine ⟨?_, fun i hi => ?_⟩
    · rw [List.nodup_iff_pairwise_ne, List.pairwise_map]
      exact List.pairwise_lt_range.imp fun h => by omega
    · obtain ⟨q, hq, rfl⟩ := List.mem_map.1 hi
      have := List.mem_range.1 hq
      omega
  have h0 := (h3 _ hid (by simp)).2
  rcases h1 with h | ⟨a, b, c⟩
  · exact absurd h (by omega)
  · exact ⟨a, b, c, fun o ho hl => (h3 o ho hl).1⟩

theorem lateR_nn (j : List Jb) (ch : Int) : ∀ (c : Int × ByteArray) (o : List Int), 0 ≤ lateR j ch c o
  | _, [] => Int.le_refl _
  | c, i :: r => by
    unfold lateR
    have := lateR_nn j ch (doC c (jobAt j i) ch) r
    omega

theorem lateR_snoc (j : List Jb) (ch : Int) : ∀ (c : Int × ByteArray) (o : List Int) (i : Int), lateR j ch c (o ++ [i]) = lateR j ch c o + max 0 ((doC (clkC j ch c o) (jobAt j i) ch).1 - (jobAt j i).due)
  | c, [], i => by simp [lateR, clkC]
  | c, a :: o, i => by
    rw [List.cons_append, lateR, lateR_snoc j ch _ o i, lateR]
    show _ = _ + max 0 ((doC (clkC j ch (doC c (jobAt j a) ch) o) (jobAt j i) ch).1 - _)
    omega
/-- by its pairs: whose end, and how late -/
theorem lateR_pairs (j : List Jb) (ch : Int) : ∀ (c : Int × ByteArray) (o : List Int), lateR j ch c o = ((rowC j ch c o).map fun q => max 0 (q.2 - (jobAt j q.1).due)).sum
  | _, [] => rfl
  | c, i :: r => by
    rw [lateR, rowC, List.map_cons, List.sum_cons, lateR_pairs j ch _ r]

theorem outO_get {n : Nat} : ∀ (L : List (Int × Int)) (o : List Int), o.length = n → (L.map (·.1)).Nodup → (∀ q ∈ L, 0 ≤ q.1 ∧ q.1 < (n : Int)) →
    (∀ q ∈ L, (L.foldl (fun o q => o.set q.1.toNat q.2) o).getD q.1.toNat 0 = q.2) ∧ ∀ k : Nat, (k : Int) ∉ L.map (·.1) → (L.foldl (fun o q => o.set q.1.toNat q.2) o).getD k 0 = o.getD k 0
  | [], o, _, _, _ => ⟨by simp, fun _ _ => rfl⟩
  | p :: L, o, ho, hn, hb => by
    rw [List.map_cons, List.nodup_cons] at hn
    obtain ⟨h1, h2⟩ := outO_get L (o.set p.1.toNat p.2) (by rw [List.length_set]; exact ho) hn.2 (fun q hq => hb q (List.mem_cons_of_mem _ hq))
    have hpb := hb p (by simp)
    refine ⟨fun q hq => ?_, fun k hk => ?_⟩
    · rw [List.foldl_cons]
      rcases List.mem_cons.1 hq with rfl | hq
      · rw [h2 _ (by rw [Int.toNat_of_nonneg hpb.1]; exact hn.1)]
        rw [List.getD_eq_getElem?_getD, List.getElem?_set_self (by omega)]; rfl
      · exact h1 q hq
    · rw [List.foldl_cons]
      rw [List.map_cons, List.mem_cons, not_or] at hk
      rw [h2 k hk.2, List.getD_eq_getElem?_getD, List.getD_eq_getElem?_getD, List.getElem?_set_ne (by omega)]

theorem isP_good {n : Nat} {o : List Int} (h : IsP n o) : ∀ i (hi : i < o.length), 0 ≤ o[i] ∧ o[i] < n ∧ memI (o.take i) o[i] = false := by
  intro i hi
  have hb := h.bd _ (List.getElem_mem hi)
  refine ⟨hb.1, hb.2, ?_⟩
  unfold memI
  rw [decide_eq_false_iff_not]
  intro hm
  obtain ⟨k, hk, e⟩ := List.mem_take_iff_getElem.1 hm
  have := (List.nodup_iff_pairwise_ne.1 h.nd)
  have := List.pairwise_iff_getElem.1 this k i (by omega) hi (by omega)
  exact this e

theorem isP_all {n : Nat} {o : List Int} (h : IsP n o) (hl : o.length = n) {k : Nat} (hk : k < n) : (k : Int) ∈ o := by
  have hc := seenN_all (isP_good h)
  rw [decide_eq_false (by omega)] at hc
  have hk2 : k < (seenN n o).length := by rw [seenN_len]; exact hk
  have hg := seenN_get hk2
  have : (seenN n o)[k] ≠ false := fun e => by
    have : (seenN n o).contains false = true := List.contains_iff_mem.2 (e ▸ List.getElem_mem hk2)
    rw [hc] at this; cases this
  rw [hg] at this
  unfold memI at this
  simpa using this

theorem isP_perm {n : Nat} {o : List Int} (h : IsP n o) (hl : o.length = n) : o.Perm ((List.range n).map fun i : Nat => (i : Int)) := by
  have h2 : ((List.range n).map fun i : Nat => (i : Int)).Nodup := by
    rw [List.nodup_iff_pairwise_ne, List.pairwise_map]
    exact List.pairwise_lt_range.imp fun h => by omega
  refine (List.perm_ext_iff_of_nodup h.nd h2).2 fun a => ⟨fun ha => ?_, fun ha => ?_⟩
  · have hb := h.bd a ha
    obtain ⟨q, rfl⟩ := Int.eq_ofNat_of_zero_le hb.1
    exact List.mem_map.2 ⟨q, List.mem_range.2 (by omega), rfl⟩
  · obtain ⟨q, hq, rfl⟩ := List.mem_map.1 ha
    exact isP_all h hl (List.mem_range.1 hq)

theorem perm_sum {l m : List Int} (h : l.Perm m) (F : Int → Int) : (l.map F).sum = (m.map F).sum := by
  induction h with
  | nil => rfl
  | cons a _ ih => rw [List.map_cons, List.map_cons, List.sum_cons, List.sum_cons, ih]
  | swap a b l => simp only [List.map_cons, List.sum_cons]; omega
  | trans _ _ ih1 ih2 => rw [ih1, ih2]

theorem lateS_sum (E : List Int) (j : List Jb) : ∀ k, lateS E j k = (((List.range k).map fun i : Nat => (i : Int)).map fun i => max 0 (E.getD i.toNat 0 - (jobAt j i).due)).sum
  | 0 => rfl
  | k + 1 => by
    rw [List.range_succ, List.map_append, List.map_append, List.sum_append, ← lateS_sum E j k]
    simp only [List.map_cons, List.map_nil, List.sum_cons, List.sum_nil, lateS, jobAt, Int.toNat_natCast]
    split <;> omega

theorem lateS_order {p : List Prn} {j : List Jb} {ch : Int} {o : List Int} (h : IsP j.length o) (hl : o.length = j.length) :
    lateS (endsF p j [o] ch) j j.length = lateR j ch (0, (p.getD 0 default).mat) o := by
  have hE : endsF p j [o] ch = (rowC j ch (0, (p.getD 0 default).mat) o).foldl (fun o q => o.set q.1.toNat q.2) (List.replicate j.length 0) := by
    unfold endsF outO pairsK rowP
    simp [List.range_succ]
  obtain ⟨h1, -⟩ := outO_get (n := j.length) (rowC j ch (0, (p.getD 0 default).mat) o) (List.replicate j.length 0) (by simp) (by rw [rowC_fst]; exact h.nd) (fun q hq => by
    have : q.1 ∈ (rowC j ch (0, (p.getD 0 default).mat) o).map (·.1) := List.mem_map_of_mem hq
    rw [rowC_fst] at this
    exact h.bd _ this)
  rw [lateS_sum, ← perm_sum (isP_perm h hl), lateR_pairs]
  generalize endsF p j [o] ch = E at *
  conv => lhs; rw [← rowC_fst j ch (0, (p.getD 0 default).mat) o]
  rw [List.map_map]
  congr 1
  refine List.map_congr_left fun q hq => ?_
  show max 0 (E.getD q.1.toNat 0 - (jobAt j q.1).due) = _
  rw [hE, h1 q hq]

theorem planK_order {n : Nat} {o : List Int} (h : IsP n o) (hl : o.length = n) : ∀ d, d ≤ o.length → planK n o (o.length - d) = 0
  | 0, _ => by rw [Nat.sub_zero, planK_end, if_neg (by omega)]
  | d + 1, hd => by
    have hk : o.length - (d + 1) < o.length := by omega
    obtain ⟨h1, h2, h3⟩ := isP_good h _ hk
    rw [planK_step hk, if_neg (by omega), h3, if_neg (by decide), show o.length - (d + 1) + 1 = o.length - d by omega]
    exact planK_order h hl d (by omega)

theorem planned_order {p : List Prn} {j : List Jb} {ch : Int} {o : List Int} (hF : farmF p j = 0) (hp : p.length = 1) (hc : spanF ch 0 100000 = 0) (h : IsP j.length o) (hl : o.length = j.length) : plannedF p j [o] ch = 0 := by
  have hk := planK_order h hl o.length (Nat.le_refl _)
  rw [Nat.sub_self] at hk
  unfold plannedF
  have h0 : planF p j [o] = 0 := by
    unfold planF
    rw [if_neg (by simp [hF]), if_neg (by simp [hp])]
    simpa using hk
  rw [if_pos h0]
  exact hc

theorem lateL_nil (E : List Int) (j : List Jb) : ∀ k, 0 ≤ lateS E j k ∧ (lateS E j k = 0 ↔ lateL E j k = [])
  | 0 => ⟨Int.le_refl _, by simp [lateS, lateL]⟩
  | k + 1 => by
    obtain ⟨h1, h2⟩ := lateL_nil E j k
    unfold lateS lateL
    split
    · refine ⟨by omega, ⟨fun h => by omega, fun h => ?_⟩⟩
      simp at h
    · exact ⟨h1, h2⟩

end Go.Proofs.YtcjocckpbgihcaaGreatDoor

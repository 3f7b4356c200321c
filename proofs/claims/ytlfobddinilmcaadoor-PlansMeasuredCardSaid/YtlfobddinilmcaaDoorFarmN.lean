/- Contracts of functions that this seat's laws reach, each: what one call returns and what it leaves in memory; no condition beyond each theorem's own hypotheses. -/
import Derived.Test.YtlfobddinilmcaaDoorFarmM
set_option linter.unusedVariables false
set_option linter.unusedSimpArgs false
namespace Go.Proofs.YtlfobddinilmcaaDoor
open Go Go.RowKit Go.Bl

def sumM (j : List Jb) (k : Nat) : Int := ((j.take k).map (·.min)).sum
def mostM (j : List Jb) (k : Nat) : Int := ((j.take k).map (·.min)).foldl max 0
def boundF (p : List Prn) (j : List Jb) : Int := max (mostM j j.length) ((sumM j j.length + p.length - 1) / p.length)
def boundT (p : List Prn) (j : List Jb) : Int := if farmF p j = 0 then boundF p j else 0
theorem sumM_snoc {j : List Jb} {k : Nat} (h : k < j.length) : sumM j (k + 1) = sumM j k + j[k].min := by
  unfold sumM; rw [take_snoc h, List.map_append, List.sum_append]; simp
theorem mostM_snoc {j : List Jb} {k : Nat} (h : k < j.length) : mostM j (k + 1) = max (mostM j k) j[k].min := by
  unfold mostM; rw [take_snoc h, List.map_append, List.foldl_append]; simp
theorem sumM_bd {j : List Jb} {ch : Int} (hok : JOk j ch) : ∀ k, k ≤ j.length → 0 ≤ sumM j k ∧ sumM j k ≤ 100000 * k
  | 0, _ => by simp [sumM]
  | k + 1, h => by
    have ih := sumM_bd hok k (by omega)
    have := hok.bd _ (List.getElem_mem (show k < j.length by omega))
    rw [sumM_snoc (by omega)]
    constructor <;> (push_cast; omega)
theorem mostM_bd {j : List Jb} {ch : Int} (hok : JOk j ch) : ∀ k, k ≤ j.length → 0 ≤ mostM j k ∧ mostM j k ≤ 100000
  | 0, _ => by simp [mostM]
  | k + 1, h => by
    have ih := mostM_bd hok k (by omega)
    have := hok.bd _ (List.getElem_mem (show k < j.length by omega))
    rw [mostM_snoc (by omega)]
    omega
theorem farm_plen {p : List Prn} {j : List Jb} (h : farmF p j = 0) : 0 < p.length ∧ p.length ≤ 50 := by
  unfold farmF at h
  by_cases hz : prnsF p = 0
  · unfold prnsF at hz
    by_cases h1 : p.length = 0
    · rw [if_pos h1] at hz; cases hz
    · rw [if_neg h1] at hz
      by_cases h2 : 50 < p.length
      · rw [if_pos h2] at hz; cases hz
      · omega
  · rw [if_neg hz] at h; exact absurd h hz
theorem div_up {s n : Int} (hs : 0 ≤ s) (hn : 0 < n) : (s + n - 1) / n = s / n + (if decide (s % n > 0) then 1 else 0) := by
  have h1 := Int.emod_nonneg s (show n ≠ 0 by omega)
  have h2 := Int.emod_lt_of_pos s hn
  have h3 := Int.emod_add_mul_ediv s n
  generalize s % n = r at *
  generalize s / n = q at *
  have : s + n - 1 = (r + n - 1) + n * q := by omega
  rw [this, Int.add_mul_ediv_left _ _ (by omega)]
  by_cases hr : r > 0
  · have : (r + n - 1) / n = 1 := by
      rw [show r + n - 1 = (r - 1) + n * 1 by omega, Int.add_mul_ediv_left _ _ (by omega), Int.ediv_eq_zero_of_lt (by omega) (by omega)]; rfl
    simp [this, hr]; omega
  · have : (r + n - 1) / n = 0 := Int.ediv_eq_zero_of_lt (by omega) (by omega)
    simp [this, hr]

set_option maxHeartbeats 2000000 in
set_option maxRecDepth 100000 in
theorem bound_any (A : Option Addr) (c : Nat) (p : List Prn) (B : Option Addr) (d : Nat) (j : List Jb) (w : World) (hp : Sl w 0 A p) (hj : Sl w 0 B j) :
    Calls Tryd.prog 19 #[.slice A p.length c, .slice B j.length d] w fun e w' => e = .returned (.tuple #[.int .i64 (boundT p j), .int .i64 (farmF p j)]) ∧ w.grownBy w' none := by
  have hFa := fault_any A c p B d j w hp hj
  by_cases h0 : farmF p j = 0
  · have hN : boundT p j = boundF p j := if_pos h0
    rw [hN]
    have hpl := farm_plen h0
    have hok : JOk j 0 := jok_of h0 (by rfl)
    rw [h0] at hFa ⊢
    clear h0 hN
    have hj5 := hok.len
    replace hok := hide hok
    go_enter Tryd.func19, Tryd.ntmps19
    go_wp2_with fail
    refine hFa.mono ?_
    rintro e w1 ⟨rfl, hg1⟩
    clear hFa
    go_wp2_with fail
    go_loopw [7, 8, 19] (fun s m i wr => ∃ k : Nat, k ≤ j.length ∧ i = .int .i64 k ∧ s = .int .i64 (sumM j k) ∧ m = .int .i64 (mostM j k) ∧ w.grownBy wr none) (fun _ _ i _ => j.length - (intOf i).toNat)
    case atStart => exact ⟨0, Nat.zero_le _, rfl, rfl, rfl, by exact (by repeat (first | exact World.grownBy.refl _ _ | assumption | refine gr_alloc ?_ _ | (apply gr_tail; assumption) | refine gr_drewN ?_ _ | refine gr_drew ?_))⟩
    case round =>
      obtain ⟨k, hk, rfl, rfl, rfl, hg⟩ := hrel
      by_cases hlt : k < j.length
      · obtain ⟨gj, oj, cx, rfl, _, hbj, rfl, hc⟩ := (hj.pure hg).at_ (by decide) hlt
        have j0 : wr.cell? ⟨gj, oj + k * 4, none⟩ = some (.string j[k].key) := hc 0 _ rfl
        have j1 : wr.cell? ⟨gj, oj + k * 4 + 1, none⟩ = some (.string j[k].mat) := hc 1 _ rfl
        have j2 : wr.cell? ⟨gj, oj + k * 4 + 2, none⟩ = some (.int .i64 j[k].min) := hc 2 _ rfl
        have j3 : wr.cell? ⟨gj, oj + k * 4 + 3, none⟩ = some (.int .i64 j[k].due) := hc 3 _ rfl
        clear hc
        have hS := hide (sumM_snoc hlt)
        have hL := hide (mostM_snoc hlt)
        have hSb := (sumM_bd hok.out k hk)
        have hdk := hok.out.bd _ (List.getElem_mem hlt)
        go_wp2_with fail
        (go_roundw; (case rel => exact ⟨k + 1, by omega, by go_num, by rw [hS.out], by rw [hL.out], by exact (by repeat (first | exact World.grownBy.refl _ _ | assumption | refine gr_alloc ?_ _ | (apply gr_tail; assumption) | refine gr_drewN ?_ _ | refine gr_drew ?_))⟩); (case measure => simp [intOf]; omega))
      · have hke : k = j.length := by omega
        subst hke
        have hSb := (sumM_bd hok.out j.length (Nat.le_refl _))
        have hLb := (mostM_bd hok.out j.length (Nat.le_refl _))
        go_wp2_with fail
        exact bodyPost_ret (v := .tuple #[.int .i64 (boundF p j), .int .i64 0]) (by simp [results, Tryd.results19, go_sem, boundF]) rfl ⟨rfl, hg⟩
  · have hN : boundT p j = 0 := if_neg h0
    rw [hN]
    clear hN
    generalize farmF p j = F at *
    have hb : (F != 0) = true := by simp [h0]
    clear h0
    go_enter Tryd.func19, Tryd.ntmps19
    go_wp2_with fail
    refine hFa.mono ?_
    rintro e w1 ⟨rfl, hg1⟩
    go_wp2_with fail
    exact bodyPost_ret (v := .tuple #[.int .i64 0, .int .i64 F]) (by simp [results, Tryd.results19, go_sem]) rfl ⟨rfl, hg1⟩

set_option maxHeartbeats 2000000 in
set_option maxRecDepth 100000 in
theorem boundOf_any (A : Option Addr) (c : Nat) (p : List Prn) (B : Option Addr) (d : Nat) (j : List Jb) (w : World) (hj : Sl w 0 B j) (h0 : farmF p j = 0) :
    Calls Tryd.prog 23 #[.slice A p.length c, .slice B j.length d] w fun e w' => e = .returned (.int .i64 (boundF p j)) ∧ w.grownBy w' none := by
  have hpl := farm_plen h0
  have hok : JOk j 0 := jok_of h0 (by rfl)
  clear h0
  have hj5 := hok.len
  replace hok := hide hok
  go_enter Tryd.func23, Tryd.ntmps23
  go_wp2_with fail
  go_loopw [5, 6, 11] (fun s m i wr => ∃ k : Nat, k ≤ j.length ∧ i = .int .i64 k ∧ s = .int .i64 (sumM j k) ∧ m = .int .i64 (mostM j k) ∧ w.grownBy wr none) (fun _ _ i _ => j.length - (intOf i).toNat)
  case atStart => exact ⟨0, Nat.zero_le _, rfl, rfl, rfl, by exact (by repeat (first | exact World.grownBy.refl _ _ | assumption | refine gr_alloc ?_ _ | (apply gr_tail; assumption) | refine gr_drewN ?_ _ | refine gr_drew ?_))⟩
  case round =>
    obtain ⟨k, hk, rfl, rfl, rfl, hg⟩ := hrel
    by_cases hlt : k < j.length
    · obtain ⟨gj, oj, cx, rfl, _, hbj, rfl, hc⟩ := (hj.pure hg).at_ (by decide) hlt
      have j0 : wr.cell? ⟨gj, oj + k * 4, none⟩ = some (.string j[k].key) := hc 0 _ rfl
      have j1 : wr.cell? ⟨gj, oj + k * 4 + 1, none⟩ = some (.string j[k].mat) := hc 1 _ rfl
      have j2 : wr.cell? ⟨gj, oj + k * 4 + 2, none⟩ = some (.int .i64 j[k].min) := hc 2 _ rfl
      have j3 : wr.cell? ⟨gj, oj + k * 4 + 3, none⟩ = some (.int .i64 j[k].due) := hc 3 _ rfl
      clear hc
      have hS := hide (sumM_snoc hlt)
      have hL := hide (mostM_snoc hlt)
      have hSb := (sumM_bd hok.out k hk)
      have hdk := hok.out.bd _ (List.getElem_mem hlt)
      go_wp2_with fail
      (go_roundw; (case rel => exact ⟨k + 1, by omega, by go_num, by rw [hS.out], by rw [hL.out], by exact (by repeat (first | exact World.grownBy.refl _ _ | assumption | refine gr_alloc ?_ _ | (apply gr_tail; assumption) | refine gr_drewN ?_ _ | refine gr_drew ?_))⟩); (case measure => simp [intOf]; omega))
    · have hke : k = j.length := by omega
      subst hke
      have hSb := (sumM_bd hok.out j.length (Nat.le_refl _))
      have hLb := (mostM_bd hok.out j.length (Nat.le_refl _))
      have hup := hide (div_up (s := sumM j j.length) (n := p.length) hSb.1 (by omega))
      have hq1 := Int.ediv_nonneg hSb.1 (show (0 : Int) ≤ p.length by omega)
      have hq2 := Int.ediv_le_self (p.length : Int) hSb.1
      have hT := truth_any (decide (sumM j j.length % p.length > 0))
      have hup := hup.out
      obtain ⟨t, ht⟩ : ∃ t : Int, t = if decide (sumM j j.length % p.length > 0) then 1 else 0 := ⟨_, rfl⟩
      have ht01 : 0 ≤ t ∧ t ≤ 1 := by rw [ht]; split <;> omega
      rw [← ht] at hT hup
      clear ht
      replace hup := hide hup
      replace hT := hide hT
      go_upto_region 8 with fail
      refine wp_region_tree (fun _ => True) [2, 2, 2, 2, 2, 2, 2, 2, 2, 2, 0, 2, 2, 2] (.bl 0 (.bl 1 (.bl 2 (.bl 3 (.bl 4 (.bl 5 (.bl 6 (.bl 7 (.bl 8 (.bl 9 (.ef 10 (.bl 11 (.bl 12 (.bl 13 .done)))))))))))))) (by kernel_rfl) (by kernel_rfl) (trivial) ?_
      obtain ⟨W1, hW1⟩ : ∃ x, x = (wr).drew := ⟨_, rfl⟩
      rw [← hW1]
      have hgW1 : (wr).grownBy W1 none := by rw [hW1]; exact gr_drew (World.grownBy.refl _ _)
      clear hW1
      refine tree_p rfl rfl rfl rfl _ rfl (by simp) (fun K hK => ?_)
      apply Exists.intro
      refine ⟨fun wq K' hK' => ?_, ?_⟩
      · go_wp2_with fail
        exact hK'
      go_simp
      refine hK _ ?_
      clear hK K
      refine tree_p rfl rfl rfl rfl _ rfl (by simp) (fun K hK => ?_)
      apply Exists.intro
      refine ⟨fun wq K' hK' => ?_, ?_⟩
      · go_wp2_with fail
        exact hK'
      go_simp
      refine hK _ ?_
      clear hK K
      refine tree_p rfl rfl rfl rfl _ rfl (by simp) (fun K hK => ?_)
      apply Exists.intro
      refine ⟨fun wq K' hK' => ?_, ?_⟩
      · go_wp2_with fail
        exact hK'
      go_simp
      refine hK _ ?_
      clear hK K
      refine tree_p rfl rfl rfl rfl _ rfl (by simp) (fun K hK => ?_)
      apply Exists.intro
      refine ⟨fun wq K' hK' => ?_, ?_⟩
      · go_wp2_with fail
        exact hK'
      go_simp
      refine hK _ ?_
      clear hK K
      refine tree_p rfl rfl rfl rfl _ rfl (by simp) (fun K hK => ?_)
      apply Exists.intro
      refine ⟨fun wq K' hK' => ?_, ?_⟩
      · go_wp2_with fail
        exact hK'
      go_simp
      refine hK _ ?_
      clear hK K
      refine tree_p rfl rfl rfl rfl _ rfl (by simp) (fun K hK => ?_)
      apply Exists.intro
      refine ⟨fun wq K' hK' => ?_, ?_⟩
      · go_wp2_with fail
        exact hK'
      go_simp
      refine hK _ ?_
      clear hK K
      refine tree_p rfl rfl rfl rfl _ rfl (by simp) (fun K hK => ?_)
      apply Exists.intro
      refine ⟨fun wq K' hK' => ?_, ?_⟩
      · go_wp2_with fail
        exact hK'
      go_simp
      refine hK _ ?_
      clear hK K
      refine tree_p rfl rfl rfl rfl _ rfl (by simp) (fun K hK => ?_)
      apply Exists.intro
      refine ⟨fun wq K' hK' => ?_, ?_⟩
      · go_wp2_with fail
        exact hK'
      go_simp
      refine hK _ ?_
      clear hK K
      refine tree_p rfl rfl rfl rfl _ rfl (by simp) (fun K hK => ?_)
      apply Exists.intro
      refine ⟨fun wq K' hK' => ?_, ?_⟩
      · go_wp2_with fail
        exact hK'
      go_simp
      refine hK _ ?_
      clear hK K
      refine tree_p rfl rfl rfl rfl _ rfl (by simp) (fun K hK => ?_)
      apply Exists.intro
      refine ⟨fun wq K' hK' => ?_, ?_⟩
      · go_wp2_with fail
        exact hK'
      go_simp
      refine hK _ ?_
      clear hK K
      refine tree_e0 (by kernel_rfl) rfl rfl (fun K hK => ?_)
      go_wp2_with fail
      refine (hT.out _).mono ?_
      rintro e _ ⟨rfl, rfl⟩
      go_wp2_with fail
      try go_simp
      refine hK _ _ trivial ?_
      clear hK K
      refine tree_p rfl rfl rfl rfl _ rfl (by simp) (fun K hK => ?_)
      apply Exists.intro
      refine ⟨fun wq K' hK' => ?_, ?_⟩
      · go_wp2_with fail
        exact hK'
      go_simp
      refine hK _ ?_
      clear hK K
      refine tree_p rfl rfl rfl rfl _ rfl (by simp) (fun K hK => ?_)
      apply Exists.intro
      refine ⟨fun wq K' hK' => ?_, ?_⟩
      · go_wp2_with fail
        exact hK'
      go_simp
      refine hK _ ?_
      clear hK K
      refine tree_p rfl rfl rfl rfl _ rfl (by simp) (fun K hK => ?_)
      apply Exists.intro
      refine ⟨fun wq K' hK' => ?_, ?_⟩
      · go_wp2_with fail
        exact hK'
      go_simp
      refine hK _ ?_
      clear hK K
      refine tree_done ?_
      go_wp2_with fail
      go_ret
      exact ⟨ret_int (by unfold boundF; rw [hup.out]), gr_trans hg hgW1⟩
end Go.Proofs.YtlfobddinilmcaaDoor

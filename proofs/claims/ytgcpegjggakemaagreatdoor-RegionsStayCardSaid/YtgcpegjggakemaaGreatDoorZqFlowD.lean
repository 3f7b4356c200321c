/- Contracts of functions that this seat's laws reach, each: what one call returns and what it leaves in memory; no condition beyond each theorem's own hypotheses. -/
import Derived.Test.YtgcpegjggakemaaGreatDoorZqPathA
import Derived.StillTailTactics
import Derived.Test.YtgcpegjggakemaaGreatDoorZqFix
import Derived.Test.YtgcpegjggakemaaGreatDoorZqNest2
import Derived.Test.YtgcpegjggakemaaGreatDoorZqTree
set_option linter.unusedVariables false
set_option linter.unusedSimpArgs false
namespace Go.Proofs.YtgcpegjggakemaaGreatDoor
open Go.RowKit Go.Bl

end Go.Proofs.YtgcpegjggakemaaGreatDoor

namespace Go.Proofs.YtgcpegjggakemaaGreatDoor
open Go.RowKit Go.Bl

def pointsF (l : List Pt) : Int := if l.any farP then 1 else 0

theorem pointsF_no {l : List Pt} (h : l.any farP = false) : pointsF l = 0 := by simp [pointsF, h]

theorem pointsF_yes {l : List Pt} (h : l.any farP = true) : pointsF l = 1 := by simp [pointsF, h]

theorem any_snoc {l : List Pt} {k : Nat} (h : k < l.length) : (l.take (k + 1)).any farP = ((l.take k).any farP || farP l[k]) := by rw [take_snoc h, List.any_append]; simp

theorem any_at {l : List Pt} {k : Nat} (h : k < l.length) (hf : farP l[k] = true) : l.any farP = true := List.any_eq_true.2 ⟨_, List.getElem_mem _, hf⟩

set_option maxHeartbeats 400000 in
theorem pointFault_any (A : Option Addr) (c : Nat) (l : List Pt) (w : World) (hl : Sl w 0 A l) :
    Calls Tryz.prog 19 #[.slice A l.length c] w fun e w' => e = .returned (.int .i64 (pointsF l)) ∧ w.grownBy w' none := by
  have hm := hl.1
  unfold maxLen at hm
  go_enter Tryz.func19, Tryz.ntmps19
  go_wp2
  go_loopw [7] (fun i wr => ∃ k : Nat, k ≤ l.length ∧ i = .int .i64 k ∧ w.grownBy wr none ∧ Hid ((l.take k).any farP = false)) (fun i _ => l.length - (intOf i).toNat)
  case atStart => exact ⟨0, Nat.zero_le _, rfl, World.grownBy.refl _ _, by simp [Hid]⟩
  case round =>
    obtain ⟨k, hk, rfl, hg, hall⟩ := hrel
    by_cases hlt : k < l.length
    · obtain ⟨g, o, cx, rfl, hb0, hb1, rfl, hc⟩ := (hl.pure hg).at_ (by decide) hlt
      have c0 : wr.cell? ⟨g, o + k * 2, none⟩ = some (.int .i64 l[k].x) := hc 0 _ rfl
      have c1 : wr.cell? ⟨g, o + k * 2 + 1, none⟩ = some (.int .i64 l[k].y) := hc 1 _ rfl
      clear hc
      have HF : Hid (farP l[k] = (!inB l[k].x (-100000) 100000 || !inB l[k].y (-100000) 100000)) := by simp only [Hid, farP, inB_not]
      have HS := hide (any_snoc hlt)
      have HA : Hid (farP l[k] = true → l.any farP = true) := any_at hlt
      go_wp2_with (go_at_call 60; refine (in_any _ _ _ _).mono ?_; rintro e w' ⟨rfl, rfl⟩)
      all_goals first
        | (go_ret; exact ⟨ret_int (pointsF_yes (HA.out (by rw [HF.out]; simp [*]))).symm, (by repeat (first | exact World.grownBy.refl _ _ | assumption | refine gr_alloc ?_ _ | refine gr_drewN ?_ _ | refine gr_drew ?_))⟩)
        | (go_roundw; (case rel => exact ⟨k + 1, by omega, by go_num, (by repeat (first | exact World.grownBy.refl _ _ | assumption | refine gr_alloc ?_ _ | refine gr_drewN ?_ _ | refine gr_drew ?_)), by simp only [Hid]; rw [HS.out, hall.out, HF.out]; simp [*]⟩); (case measure => simp [intOf]; omega))
    · have HB : Hid (pointsF l = 0) := pointsF_no (by have := hall.out; rwa [List.take_of_length_le (by omega)] at this)
      go_wp2
      go_ret
      exact ⟨ret_int HB.out.symm, hg⟩

set_option maxHeartbeats 400000 in
theorem isFar_any (p : Pt) (w : World) :
    Calls Tryz.prog 86 #[.agg #[.int .i64 p.x, .int .i64 p.y]] w fun e w' => e = .returned (.bool (farP p)) ∧ w.grownBy w' none := by
  go_enter Tryz.func86, Tryz.ntmps86
  go_wp2_with (go_at_call 56; refine (outside_any _ _ _ _).mono ?_; rintro e w' ⟨rfl, rfl⟩)
  all_goals (go_ret; exact ⟨ret_bool (by simp [farP, *]), (by repeat (first | exact World.grownBy.refl _ _ | assumption | refine gr_alloc ?_ _ | refine gr_drewN ?_ _ | refine gr_drew ?_))⟩)

set_option maxHeartbeats 400000 in
theorem indexFar_any (A : Option Addr) (c : Nat) (l : List Pt) (w : World) (hl : Sl w 0 A l) :
    Calls Tryz.prog 161 #[.slice A l.length c, .func (.func 86) #[] #[]] w fun e w' => ∃ r : Int, e = .returned (.int .i64 r) ∧ decide (0 ≤ r) = l.any farP ∧ w.grownBy w' none := by
  have hm := hl.1
  unfold maxLen at hm
  go_enter Tryz.func161, Tryz.ntmps161
  go_wp2
  go_loopw [8] (fun i wr => ∃ k : Nat, k ≤ l.length ∧ i = .int .i64 k ∧ w.grownBy wr none ∧ Hid ((l.take k).any farP = false)) (fun i _ => l.length - (intOf i).toNat)
  case atStart => exact ⟨0, Nat.zero_le _, rfl, World.grownBy.refl _ _, by simp [Hid]⟩
  case round =>
    obtain ⟨k, hk, rfl, hg, hall⟩ := hrel
    by_cases hlt : k < l.length
    · obtain ⟨g, o, cx, rfl, hb0, hb1, rfl, hc⟩ := (hl.pure hg).at_ (by decide) hlt
      have c0 : wr.cell? ⟨g, o + k * 2, none⟩ = some (.int .i64 l[k].x) := hc 0 _ rfl
      have c1 : wr.cell? ⟨g, o + k * 2 + 1, none⟩ = some (.int .i64 l[k].y) := hc 1 _ rfl
      clear hc
      have HS := hide (any_snoc hlt)
      have HA : Hid (farP l[k] = true → l.any farP = true) := any_at hlt
      go_wp2_with fail
      refine (isFar_any l[k] _).mono ?_
      rintro e w' ⟨rfl, hg'⟩
      rcases hf : farP l[k] with _ | _
      · go_wp2_with fail
        go_roundw
        case rel => exact ⟨k + 1, by omega, by go_num, gr_trans hg hg', by simp only [Hid]; rw [HS.out, hall.out, hf]; rfl⟩
        case measure => simp [intOf]; omega
      · have HB := hide (HA.out hf)
        go_wp2_with fail
        go_ret
        exact ⟨k, rfl, by rw [HB.out]; simp, gr_trans hg hg'⟩
    · have HB : Hid (l.any farP = false) := by have := hall.out; rwa [List.take_of_length_le (by omega)] at this
      go_wp2
      go_ret
      exact ⟨-1, rfl, by rw [HB.out]; rfl, hg⟩

set_option maxHeartbeats 400000 in
theorem containsFar_any (A : Option Addr) (c : Nat) (l : List Pt) (w : World) (hl : Sl w 0 A l) :
    Calls Tryz.prog 115 #[.slice A l.length c, .func (.func 86) #[] #[]] w fun e w' => e = .returned (.bool (l.any farP)) ∧ w.grownBy w' none := by
  go_enter Tryz.func115, Tryz.ntmps115
  go_wp2_with fail
  refine (indexFar_any _ _ _ _ hl).mono ?_
  rintro e w1 ⟨r, rfl, hr, hg⟩
  replace hr := hide hr
  go_wp2_with fail
  go_ret
  exact ⟨ret_bool hr.out, hg⟩

end Go.Proofs.YtgcpegjggakemaaGreatDoor

namespace Go.Proofs.YtgcpegjggakemaaGreatDoor
open Go.RowKit Go.Bl

set_option maxHeartbeats 400000 in
theorem clonePt_any (A : Option Addr) (c : Nat) (l : List Pt) (w : World) (hl : Sl w 0 A l) (hlen : l.length ≤ 1000000) :
    Calls Tryz.prog 39 #[.slice A l.length c] w fun e w' => ∃ A' c', e = .returned (.slice A' l.length c') ∧ Own w' w.heap.size 30 A' c' l ∧ w.grownBy w' none := by
  obtain ⟨i0, hi, hz, h1, h2⟩ := info_parts info_pt
  have hq := fun W => Lib.run_eql_slice_nil (P := Tryz.prog) W 64 30 A l.length c 0 0 Tryz.underlying64
  rcases A with _ | ad
  · have hl0 : l = [] := by
      rcases Nat.eq_zero_or_pos l.length with h | h
      · exact List.eq_nil_of_length_eq_zero h
      · obtain ⟨g, o, cx, e, _⟩ := hl.at_ (by decide) h
        cases e
    subst hl0
    simp only [List.length_nil] at hq
    go_enter Tryz.func39, Tryz.ntmps39
    go_wp2_with fail
    go_ret
    exact ⟨none, 0, rfl, Own.nil _ _ _, World.grownBy.refl _ _⟩
  · go_enter Tryz.func39, Tryz.ntmps39
    go_wp2_with (at_builtin; refine wpList_push (α := Pt) _ rfl (.tmp 5) (.tmp 6) _ rfl w.heap.size 30 i0 _ 16 Tryz.underlying64 hi hz h1 h2 rfl _ _ _ [] rfl rfl (by exact Own.empty _ _ _ (Nat.le_refl _)) 0 ad _ c l rfl rfl (by exact hl.pure (gr_alloc (World.grownBy.refl _ _) _)) ?c2 ?c3 ?c4 ?_)
    case c2 => simp; omega
    case c3 => simp [maxLen]; omega
    case c4 => simp
    intro A2 c2 w2 hown hup
    go_wp2
    go_ret
    exact ⟨A2, c2, rfl, hown, hup.gr (Nat.le_refl _) (gr_alloc (World.grownBy.refl _ _) _)⟩

set_option maxHeartbeats 800000 in
theorem equalPt_any (A : Option Addr) (c : Nat) (l : List Pt) (B : Option Addr) (d : Nat) (m : List Pt) (w : World) (hl : Sl w 0 A l) (hm : Sl w 0 B m) :
    Calls Tryz.prog 47 #[.slice A l.length c, .slice B m.length d] w fun e w' => e = .returned (.bool (eqB l m)) ∧ w.grownBy w' none := by
  have hm1 := hl.1
  have hm2 := hm.1
  unfold maxLen at hm1 hm2
  by_cases hlen : l.length = m.length
  · have hb : (l.length != m.length) = false := by simp [hlen]
    have hb2 : ((l.length : Int) != m.length) = false := by simp [hlen]
    replace hlen := hide hlen
    go_enter Tryz.func47, Tryz.ntmps47
    go_wp2
    go_loopw [13] (fun i wr => ∃ k : Nat, k ≤ l.length ∧ i = .int .i64 k ∧ w.grownBy wr none ∧ Hid (l.take k = m.take k)) (fun i _ => l.length - (intOf i).toNat)
    case atStart => exact ⟨0, Nat.zero_le _, rfl, World.grownBy.refl _ _, rfl⟩
    case round =>
      obtain ⟨k, hk, rfl, hg, hq⟩ := hrel
      by_cases hlt : k < l.length
      · have hlt2 : k < m.length := by rw [← hlen.out]; exact hlt
        obtain ⟨g, o, cx, rfl, hb0, hb1, rfl, hc⟩ := (hl.pure hg).at_ (by decide) hlt
        have c0 : wr.cell? ⟨g, o + k * 2, none⟩ = some (.int .i64 l[k].x) := hc 0 _ rfl
        have c1 : wr.cell? ⟨g, o + k * 2 + 1, none⟩ = some (.int .i64 l[k].y) := hc 1 _ rfl
        clear hc
        obtain ⟨g', o', cx, rfl, hb0', hb1', rfl, hc⟩ := (hm.pure hg).at_ (by decide) hlt2
        have c0' : wr.cell? ⟨g', o' + k * 2, none⟩ = some (.int .i64 m[k].x) := hc 0 _ rfl
        have c1' : wr.cell? ⟨g', o' + k * 2 + 1, none⟩ = some (.int .i64 m[k].y) := hc 1 _ rfl
        clear hc
        have HS : Hid (l[k] = m[k] → l.take (k + 1) = m.take (k + 1)) := fun h => by rw [take_snoc hlt, take_snoc hlt2, hq.out, h]
        have HN : Hid (l[k] ≠ m[k] → eqB l m = false) := fun h => eqB_ne hlt hlt2 h
        go_wp2_with fail
        refine wp_region_fix 8 ((fun wx => wr.grownBy wx none)) (by kernel_rfl) (by kernel_rfl) (gr_drew (World.grownBy.refl _ _)) ?_
        simp only [List.take_succ_cons, List.take_zero, List.drop_succ_cons, List.drop_zero]
        iterate 3 ((refine fix_b (fun K hK => ?_); apply Exists.intro; refine ⟨fun wx hC K' hK' => ?_, ?_⟩; (focus (replace hK' := hide hK'; skip; go_wp2_with fail; exact hK'.out _ hC)); go_simp; refine hK _ ?_; clear hK K))
        (refine fix_b (fun K hK => ?_); apply Exists.intro; refine ⟨fun wx hC K' hK' => ?_, ?_⟩; (focus (replace hK' := hide hK'; (have b0 := hC.k c0; have b1 := hC.k c1); go_wp2_with fail; exact hK'.out _ hC)); go_simp; refine hK _ ?_; clear hK K)
        iterate 3 ((refine fix_b (fun K hK => ?_); apply Exists.intro; refine ⟨fun wx hC K' hK' => ?_, ?_⟩; (focus (replace hK' := hide hK'; skip; go_wp2_with fail; exact hK'.out _ hC)); go_simp; refine hK _ ?_; clear hK K))
        (refine fix_b (fun K hK => ?_); apply Exists.intro; refine ⟨fun wx hC K' hK' => ?_, ?_⟩; (focus (replace hK' := hide hK'; (have b0 := hC.k c0'; have b1 := hC.k c1'); go_wp2_with fail; exact hK'.out _ hC)); go_simp; refine hK _ ?_; clear hK K)
        refine fix_nil ?_
        intro wz hC
        go_wp2_with fail
        all_goals first
          | (go_ret; exact ⟨ret_bool (HN.out (fun h => by simp_all)).symm, (by repeat (first | exact World.grownBy.refl _ _ | assumption | refine gr_alloc ?_ _ | (apply gr_tail; assumption) | refine gr_drewN ?_ _ | refine gr_drew ?_))⟩)
          | (go_roundw; (case rel => exact ⟨k + 1, by omega, by go_num, (by repeat (first | exact World.grownBy.refl _ _ | assumption | refine gr_alloc ?_ _ | (apply gr_tail; assumption) | refine gr_drewN ?_ _ | refine gr_drew ?_)), HS.out (Pt.ext ‹_› ‹_›)⟩); (case measure => simp [intOf]; omega))
      · have HB : Hid (eqB l m = true) := eqB_all hlen.out (by have := hq.out; rwa [show k = l.length by omega] at this)
        go_wp2
        go_ret
        exact ⟨ret_bool HB.out.symm, hg⟩
  · have hb : (l.length != m.length) = true := by simp [hlen]
    have hb2 : ((l.length : Int) != m.length) = true := by simp; omega
    have HB := hide (eqB_len hlen)
    clear hlen
    go_enter Tryz.func47, Tryz.ntmps47
    go_wp2
    go_ret
    exact ⟨ret_bool HB.out.symm, World.grownBy.refl _ _⟩

def dist (a b : Pt) : Int := max (max (a.x - b.x) (-(a.x - b.x))) (max (a.y - b.y) (-(a.y - b.y)))

def near (p : Pt) : Prop := (-100000 ≤ p.x ∧ p.x ≤ 100000) ∧ (-100000 ≤ p.y ∧ p.y ≤ 100000)

end Go.Proofs.YtgcpegjggakemaaGreatDoor

namespace Go.Proofs.YtgcpegjggakemaaGreatDoor
open Go Go.RowKit Go.Bl

set_option maxHeartbeats 400000 in
theorem cloneRg_any (A : Option Addr) (c : Nat) (l : List Pt) (w : World) (hl : Sl w 0 A l) (hlen : l.length ≤ 1000000) :
    Calls Tryz.prog 38 #[.slice A l.length c] w fun e w' => ∃ A' c', e = .returned (.slice A' l.length c') ∧ Own w' w.heap.size 30 A' c' l ∧ w.grownBy w' none := by
  obtain ⟨i0, hi, hz, h1, h2⟩ := info_parts info_pt
  have hq := fun W => Lib.run_eql_slice_nil (P := Tryz.prog) W 66 30 A l.length c 0 0 Tryz.underlying66
  rcases A with _ | ad
  · have hl0 : l = [] := by
      rcases Nat.eq_zero_or_pos l.length with h | h
      · exact List.eq_nil_of_length_eq_zero h
      · obtain ⟨g, o, cx, e, _⟩ := hl.at_ (by decide) h
        cases e
    subst hl0
    simp only [List.length_nil] at hq
    go_enter Tryz.func38, Tryz.ntmps38
    go_wp2_with fail
    go_ret
    exact ⟨none, 0, rfl, Own.nil _ _ _, World.grownBy.refl _ _⟩
  · go_enter Tryz.func38, Tryz.ntmps38
    go_wp2_with (at_builtin; refine wpList_push (α := Pt) _ rfl (.tmp 5) (.tmp 6) _ rfl w.heap.size 30 i0 _ 16 Tryz.underlying66 hi hz h1 h2 rfl _ _ _ [] rfl rfl (by exact Own.empty _ _ _ (Nat.le_refl _)) 0 ad _ c l rfl rfl (by exact hl.pure (gr_alloc (World.grownBy.refl _ _) _)) ?c2 ?c3 ?c4 ?_)
    case c2 => simp; omega
    case c3 => simp [maxLen]; omega
    case c4 => simp
    intro A2 c2 w2 hown hup
    go_wp2
    go_ret
    exact ⟨A2, c2, rfl, hown, hup.gr (Nat.le_refl _) (gr_alloc (World.grownBy.refl _ _) _)⟩

end Go.Proofs.YtgcpegjggakemaaGreatDoor

namespace Go.Proofs.YtgcpegjggakemaaGreatDoor
open Go.RowKit Go.Bl

end Go.Proofs.YtgcpegjggakemaaGreatDoor

namespace Go.Proofs.YtgcpegjggakemaaGreatDoor
open Go.RowKit Go.Bl

set_option maxHeartbeats 400000 in
theorem volumeGo_any (A : Option Addr) (c : Nat) (l : List Bead) (w : World) (hl : Sl w 0 A l) :
    Calls Tryz.prog 123 #[.slice A l.length c] w fun e w' => e = .returned (.tuple #[.int .i64 (volumeOf l), .int .i64 (fedFault l)]) ∧ w.grownBy w' none := by
  by_cases h : checkBeads l = 0
  · have hb : (checkBeads l != 0) = false := by simp [h]
    by_cases h3 : 1000000000000000000 < volW l
    · have HS : Hid (12 = fedFault l) := by simp [Hid, fedFault, h, h3]
      have HV : Hid (0 = volumeOf l) := by simp only [Hid, volumeOf]; rw [if_pos (by rw [← HS.out]; simp)]
      clear h
      go_enter Tryz.func123, Tryz.ntmps123
      go_wp2_with fail
      refine (checkBeads_any _ _ _ _ hl).mono ?_
      rintro e w1 ⟨rfl, hg⟩
      go_wp2_with fail
      refine (volume_any _ _ _ _ (hl.pure hg)).mono ?_
      rintro e w2 ⟨rfl, hg2⟩
      go_wp2_with fail
      go_ret2
      exact ⟨by rw [← HS.out, ← HV.out]; rfl, gr_trans hg hg2⟩
    · have HS : Hid (0 = fedFault l) := by simp [Hid, fedFault, h, h3]
      have HV : Hid (volW l = volumeOf l) := by simp only [Hid, volumeOf]; rw [if_neg (by rw [← HS.out]; simp)]
      clear h
      go_enter Tryz.func123, Tryz.ntmps123
      go_wp2_with fail
      refine (checkBeads_any _ _ _ _ hl).mono ?_
      rintro e w1 ⟨rfl, hg⟩
      go_wp2_with fail
      refine (volume_any _ _ _ _ (hl.pure hg)).mono ?_
      rintro e w2 ⟨rfl, hg2⟩
      go_wp2_with fail
      go_ret2
      exact ⟨by rw [← HS.out, ← HV.out]; rfl, gr_trans hg hg2⟩
  · have hb : (checkBeads l != 0) = true := by simp [h]
    have HS : Hid (checkBeads l = fedFault l) := by simp [Hid, fedFault, h]
    have HV : Hid (0 = volumeOf l) := by simp only [Hid, volumeOf]; rw [if_pos (by rw [← HS.out]; exact h)]
    clear h
    go_enter Tryz.func123, Tryz.ntmps123
    go_wp2_with fail
    refine (checkBeads_any _ _ _ _ hl).mono ?_
    rintro e w1 ⟨rfl, hg⟩
    go_wp2_with fail
    go_ret2
    exact ⟨by rw [← HS.out, ← HV.out]; rfl, hg⟩

def aBead : List Bead := [⟨10, 3, 2⟩]

end Go.Proofs.YtgcpegjggakemaaGreatDoor

/- Contracts of functions that this seat's laws reach, each: what one call returns and what it leaves in memory; no condition beyond each theorem's own hypotheses. -/
import Derived.Test.YtmhnjpcjagbdhaaGreatZqPathE
import Derived.Test.YtmhnjpcjagbdhaaGreatZqKit3
set_option linter.unusedVariables false
set_option linter.unusedSimpArgs false
namespace Go.Proofs.YtmhnjpcjagbdhaaGreat
open Go.RowKit Go.Bl

set_option maxHeartbeats 400000 in
theorem clonePt_any (A : Option Addr) (c : Nat) (l : List Pt) (w : World) (hl : Sl w 0 A l) (hlen : l.length ≤ 1000000) :
    Calls Tryz.prog 46 #[.slice A l.length c] w fun e w' => ∃ A' c', e = .returned (.slice A' l.length c') ∧ Own w' w.heap.size 29 A' c' l ∧ w.grownBy w' none := by
  obtain ⟨i0, hi, hz, h1, h2⟩ := info_parts info_pt
  have hq := fun W => Lib.run_eql_slice_nil (P := Tryz.prog) W 56 29 A l.length c 0 0 Tryz.underlying56
  rcases A with _ | ad
  · have hl0 : l = [] := by
      rcases Nat.eq_zero_or_pos l.length with h | h
      · exact List.eq_nil_of_length_eq_zero h
      · obtain ⟨g, o, cx, e, _⟩ := hl.at_ (by decide) h
        cases e
    subst hl0
    simp only [List.length_nil] at hq
    go_enter Tryz.func46, Tryz.ntmps46
    go_wp2_with fail
    go_ret
    exact ⟨none, 0, rfl, Own.nil _ _ _, World.grownBy.refl _ _⟩
  · go_enter Tryz.func46, Tryz.ntmps46
    go_wp2_with (at_builtin; refine wpList_push (α := Pt) _ rfl (.tmp 5) (.tmp 6) _ rfl w.heap.size 29 i0 _ 16 Tryz.underlying56 hi hz h1 h2 rfl _ _ _ [] rfl rfl (by exact Own.empty _ _ _ (Nat.le_refl _)) 0 ad _ c l rfl rfl (by exact hl.pure (gr_alloc (World.grownBy.refl _ _) _)) ?c2 ?c3 ?c4 ?_)
    case c2 => simp; omega
    case c3 => simp [maxLen]; omega
    case c4 => simp
    intro A2 c2 w2 hown hup
    go_wp2
    go_ret
    exact ⟨A2, c2, rfl, hown, hup.gr (Nat.le_refl _) (gr_alloc (World.grownBy.refl _ _) _)⟩

set_option maxHeartbeats 800000 in
theorem equalPt_any (A : Option Addr) (c : Nat) (l : List Pt) (B : Option Addr) (d : Nat) (m : List Pt) (w : World) (hl : Sl w 0 A l) (hm : Sl w 0 B m) :
    Calls Tryz.prog 59 #[.slice A l.length c, .slice B m.length d] w fun e w' => e = .returned (.bool (eqB l m)) ∧ w.grownBy w' none := by
  have hm1 := hl.1
  have hm2 := hm.1
  unfold maxLen at hm1 hm2
  by_cases hlen : l.length = m.length
  · have hb : (l.length != m.length) = false := by simp [hlen]
    have hb2 : ((l.length : Int) != m.length) = false := by simp [hlen]
    replace hlen := hide hlen
    go_enter Tryz.func59, Tryz.ntmps59
    go_wp2
    go_loopw [13] (fun i wr => ∃ k : Nat, k ≤ l.length ∧ i = .int .i64 k ∧ w.grownBy wr none ∧ Hid (l.take k = m.take k)) (fun i _ => l.length - (intOf i).toNat)
    case atStart => exact ⟨0, Nat.zero_le _, rfl, World.grownBy.refl _ _, rfl⟩
    case round =>
      obtain ⟨k, hk, rfl, hg, hq⟩ := hrel
      by_cases hlt : k < l.length
      · have hlt2 : k < m.length := by rw [← hlen.out]; exact hlt
        obtain ⟨g, o, cx, rfl, hb0, hb1, rfl, hc⟩ := (hl.pure hg).at_ (by decide) hlt
        have c0 : wr.cell? ⟨g, o + k * 2, none⟩ = some (.int .i64 l[k].x) := hc 0 _ rfl
        have c1 : wr.cell? ⟨g, o + k * 2 + 1, none⟩ = some (.int .i64 l[k].y) := hc 1 _ rfl
        clear hc
        obtain ⟨g', o', cx, rfl, hb0', hb1', rfl, hc⟩ := (hm.pure hg).at_ (by decide) hlt2
        have c0' : wr.cell? ⟨g', o' + k * 2, none⟩ = some (.int .i64 m[k].x) := hc 0 _ rfl
        have c1' : wr.cell? ⟨g', o' + k * 2 + 1, none⟩ = some (.int .i64 m[k].y) := hc 1 _ rfl
        clear hc
        have HS : Hid (l[k] = m[k] → l.take (k + 1) = m.take (k + 1)) := fun h => by rw [take_snoc hlt, take_snoc hlt2, hq.out, h]
        have HN : Hid (l[k] ≠ m[k] → eqB l m = false) := fun h => eqB_ne hlt hlt2 h
        go_wp2_with fail
        refine wp_region_fix 8 ((fun wx => wr.grownBy wx none)) (by kernel_rfl) (by kernel_rfl) (gr_drew (World.grownBy.refl _ _)) ?_
        simp only [List.take_succ_cons, List.take_zero, List.drop_succ_cons, List.drop_zero]
        iterate 3 ((refine fix_b (fun K hK => ?_); apply Exists.intro; refine ⟨fun wx hC K' hK' => ?_, ?_⟩; (focus (replace hK' := hide hK'; skip; go_wp2_with fail; exact hK'.out _ hC)); go_simp; refine hK _ ?_; clear hK K))
        (refine fix_b (fun K hK => ?_); apply Exists.intro; refine ⟨fun wx hC K' hK' => ?_, ?_⟩; (focus (replace hK' := hide hK'; (have b0 := hC.k c0; have b1 := hC.k c1); go_wp2_with fail; exact hK'.out _ hC)); go_simp; refine hK _ ?_; clear hK K)
        iterate 3 ((refine fix_b (fun K hK => ?_); apply Exists.intro; refine ⟨fun wx hC K' hK' => ?_, ?_⟩; (focus (replace hK' := hide hK'; skip; go_wp2_with fail; exact hK'.out _ hC)); go_simp; refine hK _ ?_; clear hK K))
        (refine fix_b (fun K hK => ?_); apply Exists.intro; refine ⟨fun wx hC K' hK' => ?_, ?_⟩; (focus (replace hK' := hide hK'; (have b0 := hC.k c0'; have b1 := hC.k c1'); go_wp2_with fail; exact hK'.out _ hC)); go_simp; refine hK _ ?_; clear hK K)
        refine fix_nil ?_
        intro wz hC
        go_wp2_with fail
        all_goals first
          | (go_ret; exact ⟨ret_bool (HN.out (fun h => by simp_all)).symm, (by repeat (first | exact World.grownBy.refl _ _ | assumption | refine gr_alloc ?_ _ | (apply gr_tail; assumption) | refine gr_drewN ?_ _ | refine gr_drew ?_))⟩)
          | (go_roundw; (case rel => exact ⟨k + 1, by omega, by go_num, (by repeat (first | exact World.grownBy.refl _ _ | assumption | refine gr_alloc ?_ _ | (apply gr_tail; assumption) | refine gr_drewN ?_ _ | refine gr_drew ?_)), HS.out (Pt.ext ‹_› ‹_›)⟩); (case measure => simp [intOf]; omega))
      · have HB : Hid (eqB l m = true) := eqB_all hlen.out (by have := hq.out; rwa [show k = l.length by omega] at this)
        go_wp2
        go_ret
        exact ⟨ret_bool HB.out.symm, hg⟩
  · have hb : (l.length != m.length) = true := by simp [hlen]
    have hb2 : ((l.length : Int) != m.length) = true := by simp; omega
    have HB := hide (eqB_len hlen)
    clear hlen
    go_enter Tryz.func59, Tryz.ntmps59
    go_wp2
    go_ret
    exact ⟨ret_bool HB.out.symm, World.grownBy.refl _ _⟩

set_option maxHeartbeats 400000 in
theorem absP_any (n : Int) (w : World) (h : -9000000000000000000 ≤ n ∧ n ≤ 9000000000000000000) : Calls Tryz.prog 76 #[.int .i64 n] w fun e w' => e = .returned (.int .i64 (max n (-n))) ∧ w = w' := by
  go_enter Tryz.func76, Tryz.ntmps76
  go_wp2
  all_goals (go_ret; exact ⟨ret_int (by omega), rfl⟩)

def dist (a b : Pt) : Int := max (max (a.x - b.x) (-(a.x - b.x))) (max (a.y - b.y) (-(a.y - b.y)))

theorem dist_eq (a b : Pt) : dist a b = distP a b := by unfold dist distP; omega

def near (p : Pt) : Prop := (-100000 ≤ p.x ∧ p.x ≤ 100000) ∧ (-100000 ≤ p.y ∧ p.y ≤ 100000)

theorem near_of {p : Pt} (h : farP p = false) : near p := by
  unfold farP at h
  rw [Bool.or_eq_false_iff] at h
  exact ⟨outB_false h.1, outB_false h.2⟩

theorem distP_bd {a b : Pt} (ha : near a) (hb : near b) : 0 ≤ distP a b ∧ distP a b ≤ 200000 := by unfold near at ha hb; unfold distP; omega

set_option maxHeartbeats 800000 in
theorem distance_any (a b : Pt) (w : World) (ha : near a) (hb : near b) : Calls Tryz.prog 44 #[.agg #[.int .i64 a.x, .int .i64 a.y], .agg #[.int .i64 b.x, .int .i64 b.y]] w fun e w' => e = .returned (.int .i64 (distP a b)) ∧ w.grownBy w' none := by
  obtain ⟨⟨ha1, ha2⟩, ⟨ha3, ha4⟩⟩ := ha
  obtain ⟨⟨hb1, hb2⟩, ⟨hb3, hb4⟩⟩ := hb
  have HD := hide (dist_eq a b)
  have hx : wrap64 (a.x - b.x) = a.x - b.x := i64_in (by omega)
  have hy : wrap64 (a.y - b.y) = a.y - b.y := i64_in (by omega)
  go_enter Tryz.func44, Tryz.ntmps44
  go_wp2_with fail
  go_quiet ((go_at_call 76; exact Calls.quiet_of_same (((absP_any _ _ (by omega)).mono fun e w' h => ⟨h.1, h.2.symm⟩))))
  go_wp2_with fail
  all_goals (go_ret; exact ⟨ret_int (by rw [← HD.out]; unfold dist; omega), (by repeat (first | exact World.grownBy.refl _ _ | assumption | refine gr_alloc ?_ _ | (apply gr_tail; assumption) | refine gr_drewN ?_ _ | refine gr_drew ?_))⟩)

set_option maxHeartbeats 800000 in
theorem apart_any (a b : Pt) (w : World) (ha : near a) (hb : near b) : Calls Tryz.prog 53 #[.agg #[.int .i64 a.x, .int .i64 a.y], .agg #[.int .i64 b.x, .int .i64 b.y]] w fun e w' => e = .returned (.int .i64 (distP a b)) ∧ w.grownBy w' none := by
  obtain ⟨⟨ha1, ha2⟩, ⟨ha3, ha4⟩⟩ := ha
  obtain ⟨⟨hb1, hb2⟩, ⟨hb3, hb4⟩⟩ := hb
  obtain ⟨D, hD⟩ : ∃ D : Int, D = distP a b := ⟨_, rfl⟩
  rw [← hD]
  replace hD := hide hD
  have hmx := fun W ts t x y z u => run_max4 (P := Tryz.prog) W ts t .i64 x y z u
  go_enter Tryz.func53, Tryz.ntmps53
  go_wp2_with fail
  go_ret
  exact ⟨ret_int (by rw [hD.out]; unfold distP; omega), (by repeat (first | exact World.grownBy.refl _ _ | assumption | refine gr_alloc ?_ _ | (apply gr_tail; assumption) | refine gr_drewN ?_ _ | refine gr_drew ?_))⟩

end Go.Proofs.YtmhnjpcjagbdhaaGreat

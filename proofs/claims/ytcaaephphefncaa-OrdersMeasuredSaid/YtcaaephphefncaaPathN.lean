/- Contracts of functions that this seat's laws reach, each: what one call returns and what it leaves in memory; no condition beyond each theorem's own hypotheses. -/
import Derived.Test.YtcaaephphefncaaPathK
set_option linter.unusedVariables false
set_option linter.unusedSimpArgs false
namespace Go.Proofs.Ytcaaephphefncaa
open Go.RowKit Go.Bl

def stepL (p : PathV) (i : Nat) : Int := if i = 0 then (if p.cl then distP (p.pts.getD (p.pts.length - 1) default) (p.pts.getD 0 default) else 0) else distP (p.pts.getD (i - 1) default) (p.pts.getD i default)
def longTo (p : PathV) (k : Nat) : Int := ((List.range k).map (stepL p)).sum
theorem longTo_succ (p : PathV) (k : Nat) : longTo p (k + 1) = longTo p k + stepL p k := by unfold longTo; rw [List.range_succ, List.map_append, List.sum_append]; simp
def longP (p : PathV) : Int := longTo p p.pts.length
def longs (l : List PathV) : List Int := l.map longP
def longSum (l : List PathV) : Int := (longs l).sum
theorem longs_snoc {l : List PathV} {k : Nat} (h : k < l.length) : longs (l.take (k + 1)) = longs (l.take k) ++ [longP l[k]] := by unfold longs; rw [take_snoc h, List.map_append]; rfl
theorem longSum_snoc {l : List PathV} {k : Nat} (h : k < l.length) : longSum (l.take (k + 1)) = longSum (l.take k) + longP l[k] := by unfold longSum; rw [longs_snoc h, List.sum_append]; simp
theorem stepL_bd {p : PathV} (h : pathF p = 0) {i : Nat} (hi : i < p.pts.length) : 0 ≤ stepL p i ∧ stepL p i ≤ 200000 := by
  have hn : ∀ j, j < p.pts.length → near (p.pts.getD j default) := fun j hj => by
    have e : p.pts.getD j default = p.pts[j] := by simp [List.getD, hj]
    rw [e]; exact near_of ((pathF_zero h).2.2 _ (List.getElem_mem _))
  unfold stepL
  split
  · split
    · exact distP_bd (hn _ (by omega)) (hn _ (by omega))
    · omega
  · exact distP_bd (hn _ (by omega)) (hn _ hi)
theorem longTo_bd {p : PathV} (h : pathF p = 0) : ∀ k, k ≤ p.pts.length → 0 ≤ longTo p k ∧ longTo p k ≤ k * 200000
  | 0, _ => by simp [longTo]
  | k + 1, hk => by
    have := longTo_bd h k (by omega)
    have := stepL_bd h (show k < p.pts.length by omega)
    rw [longTo_succ]; omega
theorem longP_bd {p : PathV} (h : pathF p = 0) : 0 ≤ longP p ∧ longP p ≤ 100000000 := by
  have := longTo_bd h p.pts.length (Nat.le_refl _)
  have := (pathF_zero h).2.1
  unfold longP; omega
theorem longSum_bd {l : List PathV} (h : ∀ p ∈ l, pathF p = 0) : ∀ k, k ≤ l.length → 0 ≤ longSum (l.take k) ∧ longSum (l.take k) ≤ k * 100000000
  | 0, _ => by simp [longSum, longs]
  | k + 1, hk => by
    have := longSum_bd h k (by omega)
    have := longP_bd (h l[k] (List.getElem_mem _))
    rw [longSum_snoc (by omega)]; omega

def longF (l : List PathV) : List Int := if pathsF l = 0 then longs l else []
def longS (l : List PathV) : Int := if pathsF l = 0 then longSum l else 0

set_option maxHeartbeats 1000000 in
set_option maxRecDepth 100000 in
theorem long_any (A : Option Addr) (c : Nat) (l : List PathV) (w : World) (hl : Sl w 0 A l) :
    Calls Try.prog 53 #[.slice A l.length c] w fun e w' => ∃ A' c', e = .returned (.tuple #[.slice A' (longF l).length c', .int .i64 (longS l), .int .i64 (pathsF l)]) ∧ Own w' w.heap.size 3 A' c' (longF l) ∧ w.grownBy w' none := by
  by_cases hzp : pathsF l = 0
  · have hb : (pathsF l != 0) = false := by simp [hzp]
    have HF : Hid (longF l = longs l) := by rw [Hid]; unfold longF; rw [if_pos hzp]
    have HS : Hid (longS l = longSum l) := by rw [Hid]; unfold longS; rw [if_pos hzp]
    obtain ⟨hll, hpf⟩ := pathsF_zero hzp
    have hsb := hide (longSum_bd hpf)
    replace hpf := hide hpf
    have HZ := hide hzp
    clear hzp
    obtain ⟨i0, hi, hz, h1, h2⟩ := info_parts info_int
    go_enter Try.func53, Try.ntmps53
    go_wp2_with fail
    refine (checkPaths_any _ _ l _ hl).mono ?_
    rintro e w1 ⟨rfl, hg1⟩
    go_wp2_with fail
    go_loopw [6, 7, 20] (fun o n i wr => ∃ (k : Nat) (A' : Option Addr) (c' : Nat), k ≤ l.length ∧ i = .int .i64 k ∧ n = .int .i64 (longSum (l.take k)) ∧ o = .slice A' k c' ∧ Own wr w.heap.size 3 A' c' (longs (l.take k)) ∧ w.grownBy wr none) (fun _ _ i _ => l.length - (intOf i).toNat)
    case atStart => exact ⟨0, none, 0, Nat.zero_le _, rfl, rfl, rfl, Own.nil _ _ _, hg1⟩
    case round =>
      obtain ⟨k, A1, c1', hk, rfl, rfl, rfl, hown, hg⟩ := hrel
      obtain ⟨hs0, hs1⟩ := hsb.out k hk
      have hkl : Hid ((longs (l.take k)).length = k) := by simp [Hid, longs]; omega
      by_cases hlt : k < l.length
      · have hs2 := hide (longSum_snoc hlt)
        have hs3 := hide (longs_snoc hlt)
        obtain ⟨g, o, cx, rfl, hb0, hb1, ⟨A', c', rfl, hcp, hpts⟩, hc⟩ := (hl.pure hg).at_ (by decide) hlt
        have c0 : wr.cell? ⟨g, o + k * 2, none⟩ = some (.slice A' l[k].pts.length c') := hc 0 _ rfl
        have c1 : wr.cell? ⟨g, o + k * 2 + 1, none⟩ = some (.bool l[k].cl) := hc 1 _ rfl
        clear hc
        have hp0 := hpf.out l[k] (List.getElem_mem _)
        obtain ⟨hq0, hq1, hq2⟩ := pathF_zero hp0
        have hlb := longP_bd hp0
        have hst := hide (fun i hi => stepL_bd hp0 (i := i) hi)
        have hlo := hide (longTo_bd hp0)
        replace hp0 := hide hp0
        have hbx := gr_alloc (r := none) (World.grownBy.refl wr none) (.cells #[.slice A' l[k].pts.length c', .bool l[k].cl] 71)
        have D0 := (Cell.new wr [.slice A' l[k].pts.length c', .bool l[k].cl] 71 0 _ rfl _ rfl).1
        have D1 := (Cell.new wr [.slice A' l[k].pts.length c', .bool l[k].cl] 71 1 _ rfl _ rfl).1
        replace hpts := hpts.pure hbx
        obtain ⟨W, hW⟩ : ∃ W : World, W = wr := ⟨_, rfl⟩
        subst hW
        have hLP : Hid (longP l[k] = longTo l[k] l[k].pts.length) := rfl
        generalize l[k] = p at *
        go_wp2_with fail
        generalize hWb : W.alloc (.cells #[.slice A' p.pts.length c', .bool p.cl] 71) = Wb at *
        replace hWb := hide hWb
        go_loopw [10, 27] (fun n i wx => ∃ j : Nat, j ≤ p.pts.length ∧ i = .int .i64 j ∧ n = .int .i64 (longTo p j) ∧ Wb.grownBy wx none) (fun _ i _ => p.pts.length - (intOf i).toNat)
        case atStart => exact ⟨0, Nat.zero_le _, rfl, rfl, World.grownBy.refl _ _⟩
        case round =>
          obtain ⟨j, hj, rfl, rfl, hgx⟩ := hrel
          obtain ⟨hl0, hl1⟩ := hlo.out j hj
          have hj5 : j ≤ 500 := by omega
          by_cases hjl : j < p.pts.length
          · have hls := hide (longTo_succ p j)
            obtain ⟨hs5, hs6⟩ := hst.out j hjl
            obtain ⟨g2, o2, cx, rfl, hb2, hb3, rfl, hc⟩ := (hpts.pure hgx).at_ (by decide) hjl
            have p0 : wr.cell? ⟨g2, o2 + j * 2, none⟩ = some (.int .i64 p.pts[j].x) := hc 0 _ rfl
            have p1 : wr.cell? ⟨g2, o2 + j * 2 + 1, none⟩ = some (.int .i64 p.pts[j].y) := hc 1 _ rfl
            clear hc
            have hdj : near p.pts[j] := near_of (hq2 _ (List.getElem_mem _))
            have hneW : W.heap.size ≠ wr.heap.size := by have := hgx.size; have := cell_lt D0; simp only at this; omega
            have d0 := hgx.k D0
            have d1 := hgx.k D1
            rcases Nat.eq_zero_or_pos j with h0 | h0
            · subst h0
              rw [Nat.zero_mul, Nat.add_zero] at p0
              rw [Nat.zero_mul, Nat.add_zero] at p1
              rw [show ((0 : Nat) : Int) = 0 from rfl]
              cases hcl : p.cl
              · rw [hcl] at d1
                have hsi : Hid (longTo p (0 + 1) = longTo p 0) := by rw [Hid, hls.out]; simp [stepL, hcl]
                clear hcl
                clear hq2 hl0 hl1 hs5 hs6 hj
                have fa := (gr_alloc (r := none) (World.grownBy.refl wr none) (.cells #[.int .i64 (p.pts[0]'(by omega)).x, .int .i64 (p.pts[0]'(by omega)).y] 27)).k d1
                go_wp2_with fail
                (go_roundw; (case rel => exact ⟨1, by omega, by go_num, by rw [hsi.out], gr_alloc hgx _⟩); (case measure => simp [intOf]; omega))
              · rw [hcl] at d1
                obtain ⟨m, hm1⟩ : ∃ m : Nat, p.pts.length = m + 1 := ⟨p.pts.length - 1, by omega⟩
                have hil : m < p.pts.length := by omega
                obtain ⟨g3, o3, cx, e3, _, _, rfl, hc⟩ := (hpts.pure hgx).at_ (by decide) hil
                injection e3 with e3; injection e3 with e3 e4; subst e3; subst e4
                have r0 : wr.cell? ⟨g2, o2 + m * 2, none⟩ = some (.int .i64 p.pts[m].x) := hc 0 _ rfl
                have r1 : wr.cell? ⟨g2, o2 + m * 2 + 1, none⟩ = some (.int .i64 p.pts[m].y) := hc 1 _ rfl
                clear hc
                have hdi : near p.pts[m] := near_of (hq2 _ (List.getElem_mem _))
                have hsi : Hid (longTo p (0 + 1) = longTo p 0 + distP p.pts[m] (p.pts[0]'(by omega))) := by
                  rw [Hid, hls.out]
                  simp [stepL, List.getD, hcl, hm1, hjl]
                have hdb := distP_bd hdi hdj
                generalize p.pts[m] = Pi at *
                generalize p.pts[0]'_ = Pj at *
                rw [hm1] at d0
                have hm5 : m + 1 ≤ 500 := by omega
                have hml : Hid (p.pts.length = m + 1) := hm1
                have hl3 : longTo p 0 ≤ 10 := by simp at hl1; omega
                clear hcl hm1 hq2 hl1 hs5 hs6 hj
                have fa := (gr_alloc (r := none) (World.grownBy.refl wr none) (.cells #[.int .i64 Pj.x, .int .i64 Pj.y] 27)).k d1
                go_wp2_with fail
                have gx := gr_alloc (r := none) (World.grownBy.refl wr none) (.cells #[.int .i64 Pj.x, .int .i64 Pj.y] 27)
                have q0 := (Cell.new wr [.int .i64 Pj.x, .int .i64 Pj.y] 27 0 _ rfl _ rfl).1
                have q1 := (Cell.new wr [.int .i64 Pj.x, .int .i64 Pj.y] 27 1 _ rfl _ rfl).1
                have f0 := gx.k d0
                have t0 := gx.k r0
                have t1 := gx.k r1
                refine wp_region_fix 12 ((fun wx => (wr.alloc (.cells #[.int .i64 Pj.x, .int .i64 Pj.y] 27)).grownBy wx none)) (by kernel_rfl) (by kernel_rfl) (gr_drew (World.grownBy.refl _ _)) ?_
                simp only [List.take_succ_cons, List.take_zero, List.drop_succ_cons, List.drop_zero]
                (refine fix_b (fun K hK => ?_); apply Exists.intro; refine ⟨fun wx hC K' hK' => ?_, ?_⟩; (focus (replace hK' := hide hK'; skip; go_wp2_with fail; exact hK'.out _ hC)); go_simp; refine hK _ ?_; clear hK K)
                (refine fix_b (fun K hK => ?_); apply Exists.intro; refine ⟨fun wx hC K' hK' => ?_, ?_⟩; (focus (replace hK' := hide hK'; skip; go_wp2_with fail; exact hK'.out _ hC)); go_simp; refine hK _ ?_; clear hK K)
                (refine fix_b (fun K hK => ?_); apply Exists.intro; refine ⟨fun wx hC K' hK' => ?_, ?_⟩; (focus (replace hK' := hide hK'; (have y0 := hC.k f0); go_wp2_with fail; exact hK'.out _ hC)); go_simp; refine hK _ ?_; clear hK K)
                (refine fix_b (fun K hK => ?_); apply Exists.intro; refine ⟨fun wx hC K' hK' => ?_, ?_⟩; (focus (replace hK' := hide hK'; skip; go_wp2_with fail; exact hK'.out _ hC)); go_simp; refine hK _ ?_; clear hK K)
                (refine fix_b (fun K hK => ?_); apply Exists.intro; refine ⟨fun wx hC K' hK' => ?_, ?_⟩; (focus (replace hK' := hide hK'; (have y0 := hC.k f0); go_wp2_with fail; exact hK'.out _ hC)); go_simp; refine hK _ ?_; clear hK K)
                iterate 3 ((refine fix_b (fun K hK => ?_); apply Exists.intro; refine ⟨fun wx hC K' hK' => ?_, ?_⟩; (focus (replace hK' := hide hK'; skip; go_wp2_with fail; exact hK'.out _ hC)); go_simp; refine hK _ ?_; clear hK K))
                (refine fix_b (fun K hK => ?_); apply Exists.intro; refine ⟨fun wx hC K' hK' => ?_, ?_⟩; (focus (replace hK' := hide hK'; (have y0 := hC.k t0; have y1 := hC.k t1); go_wp2_with fail; exact hK'.out _ hC)); go_simp; refine hK _ ?_; clear hK K)
                (refine fix_b (fun K hK => ?_); apply Exists.intro; refine ⟨fun wx hC K' hK' => ?_, ?_⟩; (focus (replace hK' := hide hK'; (have y0 := hC.k q0; have y1 := hC.k q1); go_wp2_with fail; exact hK'.out _ hC)); go_simp; refine hK _ ?_; clear hK K)
                (refine fix_b (fun K hK => ?_); apply Exists.intro; refine ⟨fun wx hC K' hK' => ?_, ?_⟩; (focus (replace hK' := hide hK'; skip; go_wp2_with fail; (refine (distance_any Pi Pj _ hdi hdj).mono ?_; rintro e w' ⟨rfl, hg'⟩; go_wp2_with fail; exact hK'.out _ (gr_trans hC hg')))); go_simp; refine hK _ ?_; clear hK K)
                (refine fix_b (fun K hK => ?_); apply Exists.intro; refine ⟨fun wx hC K' hK' => ?_, ?_⟩; (focus (replace hK' := hide hK'; skip; go_wp2_with fail; exact hK'.out _ hC)); go_simp; refine hK _ ?_; clear hK K)
                refine fix_nil ?_
                intro wz hC
                go_wp2_with fail
                (go_roundw; (case rel => exact ⟨1, by omega, by go_num, by first | rw [hsi.out] | rw [hls.out, hsi.out], gr_trans (gr_alloc hgx _) hC⟩); (case measure => simp [intOf]; omega))
            · obtain ⟨i, rfl⟩ : ∃ i, j = i + 1 := ⟨j - 1, by omega⟩
              have hil : i < p.pts.length := by omega
              obtain ⟨g3, o3, cx, e3, _, _, rfl, hc⟩ := (hpts.pure hgx).at_ (by decide) hil
              injection e3 with e3; injection e3 with e3 e4; subst e3; subst e4
              have r0 : wr.cell? ⟨g2, o2 + i * 2, none⟩ = some (.int .i64 p.pts[i].x) := hc 0 _ rfl
              have r1 : wr.cell? ⟨g2, o2 + i * 2 + 1, none⟩ = some (.int .i64 p.pts[i].y) := hc 1 _ rfl
              clear hc
              have hdi : near p.pts[i] := near_of (hq2 _ (List.getElem_mem _))
              have hsi : Hid (stepL p (i + 1) = distP p.pts[i] p.pts[i + 1]) := by simp [Hid, stepL, List.getD, hil, hjl]
              have hdb := distP_bd hdi hdj
              have hij : ((i + 1 : Nat) : Int) - 1 = i := by omega
              generalize p.pts[i] = Pi at *
              generalize p.pts[i + 1] = Pj at *
              go_wp2_with fail
              have gx := gr_alloc (r := none) (World.grownBy.refl wr none) (.cells #[.int .i64 Pj.x, .int .i64 Pj.y] 27)
              have q0 := (Cell.new wr [.int .i64 Pj.x, .int .i64 Pj.y] 27 0 _ rfl _ rfl).1
              have q1 := (Cell.new wr [.int .i64 Pj.x, .int .i64 Pj.y] 27 1 _ rfl _ rfl).1
              have f0 := gx.k d0
              have t0 := gx.k r0
              have t1 := gx.k r1
              refine wp_region_fix 10 ((fun wx => (wr.alloc (.cells #[.int .i64 Pj.x, .int .i64 Pj.y] 27)).grownBy wx none)) (by kernel_rfl) (by kernel_rfl) (gr_drew (World.grownBy.refl _ _)) ?_
              simp only [List.take_succ_cons, List.take_zero, List.drop_succ_cons, List.drop_zero]
              (refine fix_b (fun K hK => ?_); apply Exists.intro; refine ⟨fun wx hC K' hK' => ?_, ?_⟩; (focus (replace hK' := hide hK'; skip; go_wp2_with fail; exact hK'.out _ hC)); go_simp; refine hK _ ?_; clear hK K)
              (refine fix_b (fun K hK => ?_); apply Exists.intro; refine ⟨fun wx hC K' hK' => ?_, ?_⟩; (focus (replace hK' := hide hK'; skip; go_wp2_with fail; exact hK'.out _ hC)); go_simp; refine hK _ ?_; clear hK K)
              (refine fix_b (fun K hK => ?_); apply Exists.intro; refine ⟨fun wx hC K' hK' => ?_, ?_⟩; (focus (replace hK' := hide hK'; (have y0 := hC.k f0); go_wp2_with fail; exact hK'.out _ hC)); go_simp; refine hK _ ?_; clear hK K)
              iterate 3 ((refine fix_b (fun K hK => ?_); apply Exists.intro; refine ⟨fun wx hC K' hK' => ?_, ?_⟩; (focus (replace hK' := hide hK'; skip; go_wp2_with fail; exact hK'.out _ hC)); go_simp; refine hK _ ?_; clear hK K))
              (refine fix_b (fun K hK => ?_); apply Exists.intro; refine ⟨fun wx hC K' hK' => ?_, ?_⟩; (focus (replace hK' := hide hK'; (have y0 := hC.k t0; have y1 := hC.k t1); go_wp2_with fail; exact hK'.out _ hC)); go_simp; refine hK _ ?_; clear hK K)
              (refine fix_b (fun K hK => ?_); apply Exists.intro; refine ⟨fun wx hC K' hK' => ?_, ?_⟩; (focus (replace hK' := hide hK'; (have y0 := hC.k q0; have y1 := hC.k q1); go_wp2_with fail; exact hK'.out _ hC)); go_simp; refine hK _ ?_; clear hK K)
              (refine fix_b (fun K hK => ?_); apply Exists.intro; refine ⟨fun wx hC K' hK' => ?_, ?_⟩; (focus (replace hK' := hide hK'; skip; go_wp2_with fail; (refine (distance_any Pi Pj _ hdi hdj).mono ?_; rintro e w' ⟨rfl, hg'⟩; go_wp2_with fail; exact hK'.out _ (gr_trans hC hg')))); go_simp; refine hK _ ?_; clear hK K)
              (refine fix_b (fun K hK => ?_); apply Exists.intro; refine ⟨fun wx hC K' hK' => ?_, ?_⟩; (focus (replace hK' := hide hK'; skip; go_wp2_with fail; exact hK'.out _ hC)); go_simp; refine hK _ ?_; clear hK K)
              refine fix_nil ?_
              intro wz hC
              go_wp2_with fail
              (go_roundw; (case rel => exact ⟨i + 1 + 1, by omega, by go_num, by first | rw [hsi.out] | rw [hls.out, hsi.out], gr_trans (gr_alloc hgx _) hC⟩); (case measure => simp [intOf]; omega))
          · have hjj : j = p.pts.length := by omega
            subst hjj
            rw [← hLP.out]
            go_wp2_with (at_builtin; refine wpList_push (α := Int) _ rfl (.tmp 59) (.tmp 61) _ rfl w.heap.size 3 i0 _ 8 Try.underlying22 hi hz h1 h2 rfl _ _ _ (longs (l.take k)) rfl ?c1 (by exact ((hown.pure hbx).pure (by repeat (first | exact World.grownBy.refl _ _ | assumption | refine gr_alloc ?_ _)))) 0 ⟨_, 0, none⟩ 1 1 [longP p] rfl rfl (by exact sl_int1 _ _ _ _ (by first | rfl | simp)) ?c2 ?c3 ?c4 ?_)
            case c1 => exact hkl.out.symm
            case c2 => rw [hkl.out]; simp; omega
            case c3 => rw [hkl.out]; simp [maxLen]; omega
            case c4 => simp; have := hg.size; have := hbx.size; have := hgx.size; omega
            intro A2 c2 w2 hown2 hup2
            rw [← hs3.out] at hown2
            go_wp2
            (go_roundw; (case rel => exact ⟨k + 1, A2, c2, by omega, by go_num, by rw [hs2.out], by simp [hkl.out], hown2, hup2.gr (Nat.le_refl _) (gr_alloc (gr_trans (gr_trans hg hbx) hgx) _)⟩); (case measure => simp [intOf]; omega))
      · have hkk : k = l.length := by omega
        subst hkk
        have ht : Hid (l.take l.length = l) := List.take_length
        rw [ht.out] at hown hkl ⊢
        go_wp2
        go_ret3
        exact ⟨A1, c1', by rw [HF.out, HS.out, hkl.out, HZ.out]; rfl, by rw [HF.out]; exact hown, hg⟩
  · have hb : (pathsF l != 0) = true := by simp [hzp]
    have HF : Hid (longF l = []) := by rw [Hid]; unfold longF; rw [if_neg hzp]
    have HS : Hid (longS l = 0) := by rw [Hid]; unfold longS; rw [if_neg hzp]
    clear hzp
    go_enter Try.func53, Try.ntmps53
    go_wp2_with fail
    refine (checkPaths_any _ _ l _ hl).mono ?_
    rintro e w1 ⟨rfl, hg1⟩
    go_wp2_with fail
    go_ret3
    exact ⟨none, 0, by rw [HF.out, HS.out]; rfl, by rw [HF.out]; exact Own.nil _ _ _, hg1⟩

theorem longN_any (A : Option Addr) (n c : Nat) (l : List PathV) (hn : l.length = n) (w : World) (hl : Sl w 0 A l) :
    Calls Try.prog 53 #[.slice A n c] w fun e w' => ∃ A' c', e = .returned (.tuple #[.slice A' (longF l).length c', .int .i64 (longS l), .int .i64 (pathsF l)]) ∧ Own w' w.heap.size 3 A' c' (longF l) ∧ w.grownBy w' none := by
  subst hn
  exact long_any A c l w hl

theorem sl_litAt {α : Type} [Enc α] (w : World) (lo : Nat) (cs : List Value) (t : TypeId) (l : List α) (g : Nat) (hg : g = w.heap.size) (hlo : lo ≤ w.heap.size) (hm : l.length ≤ maxLen) (hr : Row (w.alloc (.cells cs.toArray t)) lo l cs) :
    Sl (w.alloc (.cells cs.toArray t)) lo (some ⟨g, 0, none⟩) l := by
  subst hg
  exact sl_lit w lo cs t l hlo hm hr

def onePath : List PathV := [⟨[⟨0, 0⟩, ⟨3, 2⟩], false⟩]

set_option maxHeartbeats 300000 in
theorem pathed_any (w : World) : Calls Try.prog 22 #[] w fun e w' => e = .returned (.bool true) ∧ w.grownBy w' none := by
  have e1 := hide (show longF onePath = [3] by decide +kernel)
  have e2 := hide (show longS onePath = 3 by decide +kernel)
  have e3 := hide (show pathsF onePath = 0 by decide +kernel)
  have hs1 : Sl (w.alloc (.cells #[.int .i64 0, .int .i64 0, .int .i64 3, .int .i64 2] 27)) 0 (some ⟨w.heap.size, 0, none⟩) [(⟨0, 0⟩ : Pt), ⟨3, 2⟩] := sl_lit w 0 [.int .i64 0, .int .i64 0, .int .i64 3, .int .i64 2] _ _ (Nat.zero_le _) (by simp [maxLen]) ⟨[.int .i64 0, .int .i64 0], _, rfl, rfl, _, [], rfl, rfl, rfl⟩
  have hs2 := hs1.pure (gr_alloc (World.grownBy.refl _ _) (.cells #[.slice (some ⟨w.heap.size, 0, none⟩) 2 2, .bool false] 71))
  have hs3 := sl_litAt (w.alloc (.cells #[.int .i64 0, .int .i64 0, .int .i64 3, .int .i64 2] 27)) 0 [.slice (some ⟨w.heap.size, 0, none⟩) 2 2, .bool false] 71 onePath (w.heap.size + 1) (by simp) (Nat.zero_le _) (by simp [maxLen, onePath]) ⟨_, [], rfl, ⟨_, _, rfl, by decide, hs2⟩, rfl⟩
  go_enter Try.func22, Try.ntmps22
  go_wp2_with fail
  refine (longN_any _ 1 1 onePath rfl _ hs3).mono ?_
  rintro e w1 ⟨A', c', rfl, hO, hg⟩
  rw [e1.out, e2.out, e3.out]
  rw [e1.out] at hO
  clear hs1 hs2 hs3
  have hgw := gr_trans (gr_alloc (gr_alloc (World.grownBy.refl w none) _) _) hg
  go_wp2_with fail
  refine (equalInts_any _ _ _ _ [3] [3] _ ((hO.sl.mono (Nat.zero_le _)).pure (gr_alloc (World.grownBy.refl _ _) _)) (sl_ints _ _ _ _ (Nat.zero_le _) (by simp [maxLen]))).mono ?_
  rintro e w2 ⟨rfl, hg2⟩
  have e4 := hide (show eqB ([3] : List Int) [3] = true by decide)
  rw [e4.out]
  go_wp2_with fail
  go_ret
  exact ⟨rfl, gr_trans (gr_alloc hgw _) hg2⟩

end Go.Proofs.Ytcaaephphefncaa

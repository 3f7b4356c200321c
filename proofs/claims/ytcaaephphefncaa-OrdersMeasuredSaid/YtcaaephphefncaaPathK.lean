/- Contracts of functions that this seat's laws reach, each: what one call returns and what it leaves in memory; no condition beyond each theorem's own hypotheses. -/
import Derived.Test.YtcaaephphefncaaPathJ
set_option linter.unusedVariables false
set_option linter.unusedSimpArgs false
namespace Go.Bl
open Go Go.Proofs.Ytcaaephphefncaa
def twoF (st : Pt) (l : List PathV) (o : List Vis) : Int := orS (pointsF [st]) (orderF l o)
def travO (st : Pt) (l : List PathV) (o : List Vis) : Int := if twoF st l o = 0 then (travS l st o).2 else 0
theorem pointsF_one (p : Pt) : pointsF [p] = if farP p then 1 else 0 := by simp [pointsF]
def tP (l : List PathV) (v : Vis) : List Pt := turned (l.getD v.path.toNat default) v
def tPO (l : List PathV) (v : Vis) : List Pt := if oneF l v = 0 then tP l v else []
def eAO (l : List PathV) (v : Vis) : Pt := if oneF l v = 0 then eA l v else ⟨0, 0⟩
def eBO (l : List PathV) (v : Vis) : Pt := if oneF l v = 0 then eB l v else ⟨0, 0⟩
theorem tP_of {l : List PathV} {k s : Nat} {b : Bool} (hk : k < l.length) : tP l ⟨k, s, b⟩ = turned l[k] ⟨k, s, b⟩ := by simp [tP, List.getD, hk]
theorem turn_closed {pts : List Pt} {s : Nat} (h : s < pts.length) : pts.drop s ++ pts.take (s + 1) = (pts.drop s ++ pts.take s) ++ (pts.drop s ++ pts.take s).take 1 := by
  have e1 : pts.take (s + 1) = pts.take s ++ [pts[s]] := take_snoc h
  have e2 : pts.drop s = pts[s] :: pts.drop (s + 1) := List.drop_eq_getElem_cons h
  have e3 : (pts.drop s ++ pts.take s).take 1 = [pts[s]] := by rw [e2]; rfl
  rw [e3, e1, List.append_assoc]
end Go.Bl
namespace Go.Proofs.Ytcaaephphefncaa
open Go.RowKit Go.Bl

set_option maxHeartbeats 800000 in
theorem startFault_any (A : Option Addr) (c : Nat) (l : List PathV) (B : Option Addr) (d : Nat) (o : List Vis) (p : Pt) (w : World) (hl : Sl w 0 A l) (ho : Sl w 0 B o) :
    Calls Try.prog 48 #[.agg #[.int .i64 p.x, .int .i64 p.y], .slice A l.length c, .slice B o.length d] w fun e w' => e = .returned (.int .i64 (twoF p l o)) ∧ w.grownBy w' none := by
  rcases hf : farP p with _ | _
  · have HT : Hid (orderF l o = twoF p l o) := by rw [Hid]; unfold twoF; rw [orS_zero (by rw [pointsF_one, hf]; rfl)]
    go_enter Try.func48, Try.ntmps48
    go_wp2_with fail
    refine (isFar_any p _).mono ?_
    rintro e w1 ⟨rfl, hg1⟩
    go_wp2_with fail
    refine (checkOrder_any _ _ l _ _ o _ ((hl.pure (gr_alloc (World.grownBy.refl _ _) _)).pure hg1) ((ho.pure (gr_alloc (World.grownBy.refl _ _) _)).pure hg1)).mono ?_
    rintro e w2 ⟨rfl, hg2⟩
    rw [HT.out]
    go_wp2_with fail
    go_ret
    exact ⟨rfl, (by repeat (first | exact World.grownBy.refl _ _ | assumption | refine gr_alloc ?_ _ | (apply gr_tail; assumption) | refine gr_drewN ?_ _ | refine gr_drew ?_))⟩
  · have HT : Hid (1 = twoF p l o) := by rw [Hid]; unfold twoF; rw [pointsF_one, hf]; rfl
    go_enter Try.func48, Try.ntmps48
    go_wp2_with fail
    refine (isFar_any p _).mono ?_
    rintro e w1 ⟨rfl, hg1⟩
    go_wp2_with fail
    go_ret
    exact ⟨ret_int HT.out, (by repeat (first | exact World.grownBy.refl _ _ | assumption | refine gr_alloc ?_ _ | (apply gr_tail; assumption) | refine gr_drewN ?_ _ | refine gr_drew ?_))⟩

theorem twoF_zero {st : Pt} {l : List PathV} {o : List Vis} (h : twoF st l o = 0) : near st ∧ o.length ≤ 200 ∧ ∀ v ∈ o, VisOk l v := by
  obtain ⟨h1, h2⟩ := orS_eq_zero h
  obtain ⟨h3, h4, h5⟩ := orderF_zero h2
  refine ⟨near_of ?_, by omega, h5⟩
  rw [pointsF_one] at h1
  rcases hf : farP st with _ | _
  · rfl
  · rw [hf] at h1; cases h1

set_option maxHeartbeats 800000 in
theorem travelGo_any (A : Option Addr) (c : Nat) (l : List PathV) (B : Option Addr) (d : Nat) (o : List Vis) (p : Pt) (w : World) (hl : Sl w 0 A l) (ho : Sl w 0 B o) :
    Calls Try.prog 15 #[.agg #[.int .i64 p.x, .int .i64 p.y], .slice A l.length c, .slice B o.length d] w fun e w' => e = .returned (.tuple #[.int .i64 (travO p l o), .int .i64 (twoF p l o)]) ∧ w.grownBy w' none := by
  by_cases hz : twoF p l o = 0
  · have hb : (twoF p l o != 0) = false := by simp [hz]
    obtain ⟨h1, h2, h3⟩ := twoF_zero hz
    have HT : Hid ((travS l p o).2 = travO p l o) := by rw [Hid]; unfold travO; rw [if_pos hz]
    have HZ := hide hz
    clear hz
    go_enter Try.func15, Try.ntmps15
    go_wp2_with fail
    refine (startFault_any _ _ l _ _ o p _ (hl.pure (gr_alloc (World.grownBy.refl _ _) _)) (ho.pure (gr_alloc (World.grownBy.refl _ _) _))).mono ?_
    rintro e w1 ⟨rfl, hg1⟩
    have b0 := (hg1).k (p := ⟨w.heap.size, 0, none⟩) (v := .int .i64 p.x) (by go_simp)
    have b1 := (hg1).k (p := ⟨w.heap.size, 1, none⟩) (v := .int .i64 p.y) (by go_simp)
    go_wp2_with fail
    refine (travel_any _ _ l _ _ o p _ ((hl.pure (gr_alloc (World.grownBy.refl _ _) _)).pure hg1) ((ho.pure (gr_alloc (World.grownBy.refl _ _) _)).pure hg1) h1 h3 (by omega)).mono ?_
    rintro e w2 ⟨rfl, hg2⟩
    rw [HT.out]
    go_wp2_with fail
    go_ret2
    exact ⟨by rw [HZ.out]; rfl, (by repeat (first | exact World.grownBy.refl _ _ | assumption | refine gr_alloc ?_ _ | (apply gr_tail; assumption) | refine gr_drewN ?_ _ | refine gr_drew ?_))⟩
  · have hb : (twoF p l o != 0) = true := by simp [hz]
    have HT : Hid (0 = travO p l o) := by rw [Hid]; unfold travO; rw [if_neg hz]
    clear hz
    go_enter Try.func15, Try.ntmps15
    go_wp2_with fail
    refine (startFault_any _ _ l _ _ o p _ (hl.pure (gr_alloc (World.grownBy.refl _ _) _)) (ho.pure (gr_alloc (World.grownBy.refl _ _) _))).mono ?_
    rintro e w1 ⟨rfl, hg1⟩
    go_wp2_with fail
    go_ret2
    exact ⟨by rw [← HT.out]; rfl, (by repeat (first | exact World.grownBy.refl _ _ | assumption | refine gr_alloc ?_ _ | (apply gr_tail; assumption) | refine gr_drewN ?_ _ | refine gr_drew ?_))⟩

set_option maxHeartbeats 2000000 in
set_option maxRecDepth 100000 in
theorem pointsOf_any (A : Option Addr) (c : Nat) (l : List PathV) (v : Vis) (w : World) (hl : Sl w 0 A l) (hv : VisOk l v) :
    Calls Try.prog 47 #[.slice A l.length c, .agg #[.int .i64 v.path, .int .i64 v.start, .bool v.back]] w fun e w' => ∃ A' c', e = .returned (.slice A' (tP l v).length c') ∧ Own w' w.heap.size 27 A' c' (tP l v) ∧ w.grownBy w' none := by
  have hm := hl.1
  unfold maxLen at hm
  obtain ⟨k, s, hk, h1, h2, h3⟩ := hv
  obtain ⟨vp, vs, b⟩ := v
  simp only at h1 h2 h3
  subst h1; subst h2
  rw [tP_of hk]
  obtain ⟨g, o, cx, rfl, hb0, hb1, ⟨A', c', rfl, hcp, hpts⟩, hc⟩ := hl.at_ (by decide) hk
  have c0 : w.cell? ⟨g, o + k * 2, none⟩ = some (.slice A' l[k].pts.length c') := hc 0 _ rfl
  have c1 : w.cell? ⟨g, o + k * 2 + 1, none⟩ = some (.bool l[k].cl) := hc 1 _ rfl
  clear hc
  generalize l[k] = p at *
  obtain ⟨pts, cl⟩ := p
  obtain ⟨hv1, hv2, hv3, hv4, hv5⟩ := h3
  simp only at c0 c1 hcp hpts hv1 hv2 hv3 hv4 hv5
  obtain ⟨g', o', cx, rfl, hb0', hb1', -, -⟩ := hpts.at_ (by decide) hv3
  have hT2 : turned ⟨pts, cl⟩ ⟨k, s, b⟩ = if cl then (pts.drop s ++ pts.take s) ++ (pts.drop s ++ pts.take s).take 1 else if b then (pts.drop s ++ pts.take s).reverse else pts.drop s ++ pts.take s := rfl
  generalize turned ⟨pts, cl⟩ ⟨k, s, b⟩ = T at *
  have hgne : g ≠ w.heap.size := by omega
  have hgne2 : g' ≠ w.heap.size := by omega
  cases cl
  · have hs0 := hv5 rfl
    subst hs0
    rw [List.drop_zero, List.take_zero, List.append_nil] at hT2
    clear hv2 hv4 hv5
    cases b
    · have hT3 : Hid (T = pts) := by rw [Hid, hT2]; rfl
      clear hT2
      go_enter Try.func47, Try.ntmps47
      go_wp2_with fail
      refine (clonePtN_any _ _ _ pts rfl _ (hpts.pure (gr_alloc (World.grownBy.refl _ _) _)) (by omega)).mono ?_
      rintro e w1 ⟨A2, c2, rfl, hO, hg1⟩
      have b2 := (hg1).k (p := ⟨w.heap.size, 2, none⟩) (v := .bool false) (by go_simp)
      go_wp2_with fail
      go_ret
      exact ⟨A2, c2, by rw [hT3.out]; exact rfl, by rw [hT3.out]; exact hO.lower (by simp), (by repeat (first | exact World.grownBy.refl _ _ | assumption | refine gr_alloc ?_ _ | (apply gr_tail; assumption) | refine gr_drewN ?_ _ | refine gr_drew ?_))⟩
    · have hT3 : Hid (T = pts.reverse) := by rw [Hid, hT2]; rfl
      clear hT2
      go_enter Try.func47, Try.ntmps47
      go_wp2_with fail
      refine (clonePtN_any _ _ _ pts rfl _ (hpts.pure (gr_alloc (World.grownBy.refl _ _) _)) (by omega)).mono ?_
      rintro e w1 ⟨A2, c2, rfl, hO, hg1⟩
      have b2 := (hg1).k (p := ⟨w.heap.size, 2, none⟩) (v := .bool true) (by go_simp)
      obtain ⟨g3, rfl, hg3, hg3s⟩ := hO.shape (by omega)
      go_wp2_with fail
      refine (reversePtN_any _ g3 _ c2 pts rfl _ hO (by omega) (by omega)).mono ?_
      rintro e w2 ⟨⟨v, rfl⟩, hO4, hg4⟩
      go_wp2_with fail
      go_ret
      exact ⟨some ⟨g3, 0, none⟩, c2, by rw [hT3.out, List.length_reverse]; exact rfl, by rw [hT3.out]; exact hO4.lower (by simp), gr_new (gr_trans (gr_alloc (World.grownBy.refl w none) _) hg1) hg4 (by simp at hg3; omega)⟩
  · have hT3 : Hid (T = flatK [pts.drop s, pts.take (s + 1)] 2) := by
      rw [Hid, hT2, if_pos rfl, ← turn_closed hv3]; simp [flatK]
    have hTl : Hid (T.length = pts.length + 1) := by rw [Hid, hT3.out]; simp [flatK]; omega
    have hdl : Hid ((pts.drop s).length = pts.length - s) := by simp [Hid]
    have htl : Hid ((pts.take (s + 1)).length = s + 1) := by simp [Hid]; omega
    have hpd := hpts.drop s
    have hpt := hpts.take (s + 1)
    clear hT2 hv2 hv4 hv5
    go_enter Try.func47, Try.ntmps47
    go_wp2_with fail
    have b1 := (Cell.new w [.int .i64 k, .int .i64 s, .bool b] 34 1 _ rfl w.heap.size rfl).1
    have gW := gr_alloc (r := none) (World.grownBy.refl w none) (.cells #[.int .i64 k, .int .i64 s, .bool b] 34)
    have zW : (w.alloc (.cells #[.int .i64 k, .int .i64 s, .bool b] 34)).heap.size = w.heap.size + 1 := by simp
    generalize w.alloc (.cells #[.int .i64 k, .int .i64 s, .bool b] 34) = W at *
    replace zW := hide zW
    refine wp_region_fix 9 ((fun wx => W.grownBy wx none)) (by kernel_rfl) (by kernel_rfl) (gr_drew (World.grownBy.refl _ _)) ?_
    simp only [List.take_succ_cons, List.take_zero, List.drop_succ_cons, List.drop_zero]
    (refine fix_b (fun K hK => ?_); apply Exists.intro; refine ⟨fun wx hC K' hK' => ?_, ?_⟩; (focus (replace hK' := hide hK'; skip; go_wp2_with fail; exact hK'.out _ hC)); go_simp; refine hK _ ?_; clear hK K)
    (refine fix_b (fun K hK => ?_); apply Exists.intro; refine ⟨fun wx hC K' hK' => ?_, ?_⟩; (focus (replace hK' := hide hK'; skip; go_wp2_with fail; exact hK'.out _ hC)); go_simp; refine hK _ ?_; clear hK K)
    (refine fix_b (fun K hK => ?_); apply Exists.intro; refine ⟨fun wx hC K' hK' => ?_, ?_⟩; (focus (replace hK' := hide hK'; (have y0 := hC.k b1); go_wp2_with fail; exact hK'.out _ hC)); go_simp; refine hK _ ?_; clear hK K)
    (refine fix_b (fun K hK => ?_); apply Exists.intro; refine ⟨fun wx hC K' hK' => ?_, ?_⟩; (focus (replace hK' := hide hK'; skip; go_wp2_with fail; exact hK'.out _ hC)); go_simp; refine hK _ ?_; clear hK K)
    (refine fix_b (fun K hK => ?_); apply Exists.intro; refine ⟨fun wx hC K' hK' => ?_, ?_⟩; (focus (replace hK' := hide hK'; skip; go_wp2_with fail; exact hK'.out _ hC)); go_simp; refine hK _ ?_; clear hK K)
    (refine fix_b (fun K hK => ?_); apply Exists.intro; refine ⟨fun wx hC K' hK' => ?_, ?_⟩; (focus (replace hK' := hide hK'; skip; go_wp2_with fail; exact hK'.out _ hC)); go_simp; refine hK _ ?_; clear hK K)
    (refine fix_b (fun K hK => ?_); apply Exists.intro; refine ⟨fun wx hC K' hK' => ?_, ?_⟩; (focus (replace hK' := hide hK'; (have y0 := hC.k b1); go_wp2_with fail; exact hK'.out _ hC)); go_simp; refine hK _ ?_; clear hK K)
    (refine fix_b (fun K hK => ?_); apply Exists.intro; refine ⟨fun wx hC K' hK' => ?_, ?_⟩; (focus (replace hK' := hide hK'; skip; go_wp2_with fail; exact hK'.out _ hC)); go_simp; refine hK _ ?_; clear hK K)
    (refine fix_b (fun K hK => ?_); apply Exists.intro; refine ⟨fun wx hC K' hK' => ?_, ?_⟩; (focus (replace hK' := hide hK'; skip; go_wp2_with fail; exact hK'.out _ hC)); go_simp; refine hK _ ?_; clear hK K)
    refine fix_nil ?_
    intro wz hC
    have gw := gr_trans gW hC
    go_wp2_with fail
    refine (concatPt_any _ 2 2 [⟨some ⟨g', o' + s * 2, none⟩, pts.length - s, c' - s⟩, ⟨some ⟨g', o', none⟩, s + 1, c'⟩] [pts.drop s, pts.take (s + 1)] _ (sl_lit _ 0 [.slice (some ⟨g', o' + s * 2, none⟩) (pts.length - s) (c' - s), .slice (some ⟨g', o', none⟩) (s + 1) c'] _ _ (Nat.zero_le _) (by simp [maxLen]) ⟨_, _, rfl, rfl, _, [], rfl, rfl, rfl⟩) rfl
      (.cons ⟨hdl.out.symm, ⟨_, rfl⟩, hpd.pure (gr_alloc gw _)⟩ (.cons ⟨htl.out.symm, ⟨_, rfl⟩, hpt.pure (gr_alloc gw _)⟩ .nil)) (by rw [show [pts.drop s, pts.take (s + 1)].length = 2 from rfl, ← hT3.out, hTl.out]; omega) (by rw [show [pts.drop s, pts.take (s + 1)].length = 2 from rfl, ← hT3.out, hTl.out]; omega)).mono ?_
    rintro e w2 ⟨A2, c2, rfl, hO, hg2⟩
    rw [show [pts.drop s, pts.take (s + 1)].length = 2 from rfl, ← hT3.out] at hO ⊢
    go_wp2_with fail
    go_ret
    exact ⟨A2, c2, rfl, hO.lower (by simp; have := gw.size; omega), gr_trans (gr_alloc gw _) hg2⟩

end Go.Proofs.Ytcaaephphefncaa

/- Contracts of functions that this seat's laws reach, each: what one call returns and what it leaves in memory; no condition beyond each theorem's own hypotheses. -/
import Derived.Test.YtcaaephphefncaaPathD
set_option linter.unusedVariables false
set_option linter.unusedSimpArgs false
namespace Go.Proofs.Ytcaaephphefncaa
open Go.RowKit Go.Bl

theorem visitF_out {l : List PathV} {b : List Vis} {v : Vis} (h : ¬ (0 ≤ v.path ∧ v.path < l.length)) : visitF l b v = 1 := by
  unfold visitF
  rw [if_pos (by unfold inB; simp; omega)]
theorem visitF_seen {l : List PathV} {b : List Vis} {v : Vis} (h : 0 ≤ v.path ∧ v.path < l.length) (hs : hasP b v.path = true) : visitF l b v = 6 := by
  unfold visitF
  rw [if_neg (by unfold inB; simp; omega), if_pos hs]
theorem visitF_new {l : List PathV} {b : List Vis} {v : Vis} (h : 0 ≤ v.path ∧ v.path < l.length) (hs : hasP b v.path = false) : visitF l b v = formF (l.getD v.path.toNat default) v := by
  unfold visitF
  rw [if_neg (by unfold inB; simp; omega), if_neg (by simp [hs])]
theorem orderF_len {l : List PathV} {o : List Vis} (h : pathsF l = 0) (hl : o.length ≠ l.length) : orderF l o = 3 := by
  unfold orderF; rw [orS_zero h, if_pos hl]
theorem orderF_ok {l : List PathV} {o : List Vis} (h : pathsF l = 0) (hl : o.length = l.length) : orderF l o = visitsF l [] o := by
  unfold orderF; rw [orS_zero h, if_neg (by simp [hl])]
theorem orderF_bad {l : List PathV} {o : List Vis} (h : pathsF l ≠ 0) : orderF l o = pathsF l := by
  unfold orderF; rw [orS_ne h]

theorem visitFaultRefN_any (A : Option Addr) (c : Nat) (l : List PathV) (B : Option Addr) (n d : Nat) (b : List Vis) (hn : b.length = n) (v : Vis) (w : World) (hl : Sl w 0 A l) (hb : Sl w 0 B b) :
    Calls Try.prog 42 #[.slice A l.length c, .slice B n d, .agg #[.int .i64 v.path, .int .i64 v.start, .bool v.back]] w fun e w' => e = .returned (.int .i64 (visitF l b v)) ∧ w.grownBy w' none := by
  subst hn
  exact visitFaultRef_any A c l B d b v w hl hb

set_option maxHeartbeats 2000000 in
theorem orderFaultRef_any (A : Option Addr) (c : Nat) (l : List PathV) (B : Option Addr) (d : Nat) (o : List Vis) (w : World) (hl : Sl w 0 A l) (ho : Sl w 0 B o) (hd : o.length ≤ d) :
    Calls Try.prog 10 #[.slice A l.length c, .slice B o.length d] w fun e w' => e = .returned (.int .i64 (orderF l o)) ∧ w.grownBy w' none := by
  have hm := hl.1
  unfold maxLen at hm
  have hm2 := ho.1
  unfold maxLen at hm2
  by_cases hp : pathsF l = 0
  · have hb : (pathsF l != 0) = false := by simp [hp]
    by_cases hol : o.length = l.length
    · have HO := hide (orderF_ok hp hol)
      have hnl : ((o.length : Int) != l.length) = false := by simp [hol]
      have hnl2 : (o.length != l.length) = false := by simp [hol]
      replace hol := hide hol
      clear hp
      go_enter Try.func10, Try.ntmps10
      go_wp2_with fail
      refine (pathsFaultRef_any _ _ l _ hl).mono ?_
      rintro e w1 ⟨rfl, hg1⟩
      go_wp2_with fail
      go_loopw [21] (fun i wr => ∃ k : Nat, k ≤ o.length ∧ i = .int .i64 k ∧ w.grownBy wr none ∧ Hid (visitsF l (o.take k) (o.drop k) = orderF l o)) (fun i _ => o.length - (intOf i).toNat)
      case atStart => exact ⟨0, Nat.zero_le _, rfl, hg1, by rw [Hid, HO.out]; rfl⟩
      case round =>
        obtain ⟨k, hk, rfl, hg, hdr⟩ := hrel
        by_cases hlt : k < o.length
        · have hok := hide (rfl : o[k] = o[k])
          obtain ⟨g, of, cx, rfl, hb0, hb1, rfl, hc⟩ := (ho.pure hg).at_ (by decide) hlt
          have v0 : wr.cell? ⟨g, of + k * 3, none⟩ = some (.int .i64 o[k].path) := hc 0 _ rfl
          have v1 : wr.cell? ⟨g, of + k * 3 + 1, none⟩ = some (.int .i64 o[k].start) := hc 1 _ rfl
          have v2 : wr.cell? ⟨g, of + k * 3 + 2, none⟩ = some (.bool o[k].back) := hc 2 _ rfl
          clear hc
          have hkd : k ≤ d := by omega
          have htk : Hid ((o.take k).length = k) := by simp [Hid]; omega
          have HS := hide (visitsF_drop l hlt)
          go_wp2_with fail
          refine wp_region_fix 7 ((fun wx => (wr.alloc (.cells #[.int .i64 o[k].path, .int .i64 o[k].start, .bool o[k].back] 34)).grownBy wx none)) (by kernel_rfl) (by kernel_rfl) (gr_drew (World.grownBy.refl _ _)) ?_
          simp only [List.take_succ_cons, List.take_zero, List.drop_succ_cons, List.drop_zero]
          iterate 3 ((refine fix_b (fun K hK => ?_); apply Exists.intro; refine ⟨fun wx hC K' hK' => ?_, ?_⟩; (focus (replace hK' := hide hK'; skip; go_wp2_with fail; exact hK'.out _ hC)); go_simp; refine hK _ ?_; clear hK K))
          (refine fix_b (fun K hK => ?_); apply Exists.intro; refine ⟨fun wx hC K' hK' => ?_, ?_⟩; (focus (replace hK' := hide hK'; skip; go_wp2_with fail; exact hK'.out _ hC)); go_simp; refine hK _ ?_; clear hK K)
          (refine fix_b (fun K hK => ?_); apply Exists.intro; refine ⟨fun wx hC K' hK' => ?_, ?_⟩; (focus (replace hK' := hide hK'; (have b0 := hC.k (p := ⟨wr.heap.size, 0, none⟩) (v := .int .i64 o[k].path) (by go_simp); have b1 := hC.k (p := ⟨wr.heap.size, 1, none⟩) (v := .int .i64 o[k].start) (by go_simp); have b2 := hC.k (p := ⟨wr.heap.size, 2, none⟩) (v := .bool o[k].back) (by go_simp)); go_wp2_with fail; exact hK'.out _ hC)); go_simp; refine hK _ ?_; clear hK K)
          (refine fix_b (fun K hK => ?_); apply Exists.intro; refine ⟨fun wx hC K' hK' => ?_, ?_⟩; (focus (replace hK' := hide hK'; skip; go_wp2_with fail; (refine (visitFaultRefN_any _ _ l _ _ _ (o.take k) htk.out o[k] _ ((hl.pure hg).pure (gr_trans (gr_alloc (World.grownBy.refl _ _) _) hC)) (((ho.pure hg).pure (gr_trans (gr_alloc (World.grownBy.refl _ _) _) hC)).take k)).mono ?_; rintro e w' ⟨rfl, hg'⟩; go_wp2_with fail; exact hK'.out _ (gr_trans hC hg')))); go_simp; refine hK _ ?_; clear hK K)
          (refine fix_b (fun K hK => ?_); apply Exists.intro; refine ⟨fun wx hC K' hK' => ?_, ?_⟩; (focus (replace hK' := hide hK'; skip; go_wp2_with fail; exact hK'.out _ hC)); go_simp; refine hK _ ?_; clear hK K)
          refine fix_nil ?_
          intro wz hC
          have HX : ∀ x, visitF l (o.take k) o[k] = x → (x ≠ 0 → x = orderF l o) ∧ (x = 0 → visitsF l (o.take (k + 1)) (o.drop (k + 1)) = orderF l o) := fun x hx => by
            have h1 := hdr.out
            rw [HS.out, hx] at h1
            exact ⟨fun h => by rw [orS_ne h] at h1; exact h1, fun h => by rw [orS_zero h] at h1; exact h1⟩
          replace HX := hide HX
          generalize hX : visitF l (o.take k) o[k] = X at *
          replace HX := hide (HX.out X rfl)
          by_cases hz : X = 0
          · have hb : (X != 0) = false := by simp [hz]
            have HT := hide (HX.out.2 hz)
            clear hz hX
            go_wp2_with fail
            (go_roundw; (case rel => exact ⟨k + 1, by omega, by go_num, (by repeat (first | exact World.grownBy.refl _ _ | assumption | refine gr_alloc ?_ _ | (apply gr_tail; assumption) | refine gr_drewN ?_ _ | refine gr_drew ?_)), HT⟩); (case measure => simp [intOf]; omega))
          · have hb : (X != 0) = true := by simp [hz]
            have HT := hide (HX.out.1 hz)
            clear hz hX
            go_wp2_with fail
            go_ret
            exact ⟨ret_int HT.out, (by repeat (first | exact World.grownBy.refl _ _ | assumption | refine gr_alloc ?_ _ | (apply gr_tail; assumption) | refine gr_drewN ?_ _ | refine gr_drew ?_))⟩
        · have HB : Hid (0 = orderF l o) := by rw [Hid, ← hdr.out, List.drop_of_length_le (by omega)]; rfl
          go_wp2
          go_ret
          exact ⟨ret_int HB.out, hg⟩
    · have HO := hide (orderF_len hp hol)
      have hnl : ((o.length : Int) != l.length) = true := by simp; omega
      have hnl2 : (o.length != l.length) = true := by simp [hol]
      clear hp hol
      go_enter Try.func10, Try.ntmps10
      go_wp2_with fail
      refine (pathsFaultRef_any _ _ l _ hl).mono ?_
      rintro e w1 ⟨rfl, hg1⟩
      go_wp2_with fail
      go_ret
      exact ⟨ret_int HO.out.symm, (by repeat (first | exact World.grownBy.refl _ _ | assumption | refine gr_alloc ?_ _ | (apply gr_tail; assumption) | refine gr_drewN ?_ _ | refine gr_drew ?_))⟩
  · have HO := hide (orderF_bad (o := o) hp)
    have hb : (pathsF l != 0) = true := by simp [hp]
    clear hp
    go_enter Try.func10, Try.ntmps10
    go_wp2_with fail
    refine (pathsFaultRef_any _ _ l _ hl).mono ?_
    rintro e w1 ⟨rfl, hg1⟩
    go_wp2_with fail
    go_ret
    exact ⟨ret_int HO.out.symm, (by repeat (first | exact World.grownBy.refl _ _ | assumption | refine gr_alloc ?_ _ | (apply gr_tail; assumption) | refine gr_drewN ?_ _ | refine gr_drew ?_))⟩

end Go.Proofs.Ytcaaephphefncaa

/- Contracts of functions that this seat's laws reach, each: what one call returns and what it leaves in memory; no condition beyond each theorem's own hypotheses. -/
import Derived.Test.YtjodjdjfagjiaaaMeshG
import Derived.Test.YtjodjdjfagjiaaaNest2
set_option linter.unusedVariables false
set_option linter.unusedSimpArgs false
namespace Go.Proofs.Ytjodjdjfagjiaaa
open Go.RowKit Go.Bl

theorem inI_in (n : Nat) (x : Int) : inI n x = inB x 0 ((n : Int) - 1) := by
  unfold inI inB
  congr 1
  simp only [decide_eq_decide]; omega

theorem _root_.Go.Bl.Sl.sd_at {w : World} {lo g o : Nat} {l : List Sd} (h : Sl w lo (some ⟨g, o, none⟩) l) {k : Nat} (hk : k < l.length) : w.cell? ⟨g, o + k * 2, none⟩ = some (.int .i64 l[k].u) ∧ w.cell? ⟨g, o + k * 2 + 1, none⟩ = some (.int .i64 l[k].v) := by
  obtain ⟨g', o', c, e, _, _, rfl, hc⟩ := h.at_ (by decide) hk
  cases e
  exact ⟨hc 0 _ rfl, hc 1 _ rfl⟩

set_option maxHeartbeats 4000000 in
set_option maxRecDepth 100000 in
theorem meshFault_any (A : Option Addr) (c : Nat) (vs : List V3) (B : Option Addr) (d : Nat) (fs : List Fc) (w : World) (hl : Sl w 0 A vs) (hfs : Sl w 0 B fs) :
    Calls Try.prog 9 #[.agg #[.slice A vs.length c, .slice B fs.length d]] w fun e w' => e = .returned (.int .i64 (meshF ⟨vs, fs⟩)) ∧ w.grownBy w' none := by
  have hm := hl.1
  unfold maxLen at hm
  have hm2 := hfs.1
  unfold maxLen at hm2
  by_cases h0 : fs = []
  · have HE : Hid (meshF ⟨vs, fs⟩ = 8) := meshF_none h0
    have hz : fs.length = 0 := by simp [h0]
    have hzb : ((fs.length : Int) == 0) = true := by simp [hz]
    clear h0
    go_enter Try.func9, Try.ntmps9
    go_wp2
    go_ret
    exact ⟨ret_int HE.out.symm, (by repeat (first | exact World.grownBy.refl _ _ | assumption | refine gr_alloc ?_ _ | (apply gr_tail; assumption) | refine gr_drewN ?_ _ | refine gr_drew ?_))⟩
  · by_cases h1 : 1000 < vs.length ∨ 1000 < fs.length
    · have HE : Hid (meshF ⟨vs, fs⟩ = 2) := meshF_large h0 h1
      have hz : fs.length ≠ 0 := by simpa using h0
      clear h0
      by_cases h2 : 1000 < vs.length
      · clear h1
        go_enter Try.func9, Try.ntmps9
        go_wp2
        go_ret
        exact ⟨ret_int HE.out.symm, (by repeat (first | exact World.grownBy.refl _ _ | assumption | refine gr_alloc ?_ _ | (apply gr_tail; assumption) | refine gr_drewN ?_ _ | refine gr_drew ?_))⟩
      · have h3 : 1000 < fs.length := by omega
        clear h1
        go_enter Try.func9, Try.ntmps9
        go_wp2
        go_ret
        exact ⟨ret_int HE.out.symm, (by repeat (first | exact World.grownBy.refl _ _ | assumption | refine gr_alloc ?_ _ | (apply gr_tail; assumption) | refine gr_drewN ?_ _ | refine gr_drew ?_))⟩
    · have HF : Hid (vs.any farV = true → meshF ⟨vs, fs⟩ = 1) := meshF_far h0 h1
      have HG : Hid (vs.any farV = false → facesF vs fs ≠ 0 → meshF ⟨vs, fs⟩ = facesF vs fs) := meshF_face h0 h1
      have HT : Hid (vs.any farV = false → facesF vs fs = 0 → ¬ (allS fs).Nodup → meshF ⟨vs, fs⟩ = 6) := meshF_twice h0 h1
      have HO : Hid (vs.any farV = false → facesF vs fs = 0 → (allS fs).Nodup → meshF ⟨vs, fs⟩ = 0) := meshF_ok h0 h1
      have hz : fs.length ≠ 0 := by simpa using h0
      have hv1 : vs.length ≤ 1000 := by omega
      have hf1 : fs.length ≤ 1000 := by omega
      clear h0 h1
      have hg0 := gr_alloc (World.grownBy.refl w none) (.cells #[.slice A vs.length c, .slice B fs.length d] 29)
      have b0 := (Cell.new w [.slice A vs.length c, .slice B fs.length d] 29 0 _ rfl _ rfl).1
      have b1 := (Cell.new w [.slice A vs.length c, .slice B fs.length d] 29 1 _ rfl _ rfl).1
      replace b0 := hide b0
      replace b1 := hide b1
      by_cases hfar : vs.any farV = true
      · have HE := hide (HF.out hfar)
        have hv : vecsF vs = 1 := vecsF_yes hfar
        clear hfar HF HG HT HO
        go_enter Try.func9, Try.ntmps9
        go_wp2_with fail
        refine (vecFault_any A c vs _ (hl.pure hg0)).mono ?_
        rintro e w1 ⟨rfl, hg1⟩
        rw [hv]
        go_wp2_with fail
        go_ret
        exact ⟨ret_int HE.out.symm, gr_trans hg0 hg1⟩
      · have hfar : vs.any farV = false := by simpa using hfar
        have hv : vecsF vs = 0 := vecsF_no hfar
        replace HG := hide (HG.out hfar)
        replace HT := hide (HT.out hfar)
        replace HO := hide (HO.out hfar)
        replace hfar := hide hfar
        clear HF
        obtain ⟨X, hX⟩ : ∃ X : Int, X = facesF vs fs := ⟨_, rfl⟩
        rw [← hX] at HG HT HO
        replace hX := hide hX
        go_enter Try.func9, Try.ntmps9
        go_wp2_with fail
        refine (vecFault_any A c vs _ (hl.pure hg0)).mono ?_
        rintro e W2 ⟨rfl, hg1⟩
        rw [hv]
        clear hv
        replace b0 := hg1.k b0.out
        replace b1 := hg1.k b1.out
        have hgA := gr_trans hg0 hg1
        have hgW2 := World.grownBy.refl W2 none
        clear hg0 hg1
        go_wp2_with fail
        replace b0 := hide b0
        go_loopw [38] (fun i wr => ∃ k : Nat, k ≤ fs.length ∧ i = .int .i64 k ∧ w.grownBy wr none ∧ W2.grownBy wr none ∧ Hid (facesF vs (fs.drop k) = X)) (fun i _ => fs.length - (intOf i).toNat)
        case atStart => exact ⟨0, Nat.zero_le _, rfl, hgA, hgW2, by rw [Hid, hX.out]; rfl⟩
        case round =>
          obtain ⟨k, hk, rfl, hg, hgW, hdr⟩ := hrel
          have d0 := hgW.k b0.out
          have d1 := hgW.k b1
          have hlt0 : w.heap.size < wr.heap.size := cell_lt d0
          by_cases hlt : k < fs.length
          · obtain ⟨g, o, cx, rfl, hb0, hb1, rfl, hc⟩ := (hfs.pure hg).at_ (by decide) hlt
            have v0 : wr.cell? ⟨g, o + k * 3, none⟩ = some (.int .i64 fs[k].a) := hc 0 _ rfl
            have v1 : wr.cell? ⟨g, o + k * 3 + 1, none⟩ = some (.int .i64 fs[k].b) := hc 1 _ rfl
            have v2 : wr.cell? ⟨g, o + k * 3 + 2, none⟩ = some (.int .i64 fs[k].c) := hc 2 _ rfl
            clear hc
            have HS := facesF_drop (vs := vs) hlt
            generalize hff : fs[k] = f at *
            rw [hdr.out] at HS
            replace hff := hide hff
            have HZ : Hid (faceF vs f = 0 → facesF vs (fs.drop (k + 1)) = X) := fun h => by rw [if_pos h] at HS; exact HS.symm
            have HX : Hid (faceF vs f ≠ 0 → faceF vs f = meshF ⟨vs, fs⟩) := fun hy => by
              rw [if_neg hy] at HS
              rw [HG.out (by rw [HS]; exact hy), HS]
            clear HS HT HO HG
            have hx : Hid (abc f = [f.a, f.b, f.c]) := rfl
            have hF := hide (inF_abc vs.length f)
            go_wp2_with fail
            have hq : Sl ((wr.alloc (.cells #[.int .i64 f.a, .int .i64 f.b, .int .i64 f.c] 67)).alloc (.cells #[.int .i64 f.a, .int .i64 f.b, .int .i64 f.c] 3)) 0 (some ⟨wr.heap.size + 1, 0, none⟩) (abc f) := by
              rw [hx.out]; exact sl_intsAt _ _ _ _ _ (by simp) (Nat.zero_le _) (by simp [maxLen])
            have hgx := gr_alloc (gr_alloc (World.grownBy.refl wr none) (.cells #[.int .i64 f.a, .int .i64 f.b, .int .i64 f.c] 67)) (.cells #[.int .i64 f.a, .int .i64 f.b, .int .i64 f.c] 3)
            have c0 : ((wr.alloc (.cells #[.int .i64 f.a, .int .i64 f.b, .int .i64 f.c] 67)).alloc (.cells #[.int .i64 f.a, .int .i64 f.b, .int .i64 f.c] 3)).cell? ⟨wr.heap.size, 0, none⟩ = some (.int .i64 f.a) := by go_simp
            have c1 : ((wr.alloc (.cells #[.int .i64 f.a, .int .i64 f.b, .int .i64 f.c] 67)).alloc (.cells #[.int .i64 f.a, .int .i64 f.b, .int .i64 f.c] 3)).cell? ⟨wr.heap.size, 1, none⟩ = some (.int .i64 f.b) := by go_simp
            have c2 : ((wr.alloc (.cells #[.int .i64 f.a, .int .i64 f.b, .int .i64 f.c] 67)).alloc (.cells #[.int .i64 f.a, .int .i64 f.b, .int .i64 f.c] 3)).cell? ⟨wr.heap.size, 2, none⟩ = some (.int .i64 f.c) := by go_simp
            replace d0 := hgx.k d0
            replace d1 := hgx.k d1
            have hgB := gr_trans hg hgx
            have hgW2' := gr_trans hgW hgx
            have hl3 : (abc f).length = 3 := rfl
            clear hx v0 v1 v2 hg hgW
            generalize hqq : abc f = q at *
            clear hqq
            generalize (wr.alloc (.cells #[.int .i64 f.a, .int .i64 f.b, .int .i64 f.c] 67)).alloc (.cells #[.int .i64 f.a, .int .i64 f.b, .int .i64 f.c] 3) = W4 at *
            generalize wr.heap.size = sz at *
            have hWW := World.grownBy.refl W4 none
            go_loopw [50] (fun i wr => ∃ j : Nat, j ≤ 3 ∧ i = .int .i64 j ∧ w.grownBy wr none ∧ W2.grownBy wr none ∧ W4.grownBy wr none ∧ Hid ((q.take j).all (inI vs.length) = true)) (fun i _ => 3 - (intOf i).toNat)
            case atStart => exact ⟨0, by omega, rfl, hgB, hgW2', hWW, by simp [Hid]⟩
            case round =>
              obtain ⟨j, hj, rfl, hgr, hgr2, hgr4, hall⟩ := hrel
              replace d0 := hgr4.k d0
              replace d1 := hgr4.k d1
              replace c0 := hgr4.k c0
              replace c1 := hgr4.k c1
              replace c2 := hgr4.k c2
              by_cases hjt : j < 3
              · have e0 := (hq.pure hgr4).int_at (show j < q.length by omega)
                rw [Nat.zero_add] at e0
                have HS := hide (allI_snoc (n := vs.length) (show j < q.length by omega))
                have HA : Hid (inI vs.length (q[j]'(by omega)) = false → q.all (inI vs.length) = false) := allI_not (show j < q.length by omega)
                have HI : Hid (inI vs.length (q[j]'(by omega)) = inB (q[j]'(by omega)) 0 ((vs.length : Int) - 1)) := inI_in _ _
                have hFo : Hid (inF vs.length f = false → faceF vs f = 8) := faceF_out
                have HX8 : Hid (faceF vs f = 8 → 8 = meshF ⟨vs, fs⟩) := fun e => by rw [← e]; exact HX.out (by rw [e]; decide)
                go_wp2_with (go_at_call 44; refine (in_any _ _ _ _).mono ?_; rintro e w' ⟨rfl, rfl⟩)
                all_goals first
                  | (go_ret; exact ⟨ret_int (HX8.out (hFo.out (by rw [hF.out]; exact HA.out (by rw [HI.out]; rename_i h; simpa using h)))), (by repeat (first | exact World.grownBy.refl _ _ | assumption | refine gr_alloc ?_ _ | (apply gr_tail; assumption) | refine gr_drewN ?_ _ | refine gr_drew ?_))⟩)
                  | (go_roundw; (case rel => exact ⟨j + 1, by omega, by go_num, (by repeat (first | exact World.grownBy.refl _ _ | assumption | refine gr_alloc ?_ _ | (apply gr_tail; assumption) | refine gr_drewN ?_ _ | refine gr_drew ?_)), (by repeat (first | exact World.grownBy.refl _ _ | assumption | refine gr_alloc ?_ _ | (apply gr_tail; assumption) | refine gr_drewN ?_ _ | refine gr_drew ?_)), (by repeat (first | exact World.grownBy.refl _ _ | assumption | refine gr_alloc ?_ _ | (apply gr_tail; assumption) | refine gr_drewN ?_ _ | refine gr_drew ?_)), by simp only [Hid]; rw [HS.out, hall.out, HI.out]; rename_i h; simpa using h⟩); (case measure => simp [intOf]; omega))
              · have hin : inF vs.length f = true := by rw [hF.out]; have := hall.out; rwa [List.take_of_length_le (by omega)] at this
                have hin2 := hide hin
                have HE3 : Hid ((normV vs f).x = 0 ∧ (normV vs f).y = 0 ∧ (normV vs f).z = 0 → 3 = meshF ⟨vs, fs⟩) := fun h => by
                  have e := faceF_flat hin ((v3_zero _).2 h)
                  rw [← e]; exact HX.out (by rw [e]; decide)
                have HE0 : Hid (¬ ((normV vs f).x = 0 ∧ (normV vs f).y = 0 ∧ (normV vs f).z = 0) → facesF vs (fs.drop (k + 1)) = X) := fun h => HZ.out (faceF_ok hin (fun e => h ((v3_zero _).1 e)))
                clear hin HX HZ
                have hj3 : j = 3 := by omega
                subst hj3
                go_wp2_with (go_at_call 45; refine (normalRef_any A c vs (some ⟨g, o, none⟩) fs.length d f _ (hl.pure (by repeat (first | exact World.grownBy.refl _ _ | assumption | refine gr_alloc ?_ _ | (apply gr_tail; assumption) | refine gr_drewN ?_ _ | refine gr_drew ?_))) hfar.out hin2.out).mono ?_; rintro e w' ⟨rfl, hg'⟩; generalize normV vs f = N at *)
                all_goals first
                  | (go_ret; exact ⟨ret_int (HE3.out (by omega)), (by repeat (first | exact World.grownBy.refl _ _ | assumption | refine gr_alloc ?_ _ | (apply gr_tail; assumption) | refine gr_drewN ?_ _ | refine gr_drew ?_))⟩)
                  | (go_roundw; (case rel => exact ⟨k + 1, by omega, by go_num, (by repeat (first | exact World.grownBy.refl _ _ | assumption | refine gr_alloc ?_ _ | (apply gr_tail; assumption) | refine gr_drewN ?_ _ | refine gr_drew ?_)), (by repeat (first | exact World.grownBy.refl _ _ | assumption | refine gr_alloc ?_ _ | (apply gr_tail; assumption) | refine gr_drewN ?_ _ | refine gr_drew ?_)), HE0.out (by omega)⟩); (case measure => simp [intOf]; omega))
                  | trace_state
          · have HX : X = 0 := by rw [← hdr.out, List.drop_of_length_le (by omega)]; rfl
            replace HT := hide (HT.out HX)
            replace HO := hide (HO.out HX)
            clear HG hdr
            go_wp2_with fail
            have hgR := hg
            clear d0 d1 hg hgW hgA hgW2 b0 b1
            go_loopw [8, 71] (fun o i wr => ∃ (k : Nat) (out : List Sd) (A' : Option Addr) (c' : Nat), k ≤ fs.length ∧ i = .int .i64 k ∧ o = .slice A' out.length c' ∧ Hid (out = allS (fs.take k)) ∧ Own wr w.heap.size 79 A' c' out ∧ w.grownBy wr none ∧ Hid out.Nodup) (fun _ i _ => fs.length - (intOf i).toNat)
            case atStart => exact ⟨0, [], none, 0, Nat.zero_le _, rfl, rfl, by simp [Hid, allS], Own.nil _ _ _, hgR, by simp [Hid]⟩
            case round =>
              obtain ⟨k, out, A', c', hk, rfl, rfl, hout, hown, hg, hnd⟩ := hrel
              by_cases hlt : k < fs.length
              · have HD := hide (fun j hj h => (HT.out (not_nodup (j := j) hlt hj h)).symm)
                have HS := hide (allS_snoc hlt)
                have hol : out.length ≤ 3000 := by rw [hout.out, allS_len]; simp; omega
                obtain ⟨g, o, cx, rfl, hb0, hb1, rfl, hc⟩ := (hfs.pure hg).at_ (by decide) hlt
                have v0 : wr.cell? ⟨g, o + k * 3, none⟩ = some (.int .i64 fs[k].a) := hc 0 _ rfl
                have v1 : wr.cell? ⟨g, o + k * 3 + 1, none⟩ = some (.int .i64 fs[k].b) := hc 1 _ rfl
                have v2 : wr.cell? ⟨g, o + k * 3 + 2, none⟩ = some (.int .i64 fs[k].c) := hc 2 _ rfl
                clear hc
                generalize fs[k] = f at *
                clear HT HO
                rw [← hout.out] at HD HS
                go_wp2_with fail
                refine (sidesOf_any f _).mono ?_
                rintro e w2 ⟨As, rfl, hsd, hg2⟩
                obtain ⟨gs, os, _, rfl, hgs1, hgs2, _, _⟩ := hsd.at_ (by decide) (show 0 < (sdsOf f).length by simp [sdsOf])
                simp at hgs1
                have hgA := gr_trans (gr_alloc hg (.cells #[.int .i64 f.a, .int .i64 f.b, .int .i64 f.c] 67)) hg2
                have hownA := (hown.pure (gr_alloc (World.grownBy.refl _ _) (.cells #[.int .i64 f.a, .int .i64 f.b, .int .i64 f.c] 67))).pure hg2
                have hA' : ∀ g, blk A' = some g → g ≠ gs := fun g hb => by have := (hown.blk_lt hb).2; omega
                have hsd0 := hsd.mono (Nat.zero_le _)
                have hownA := hide hownA
                have hA' := hide hA'
                clear hown hsd hg hg2 v0 v1 v2
                go_wp2_with fail
                go_loopw [8, 78] (fun o i wr => ∃ (j : Nat) (out2 : List Sd) (A2 : Option Addr) (c2 : Nat), j ≤ 3 ∧ i = .int .i64 j ∧ o = .slice A2 out2.length c2 ∧ Hid (out2 = out ++ (sdsOf f).take j) ∧ Own wr w.heap.size 79 A2 c2 out2 ∧ w.grownBy wr none ∧ Sl wr 0 (some ⟨gs, os, none⟩) (sdsOf f) ∧ (gs < wr.heap.size ∧ ∀ g, blk A2 = some g → g ≠ gs) ∧ Hid out2.Nodup) (fun _ i _ => 3 - (intOf i).toNat)
                case atStart => exact ⟨0, out, A', c', by omega, rfl, rfl, by simp [Hid], hownA.out, hgA, hsd0, ⟨hgs2, hA'.out⟩, hnd⟩
                case round =>
                  obtain ⟨j, out2, A2, c2, hj, rfl, rfl, hout2, hown2, hg, hsd, ⟨hgs3, hA2⟩, hnd2⟩ := hrel
                  by_cases hjt : j < 3
                  · have hjl : j < (sdsOf f).length := by simp [sdsOf]; omega
                    have hlen2 : out2.length ≤ 3003 := by rw [hout2.out]; simp; omega
                    obtain ⟨e0, e1⟩ := hsd.sd_at hjl
                    have HDj := hide (HD.out j hjl)
                    have HT2 : Hid (out ++ (sdsOf f).take (j + 1) = out2 ++ [(sdsOf f)[j]]) := by rw [Hid, hout2.out, take_snoc hjl, List.append_assoc]
                    rw [← hout2.out] at HDj
                    generalize (sdsOf f)[j] = s at *
                    have hz1 := hg.size
                    have hownB := hown2.pure (gr_alloc (World.grownBy.refl wr none) (.cells #[.int .i64 s.u, .int .i64 s.v] 79))
                    have hsdB := hsd.pure (gr_alloc (World.grownBy.refl wr none) (.cells #[.int .i64 s.u, .int .i64 s.v] 79))
                    have b0 := Cell.new wr [.int .i64 s.u, .int .i64 s.v] 79 0 _ rfl _ rfl
                    have b1 := Cell.new wr [.int .i64 s.u, .int .i64 s.v] 79 1 _ rfl _ rfl
                    have hgB := gr_alloc hg (.cells #[.int .i64 s.u, .int .i64 s.v] 79)
                    clear HD HS hsd hown2 hg
                    replace hA2 := hide hA2
                    by_cases hin : s ∈ out2
                    · have hb : decide (s ∈ out2) = true := decide_eq_true hin
                      have HE := hide (HDj.out hin)
                      clear hin HDj
                      go_wp2_with fail
                      refine (containsSide_any A2 _ c2 out2 s _ (hownB.sl.mono (Nat.zero_le _)) rfl).mono ?_
                      rintro e w5 ⟨rfl, hg5⟩
                      rw [hb]
                      clear hb
                      go_wp2_with fail
                      go_ret
                      exact ⟨ret_int HE.out, gr_trans hgB hg5⟩
                    · have hb : decide (s ∈ out2) = false := decide_eq_false hin
                      have hnd5 := hide (nodup_snoc hnd2.out hin)
                      clear hin HDj hnd2
                      go_wp2_with fail
                      refine (containsSide_any A2 _ c2 out2 s _ (hownB.sl.mono (Nat.zero_le _)) rfl).mono ?_
                      rintro e w5 ⟨rfl, hg5⟩
                      rw [hb]
                      clear hb
                      have b0 := (b0.gr hg5 (by simp)).1
                      have b1 := (b1.gr hg5 (by simp)).1
                      have hownC := hownB.pure hg5
                      have hsdC := hsdB.pure hg5
                      have hgC := gr_trans hgB hg5
                      have hz5 := hg5.size
                      simp at hz5
                      clear hownB hsdB hgB hg5
                      obtain ⟨i0, hi, hz, h1, h2⟩ := info_parts info_side
                      go_wp2_with (at_builtin; refine wpList_pushAt (α := Sd) _ rfl (.tmp 85) (.tmp 87) _ rfl w.heap.size 79 i0 _ 16 Try.underlying76 hi hz h1 h2 rfl A2 _ c2 out2 rfl rfl (by exact hownC.pure (by repeat (first | exact World.grownBy.refl _ _ | assumption | refine gr_alloc ?_ _ | refine gr_drewN ?_ _ | refine gr_drew ?_))) 0 ⟨_, 0, none⟩ 1 1 [s] rfl rfl (by exact sl_oneAt _ 0 [.int .i64 s.u, .int .i64 s.v] _ _ _ (by first | rfl | simp) (Nat.zero_le _) rfl) ?c2 ?c3 ?c4 ?_)
                      case c2 => simp; omega
                      case c3 => simp [maxLen]; omega
                      case c4 => simp; omega
                      intro A9 c9 w9 hO9 hG9
                      have hgD := gr_row (gr_alloc hgC (.cells #[.int .i64 s.u, .int .i64 s.v] 79)) hG9.1 (fun g e => (hownC.blk_lt e).1)
                      have hsdD := (hsdC.pure (gr_alloc (World.grownBy.refl w5 none) (.cells #[.int .i64 s.u, .int .i64 s.v] 79))).ne hG9.1 (fun g hb e => hA2.out g e (by simpa [blk] using hb.symm))
                      have hgs4 : gs < w9.heap.size := by have := hG9.1.size; simp at this; omega
                      have hA9 : ∀ g, blk A9 = some g → g ≠ gs := fun g e => by
                        rcases hG9.2 with h | h
                        · exact hA2.out g (by rw [← h]; exact e)
                        · rw [h] at e; simp at e; omega
                      replace hA9 := hide hA9
                      have hout9 : Hid (out2 ++ [s] = out ++ (sdsOf f).take (j + 1)) := HT2.out.symm
                      clear hG9 hA2 HT2 hownC hsdC
                      go_wp2
                      (go_roundw; (case rel => exact ⟨j + 1, out2 ++ [s], A9, c9, by omega, by go_num, by simp, hout9, hO9, hgD, hsdD, ⟨hgs4, hA9.out⟩, hnd5⟩); (case measure => simp [intOf]; omega))
                  · have hj3 : j = 3 := by omega
                    subst hj3
                    have e3 : (sdsOf f).take 3 = sdsOf f := rfl
                    have hout3 : Hid (out2 = allS (fs.take (k + 1))) := by rw [Hid, HS.out, hout2.out, e3]
                    replace hown2 := hide hown2
                    clear hA2 hsd
                    go_wp2
                    (go_roundw; (case rel => exact ⟨k + 1, out2, A2, c2, by omega, by go_num, rfl, hout3, hown2.out, hg, hnd2⟩); (case measure => simp [intOf]; omega))
              · have HE : Hid (0 = meshF ⟨vs, fs⟩) := (HO.out (by have := hnd.out; rw [hout.out] at this; rwa [List.take_of_length_le (by omega)] at this)).symm
                clear HT HO
                go_wp2
                go_ret
                exact ⟨ret_int HE.out, hg⟩

end Go.Proofs.Ytjodjdjfagjiaaa

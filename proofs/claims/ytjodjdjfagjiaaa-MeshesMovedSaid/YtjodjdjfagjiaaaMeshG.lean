/- Contracts of functions that this seat's laws reach, each: what one call returns and what it leaves in memory; no condition beyond each theorem's own hypotheses. -/
import Derived.Test.YtjodjdjfagjiaaaMeshF
set_option linter.unusedVariables false
set_option linter.unusedSimpArgs false
namespace Go.Proofs.Ytjodjdjfagjiaaa
open Go.RowKit Go.Bl

theorem meshF_none {vs : List V3} {fs : List Fc} (h : fs = []) : meshF ⟨vs, fs⟩ = 8 := by unfold meshF; rw [if_pos h]
theorem meshF_large {vs : List V3} {fs : List Fc} (h : fs ≠ []) (h2 : 1000 < vs.length ∨ 1000 < fs.length) : meshF ⟨vs, fs⟩ = 2 := by unfold meshF; rw [if_neg h, if_pos h2]
theorem meshF_far {vs : List V3} {fs : List Fc} (h : fs ≠ []) (h2 : ¬ (1000 < vs.length ∨ 1000 < fs.length)) (h3 : vs.any farV = true) : meshF ⟨vs, fs⟩ = 1 := by unfold meshF; rw [if_neg h, if_neg h2, if_pos h3]
theorem meshF_face {vs : List V3} {fs : List Fc} (h : fs ≠ []) (h2 : ¬ (1000 < vs.length ∨ 1000 < fs.length)) (h3 : vs.any farV = false) (h4 : facesF vs fs ≠ 0) : meshF ⟨vs, fs⟩ = facesF vs fs := by unfold meshF; rw [if_neg h, if_neg h2, if_neg (by simp only [h3]; simp), if_neg h4]
theorem meshF_twice {vs : List V3} {fs : List Fc} (h : fs ≠ []) (h2 : ¬ (1000 < vs.length ∨ 1000 < fs.length)) (h3 : vs.any farV = false) (h4 : facesF vs fs = 0) (h5 : ¬ (allS fs).Nodup) : meshF ⟨vs, fs⟩ = 6 := by unfold meshF; rw [if_neg h, if_neg h2, if_neg (by simp only [h3]; simp), if_pos h4, if_neg h5]
theorem meshF_ok {vs : List V3} {fs : List Fc} (h : fs ≠ []) (h2 : ¬ (1000 < vs.length ∨ 1000 < fs.length)) (h3 : vs.any farV = false) (h4 : facesF vs fs = 0) (h5 : (allS fs).Nodup) : meshF ⟨vs, fs⟩ = 0 := by unfold meshF; rw [if_neg h, if_neg h2, if_neg (by simp only [h3]; simp), if_pos h4, if_pos h5]
theorem facesF_drop {vs : List V3} {fs : List Fc} {k : Nat} (h : k < fs.length) : facesF vs (fs.drop k) = if faceF vs fs[k] = 0 then facesF vs (fs.drop (k + 1)) else faceF vs fs[k] := by
  rw [List.drop_eq_getElem_cons h]; rfl
theorem facesF_mem {vs : List V3} : ∀ {fs : List Fc}, facesF vs fs = 0 → ∀ f ∈ fs, faceF vs f = 0
  | [], _, f, hf => by simp at hf
  | g :: r, h, f, hf => by
    unfold facesF at h
    by_cases hg : faceF vs g = 0
    · rw [if_pos hg] at h
      rcases List.mem_cons.1 hf with rfl | hf
      · exact hg
      · exact facesF_mem h f hf
    · rw [if_neg hg] at h; exact absurd h hg
theorem faceF_in {vs : List V3} {f : Fc} (h : faceF vs f = 0) : inF vs.length f = true := by
  cases hh : inF vs.length f with
  | true => rfl
  | false => rw [faceF_out hh] at h; cases h

theorem sd_cell {f : Fc} {n : Nat} (hn : n ≤ 1000) (h : inF n f = true) : ∀ s ∈ sdsOf f, okS s := by
  obtain ⟨a, b, c⟩ := f
  simp only [inF, inI, Bool.and_eq_true, decide_eq_true_eq] at h
  intro s hs
  simp only [sdsOf, List.mem_cons, List.not_mem_nil, or_false] at hs
  rcases hs with rfl | rfl | rfl <;> exact ⟨WalkArith.wf_i64 (by simp only; omega), WalkArith.wf_i64 (by simp only; omega)⟩
theorem allS_snoc {fs : List Fc} {k : Nat} (h : k < fs.length) : allS (fs.take (k + 1)) = allS (fs.take k) ++ sdsOf fs[k] := by
  rw [take_snoc h]
  unfold allS
  rw [List.flatMap_append, List.flatMap_cons, List.flatMap_nil, List.append_nil]
theorem allS_len (fs : List Fc) : (allS fs).length = 3 * fs.length := by
  induction fs with
  | nil => rfl
  | cons f r ih => simp only [allS, List.flatMap_cons, List.length_append, List.length_cons] at *; rw [ih]; simp [sdsOf]; omega
theorem nodup_snoc {l : List Sd} {s : Sd} (h : l.Nodup) (hs : s ∉ l) : (l ++ [s]).Nodup := by
  rw [List.nodup_append]
  exact ⟨h, by simp, fun a ha b hb => by rw [List.mem_singleton.1 hb]; rintro rfl; exact hs ha⟩
theorem not_nodup {fs : List Fc} {k j : Nat} (hk : k < fs.length) (hj : j < (sdsOf fs[k]).length) (h : (sdsOf fs[k])[j] ∈ allS (fs.take k) ++ (sdsOf fs[k]).take j) : ¬ (allS fs).Nodup := by
  intro hn
  have e : allS fs = allS (fs.take (k + 1)) ++ allS (fs.drop (k + 1)) := by
    simp only [allS]
    rw [← List.flatMap_append, List.take_append_drop]
  rw [e, allS_snoc hk, ← List.take_append_drop j (sdsOf fs[k]), ← List.append_assoc] at hn
  have h2 := (List.nodup_append.1 (List.nodup_append.1 hn).1).2.2
  refine h2 _ h _ ?_ rfl
  rw [List.drop_eq_getElem_cons hj]
  exact List.mem_cons_self ..

theorem index3_0 (w : World) (a b c d e g : Int) : (Instr.index 114 (.agg #[.int .i64 a, .int .i64 b, .int .i64 c, .int .i64 d, .int .i64 e, .int .i64 g]) (.int .i64 0)).run Try.prog w = .ok (.agg #[.int .i64 a, .int .i64 b]) w := by kernel_rfl
theorem index3_1 (w : World) (a b c d e g : Int) : (Instr.index 114 (.agg #[.int .i64 a, .int .i64 b, .int .i64 c, .int .i64 d, .int .i64 e, .int .i64 g]) (.int .i64 1)).run Try.prog w = .ok (.agg #[.int .i64 c, .int .i64 d]) w := by kernel_rfl
theorem index3_2 (w : World) (a b c d e g : Int) : (Instr.index 114 (.agg #[.int .i64 a, .int .i64 b, .int .i64 c, .int .i64 d, .int .i64 e, .int .i64 g]) (.int .i64 2)).run Try.prog w = .ok (.agg #[.int .i64 e, .int .i64 g]) w := by kernel_rfl

set_option maxHeartbeats 4000000 in
set_option maxRecDepth 100000 in
theorem checkMesh_any (A : Option Addr) (c : Nat) (vs : List V3) (B : Option Addr) (d : Nat) (fs : List Fc) (w : World) (hl : Sl w 0 A vs) (hfs : Sl w 0 B fs) :
    Calls Try.prog 48 #[.agg #[.slice A vs.length c, .slice B fs.length d]] w fun e w' => e = .returned (.int .i64 (meshF ⟨vs, fs⟩)) ∧ w.grownBy w' none := by
  have hm := hl.1
  unfold maxLen at hm
  have hm2 := hfs.1
  unfold maxLen at hm2
  by_cases h0 : fs = []
  · have HE : Hid (meshF ⟨vs, fs⟩ = 8) := meshF_none h0
    have hz : fs.length = 0 := by simp [h0]
    have hzb : ((fs.length : Int) == 0) = true := by simp [hz]
    clear h0
    go_enter Try.func48, Try.ntmps48
    go_wp2
    go_ret
    exact ⟨ret_int HE.out.symm, (by repeat (first | exact World.grownBy.refl _ _ | assumption | refine gr_alloc ?_ _ | (apply gr_tail; assumption) | refine gr_drewN ?_ _ | refine gr_drew ?_))⟩
  · by_cases h1 : 1000 < vs.length ∨ 1000 < fs.length
    · have HE : Hid (meshF ⟨vs, fs⟩ = 2) := meshF_large h0 h1
      have hz : fs.length ≠ 0 := by simpa using h0
      clear h0
      by_cases h2 : 1000 < vs.length
      · clear h1
        go_enter Try.func48, Try.ntmps48
        go_wp2
        go_ret
        exact ⟨ret_int HE.out.symm, (by repeat (first | exact World.grownBy.refl _ _ | assumption | refine gr_alloc ?_ _ | (apply gr_tail; assumption) | refine gr_drewN ?_ _ | refine gr_drew ?_))⟩
      · have h3 : 1000 < fs.length := by omega
        clear h1
        go_enter Try.func48, Try.ntmps48
        go_wp2
        go_ret
        exact ⟨ret_int HE.out.symm, (by repeat (first | exact World.grownBy.refl _ _ | assumption | refine gr_alloc ?_ _ | (apply gr_tail; assumption) | refine gr_drewN ?_ _ | refine gr_drew ?_))⟩
    · have HF : Hid (vs.any farV = true → meshF ⟨vs, fs⟩ = 1) := meshF_far h0 h1
      have HG : Hid (vs.any farV = false → facesF vs fs ≠ 0 → meshF ⟨vs, fs⟩ = facesF vs fs) := meshF_face h0 h1
      have HT : Hid (vs.any farV = false → facesF vs fs = 0 → ¬ (allS fs).Nodup → meshF ⟨vs, fs⟩ = 6) := meshF_twice h0 h1
      have HO : Hid (vs.any farV = false → facesF vs fs = 0 → (allS fs).Nodup → meshF ⟨vs, fs⟩ = 0) := meshF_ok h0 h1
      have hz : fs.length ≠ 0 := by simpa using h0
      have hv1 : vs.length ≤ 1000 := by omega
      have hf1 : fs.length ≤ 1000 := by omega
      clear h0 h1
      have hg0 := gr_alloc (World.grownBy.refl w none) (.cells #[.slice A vs.length c, .slice B fs.length d] 29)
      have b0 := (Cell.new w [.slice A vs.length c, .slice B fs.length d] 29 0 _ rfl _ rfl).1
      have b1 := (Cell.new w [.slice A vs.length c, .slice B fs.length d] 29 1 _ rfl _ rfl).1
      replace b0 := hide b0
      replace b1 := hide b1
      go_enter Try.func48, Try.ntmps48
      go_wp2_with fail
      generalize w.alloc (.cells #[.slice A vs.length c, .slice B fs.length d] 29) = W at *
      have hWW := World.grownBy.refl W none
      go_loopw [30] (fun i wr => ∃ k : Nat, k ≤ vs.length ∧ i = .int .i64 k ∧ w.grownBy wr none ∧ W.grownBy wr none ∧ Hid ((vs.take k).any farV = false)) (fun i _ => vs.length - (intOf i).toNat)
      case atStart => exact ⟨0, Nat.zero_le _, rfl, hg0, hWW, by simp [Hid]⟩
      case round =>
        obtain ⟨k, hk, rfl, hg, hgW, hall⟩ := hrel
        by_cases hlt : k < vs.length
        · obtain ⟨g, o, cx, rfl, hb0, hb1, rfl, hc⟩ := (hl.pure hg).at_ (by decide) hlt
          have v0 : wr.cell? ⟨g, o + k * 3, none⟩ = some (.int .i64 vs[k].x) := hc 0 _ rfl
          have v1 : wr.cell? ⟨g, o + k * 3 + 1, none⟩ = some (.int .i64 vs[k].y) := hc 1 _ rfl
          have v2 : wr.cell? ⟨g, o + k * 3 + 2, none⟩ = some (.int .i64 vs[k].z) := hc 2 _ rfl
          clear hc
          have HS := hide (anyV_snoc hlt)
          have HA : Hid (farV vs[k] = true → vs.any farV = true) := anyV_at hlt
          have HV : Hid (farV vs[k] = (farZ vs[k].x || farZ vs[k].y || farZ vs[k].z)) := rfl
          generalize vs[k] = v at *
          clear HG HT HO
          go_wp2_with (go_at_call 53; refine (isFarM_any _ _).mono ?_; rintro e w' ⟨rfl, rfl⟩)
          all_goals first
            | (go_ret; exact ⟨ret_int (HF.out (HA.out (by rw [HV.out]; simp [*]))).symm, (by repeat (first | exact World.grownBy.refl _ _ | assumption | refine gr_alloc ?_ _ | (apply gr_tail; assumption) | refine gr_drewN ?_ _ | refine gr_drew ?_))⟩)
            | (go_roundw; (case rel => exact ⟨k + 1, by omega, by go_num, (by repeat (first | exact World.grownBy.refl _ _ | assumption | refine gr_alloc ?_ _ | (apply gr_tail; assumption) | refine gr_drewN ?_ _ | refine gr_drew ?_)), (by repeat (first | exact World.grownBy.refl _ _ | assumption | refine gr_alloc ?_ _ | (apply gr_tail; assumption) | refine gr_drewN ?_ _ | refine gr_drew ?_)), by simp only [Hid]; rw [HS.out, hall.out, HV.out]; simp [*]⟩); (case measure => simp [intOf]; omega))
        · have hfar : Hid (vs.any farV = false) := by have := hall.out; rwa [List.take_of_length_le (by omega)] at this
          replace HG := hide (HG.out hfar.out)
          replace HT := hide (HT.out hfar.out)
          replace HO := hide (HO.out hfar.out)
          clear HF hall
          obtain ⟨X, hX⟩ : ∃ X : Int, X = facesF vs fs := ⟨_, rfl⟩
          rw [← hX] at HG HT HO
          replace hX := hide hX
          replace b1 := hide (hgW.k b1.out)
          have b1 := b1.out
          replace b0 := hide (hgW.k b0.out)
          go_wp2_with fail
          generalize hWc : wr = W2 at *
          clear hWc
          have hgW2 := World.grownBy.refl W2 none
          have hgA := hg
          clear hg hgW
          go_loopw [51] (fun i wr => ∃ k : Nat, k ≤ fs.length ∧ i = .int .i64 k ∧ w.grownBy wr none ∧ W2.grownBy wr none ∧ Hid (facesF vs (fs.drop k) = X)) (fun i _ => fs.length - (intOf i).toNat)
          case atStart => exact ⟨0, Nat.zero_le _, rfl, hgA, hgW2, by rw [Hid, hX.out]; rfl⟩
          case round =>
            obtain ⟨k, hk, rfl, hg, hgW, hdr⟩ := hrel
            by_cases hlt : k < fs.length
            · replace b0 := hgW.k b0.out
              replace b1 := hgW.k b1
              obtain ⟨g, o, cx, rfl, hb0, hb1, rfl, hc⟩ := (hfs.pure hg).at_ (by decide) hlt
              have v0 : wr.cell? ⟨g, o + k * 3, none⟩ = some (.int .i64 fs[k].a) := hc 0 _ rfl
              have v1 : wr.cell? ⟨g, o + k * 3 + 1, none⟩ = some (.int .i64 fs[k].b) := hc 1 _ rfl
              have v2 : wr.cell? ⟨g, o + k * 3 + 2, none⟩ = some (.int .i64 fs[k].c) := hc 2 _ rfl
              clear hc
              have HS := facesF_drop (vs := vs) hlt
              generalize hff : fs[k] = f at *
              rw [hdr.out] at HS
              replace hff := hide hff
              have HZ : Hid (faceF vs f = 0 → facesF vs (fs.drop (k + 1)) = X) := fun h => by rw [if_pos h] at HS; exact HS.symm
              have HN : Hid (faceF vs f ≠ 0 → faceF vs f = X) := fun h => by rw [if_neg h] at HS; exact HS.symm
              clear HS HT HO
              have hlt0 : w.heap.size < wr.heap.size := cell_lt b0
              by_cases hy : faceF vs f = 0
              · have hb : (faceF vs f != 0) = false := by simp [hy]
                replace HZ := hide (HZ.out hy)
                clear hy HN
                go_wp2_with fail
                refine (faceFault_any A c vs _ _ _ f _ (hl.pure (gr_alloc hg _)) hfar.out).mono ?_
                rintro e w' ⟨rfl, hg'⟩
                go_wp2_with fail
                (go_roundw; (case rel => exact ⟨k + 1, by omega, by go_num, (by repeat (first | exact World.grownBy.refl _ _ | assumption | refine gr_alloc ?_ _ | (apply gr_tail; assumption) | refine gr_drewN ?_ _ | refine gr_drew ?_)), (by repeat (first | exact World.grownBy.refl _ _ | assumption | refine gr_alloc ?_ _ | (apply gr_tail; assumption) | refine gr_drewN ?_ _ | refine gr_drew ?_)), HZ⟩); (case measure => simp [intOf]; omega))
              · have hb : (faceF vs f != 0) = true := by simp [hy]
                have HX : Hid (faceF vs f = meshF ⟨vs, fs⟩) := by have e := HN.out hy; rw [Hid, HG.out (by rw [← e]; exact hy), e]
                clear hy HN HZ
                go_wp2_with fail
                refine (faceFault_any A c vs _ _ _ f _ (hl.pure (gr_alloc hg _)) hfar.out).mono ?_
                rintro e w' ⟨rfl, hg'⟩
                go_wp2_with fail
                go_ret
                exact ⟨ret_int HX.out, (by repeat (first | exact World.grownBy.refl _ _ | assumption | refine gr_alloc ?_ _ | (apply gr_tail; assumption) | refine gr_drewN ?_ _ | refine gr_drew ?_))⟩
            · have HX : X = 0 := by rw [← hdr.out, List.drop_of_length_le (by omega)]; rfl
              replace HT := hide (HT.out HX)
              replace HO := hide (HO.out HX)
              have HA : Hid (∀ f ∈ fs, faceF vs f = 0) := facesF_mem (hX.out.symm.trans HX)
              clear HG hdr
              replace b0 := hgW.k b0.out
              replace b1 := hgW.k b1
              have hmk := run_makeMap (P := Try.prog) 113 wr
              have hM0 := MapOf.made sideM wr
              have hge := gr_alloc (World.grownBy.refl wr none) (.map #[] 0)
              rw [show (fun _ : Sd => (none : Option Bool)) = setS (allS (fs.take 0)) by funext z; simp [setS, allS]] at hM0
              replace hM0 := hide hM0
              have b2 := hge.k b0
              have b3 := hge.k b1
              have hlt0 : w.heap.size < wr.heap.size := cell_lt b0
              go_wp2_with fail
              clear hmk b0 b1
              have hgC := gr_trans hg hge
              generalize hWm : wr.alloc (.map #[] 0) = W3 at *
              generalize hbm : wr.heap.size = bm at *
              have hgW3 := World.grownBy.refl W3 (some bm)
              clear hWm hbm hg hgW hgA hgW2 hge
              go_loopw [66] (fun i wr => ∃ k : Nat, k ≤ fs.length ∧ i = .int .i64 k ∧ w.grownBy wr none ∧ W3.grownBy wr (some bm) ∧ MapOf sideM wr bm (3 * k) (setS (allS (fs.take k))) ∧ Hid ((allS (fs.take k)).Nodup)) (fun i _ => fs.length - (intOf i).toNat)
              case atStart => exact ⟨0, Nat.zero_le _, rfl, hgC, hgW3, hM0.out, by simp [Hid, allS]⟩
              case round =>
                obtain ⟨k, hk, rfl, hg, hgW, hM, hnd⟩ := hrel
                by_cases hlt : k < fs.length
                · have hin := faceF_in (HA.out fs[k] (List.getElem_mem hlt))
                  have hok := hide (sd_cell hv1 hin)
                  have HD := hide (fun j hj h => HT.out (not_nodup (j := j) hlt hj h))
                  have HS := hide (allS_snoc hlt)
                  obtain ⟨g, o, cx, rfl, hb0, hb1, rfl, hc⟩ := (hfs.pure hg).at_ (by decide) hlt
                  have v0 : wr.cell? ⟨g, o + k * 3, none⟩ = some (.int .i64 fs[k].a) := hc 0 _ rfl
                  have v1 : wr.cell? ⟨g, o + k * 3 + 1, none⟩ = some (.int .i64 fs[k].b) := hc 1 _ rfl
                  have v2 : wr.cell? ⟨g, o + k * 3 + 2, none⟩ = some (.int .i64 fs[k].c) := hc 2 _ rfl
                  clear hc
                  generalize fs[k] = f at *
                  clear hin HT HO
                  replace hM := hide hM
                  go_wp2_with fail
                  refine (sides_any f _).mono ?_
                  rintro e w2 ⟨rfl, hg2⟩
                  have hM2 := (hM.out.kept (gr_alloc (World.grownBy.refl wr none) (.cells #[.int .i64 f.a, .int .i64 f.b, .int .i64 f.c] 67)) (by simp)).kept hg2 (by simp)
                  have hgw2 := gr_trans (gr_alloc hg (.cells #[.int .i64 f.a, .int .i64 f.b, .int .i64 f.c] 67)) hg2
                  have hgW2 := gr_trans (gr_alloc hgW (.cells #[.int .i64 f.a, .int .i64 f.b, .int .i64 f.c] 67)) (gr_any hg2)
                  clear hM v0 v1 v2 hg2
                  replace hM2 := hide hM2
                  go_wp2_with fail
                  replace HD := hide HD
                  generalize hL0 : allS (fs.take k) = L0 at *
                  clear hL0
                  have hnd2 := hnd
                  clear hnd hg hgW hM0 hb0 hb1
                  go_loopw [72] (fun i wr => ∃ j : Nat, j ≤ 3 ∧ i = .int .i64 j ∧ w.grownBy wr none ∧ W3.grownBy wr (some bm) ∧ MapOf sideM wr bm (3 * k + j) (setS (L0 ++ (sdsOf f).take j)) ∧ Hid ((L0 ++ (sdsOf f).take j).Nodup)) (fun i _ => 3 - (intOf i).toNat)
                  case atStart => exact ⟨0, by omega, rfl, hgw2, hgW2, by simpa using hM2.out, by simpa using hnd2⟩
                  case round =>
                    obtain ⟨j, hj, rfl, hg, hgW, hM, hnd⟩ := hrel
                    by_cases hjt : j < 3
                    · obtain rfl | rfl | rfl : j = 0 ∨ j = 1 ∨ j = 2 := by omega
                      · have hix := index3_0 wr f.a f.b f.b f.c f.c f.a
                        have hok1 : okS ⟨f.a, f.b⟩ := hok.out _ (by simp [sdsOf])
                        have hMa := hM.kept (gr_alloc (World.grownBy.refl wr none) (.cells #[.int .i64 (f.a), .int .i64 (f.b)] 79)) (by simp)
                        have hga := gr_alloc hg (.cells #[.int .i64 (f.a), .int .i64 (f.b)] 79)
                        have hgWa := gr_alloc hgW (.cells #[.int .i64 (f.a), .int .i64 (f.b)] 79)
                        have HD1 : Hid ((⟨f.a, f.b⟩ : Sd) ∈ L0 ++ (sdsOf f).take 0 → meshF ⟨vs, fs⟩ = 6) := fun h => HD.out 0 (by simp [sdsOf]) h
                        have HL : L0 ++ (sdsOf f).take (0 + 1) = (L0 ++ (sdsOf f).take 0) ++ [⟨f.a, f.b⟩] := by simp [sdsOf]
                        replace HL := hide HL
                        generalize L0 ++ (sdsOf f).take 0 = L at *
                        clear hM hg hgW HD HS
                        replace hMa := hide hMa
                        replace hok1 := hide hok1
                        by_cases hin : (⟨f.a, f.b⟩ : Sd) ∈ L
                        · have hb : Hid (decide ((⟨f.a, f.b⟩ : Sd) ∈ L) = true) := decide_eq_true hin
                          replace HD1 := hide (HD1.out hin)
                          clear hin
                          go_wp2_with (at_lookup; refine wpList_lookup_S _ rfl _ _ rfl bm _ L rfl hMa.out ⟨f.a, f.b⟩ rfl hok1.out true hb.out ?_)
                          go_ret
                          exact ⟨ret_int HD1.out.symm, hga⟩
                        · have hb : Hid (decide ((⟨f.a, f.b⟩ : Sd) ∈ L) = false) := decide_eq_false hin
                          have hnd1 := hide (nodup_snoc hnd.out hin)
                          clear hin HD1 hnd
                          go_wp2_with (first | (at_lookup; refine wpList_lookup_S _ rfl _ _ rfl bm _ L rfl hMa.out ⟨f.a, f.b⟩ rfl hok1.out false hb.out ?_) | (at_mapUpdate; refine wpList_store_S _ rfl _ _ _ rfl bm _ L rfl hMa.out (by simp [maxLen]; omega) ⟨f.a, f.b⟩ rfl rfl hok1.out ?_; intro w4 hM4 hg4))
                          have hM5 := hide (show MapOf sideM w4 bm (3 * k + (0 + 1)) (setS (L0 ++ (sdsOf f).take (0 + 1))) by rw [HL.out]; exact hM4.mono (by omega))
                          have hnd5 := hide (show (L0 ++ (sdsOf f).take (0 + 1)).Nodup by rw [HL.out]; exact hnd1.out)
                          have hg5 := gr_new hga hg4 (by omega)
                          have hg6 := gr_trans hgWa hg4
                          clear hM4 hnd1 HL
                          go_roundw
                          case rel => exact ⟨0 + 1, by omega, by go_num, hg5, hg6, hM5.out, hnd5.out⟩
                          case measure => simp [intOf]
                      · have hix := index3_1 wr f.a f.b f.b f.c f.c f.a
                        have hok1 : okS ⟨f.b, f.c⟩ := hok.out _ (by simp [sdsOf])
                        have hMa := hM.kept (gr_alloc (World.grownBy.refl wr none) (.cells #[.int .i64 (f.b), .int .i64 (f.c)] 79)) (by simp)
                        have hga := gr_alloc hg (.cells #[.int .i64 (f.b), .int .i64 (f.c)] 79)
                        have hgWa := gr_alloc hgW (.cells #[.int .i64 (f.b), .int .i64 (f.c)] 79)
                        have HD1 : Hid ((⟨f.b, f.c⟩ : Sd) ∈ L0 ++ (sdsOf f).take 1 → meshF ⟨vs, fs⟩ = 6) := fun h => HD.out 1 (by simp [sdsOf]) h
                        have HL : L0 ++ (sdsOf f).take (1 + 1) = (L0 ++ (sdsOf f).take 1) ++ [⟨f.b, f.c⟩] := by simp [sdsOf]
                        replace HL := hide HL
                        generalize L0 ++ (sdsOf f).take 1 = L at *
                        clear hM hg hgW HD HS
                        replace hMa := hide hMa
                        replace hok1 := hide hok1
                        by_cases hin : (⟨f.b, f.c⟩ : Sd) ∈ L
                        · have hb : Hid (decide ((⟨f.b, f.c⟩ : Sd) ∈ L) = true) := decide_eq_true hin
                          replace HD1 := hide (HD1.out hin)
                          clear hin
                          go_wp2_with (at_lookup; refine wpList_lookup_S _ rfl _ _ rfl bm _ L rfl hMa.out ⟨f.b, f.c⟩ rfl hok1.out true hb.out ?_)
                          go_ret
                          exact ⟨ret_int HD1.out.symm, hga⟩
                        · have hb : Hid (decide ((⟨f.b, f.c⟩ : Sd) ∈ L) = false) := decide_eq_false hin
                          have hnd1 := hide (nodup_snoc hnd.out hin)
                          clear hin HD1 hnd
                          go_wp2_with (first | (at_lookup; refine wpList_lookup_S _ rfl _ _ rfl bm _ L rfl hMa.out ⟨f.b, f.c⟩ rfl hok1.out false hb.out ?_) | (at_mapUpdate; refine wpList_store_S _ rfl _ _ _ rfl bm _ L rfl hMa.out (by simp [maxLen]; omega) ⟨f.b, f.c⟩ rfl rfl hok1.out ?_; intro w4 hM4 hg4))
                          have hM5 := hide (show MapOf sideM w4 bm (3 * k + (1 + 1)) (setS (L0 ++ (sdsOf f).take (1 + 1))) by rw [HL.out]; exact hM4.mono (by omega))
                          have hnd5 := hide (show (L0 ++ (sdsOf f).take (1 + 1)).Nodup by rw [HL.out]; exact hnd1.out)
                          have hg5 := gr_new hga hg4 (by omega)
                          have hg6 := gr_trans hgWa hg4
                          clear hM4 hnd1 HL
                          go_roundw
                          case rel => exact ⟨1 + 1, by omega, by go_num, hg5, hg6, hM5.out, hnd5.out⟩
                          case measure => simp [intOf]
                      · have hix := index3_2 wr f.a f.b f.b f.c f.c f.a
                        have hok1 : okS ⟨f.c, f.a⟩ := hok.out _ (by simp [sdsOf])
                        have hMa := hM.kept (gr_alloc (World.grownBy.refl wr none) (.cells #[.int .i64 (f.c), .int .i64 (f.a)] 79)) (by simp)
                        have hga := gr_alloc hg (.cells #[.int .i64 (f.c), .int .i64 (f.a)] 79)
                        have hgWa := gr_alloc hgW (.cells #[.int .i64 (f.c), .int .i64 (f.a)] 79)
                        have HD1 : Hid ((⟨f.c, f.a⟩ : Sd) ∈ L0 ++ (sdsOf f).take 2 → meshF ⟨vs, fs⟩ = 6) := fun h => HD.out 2 (by simp [sdsOf]) h
                        have HL : L0 ++ (sdsOf f).take (2 + 1) = (L0 ++ (sdsOf f).take 2) ++ [⟨f.c, f.a⟩] := by simp [sdsOf]
                        replace HL := hide HL
                        generalize L0 ++ (sdsOf f).take 2 = L at *
                        clear hM hg hgW HD HS
                        replace hMa := hide hMa
                        replace hok1 := hide hok1
                        by_cases hin : (⟨f.c, f.a⟩ : Sd) ∈ L
                        · have hb : Hid (decide ((⟨f.c, f.a⟩ : Sd) ∈ L) = true) := decide_eq_true hin
                          replace HD1 := hide (HD1.out hin)
                          clear hin
                          go_wp2_with (at_lookup; refine wpList_lookup_S _ rfl _ _ rfl bm _ L rfl hMa.out ⟨f.c, f.a⟩ rfl hok1.out true hb.out ?_)
                          go_ret
                          exact ⟨ret_int HD1.out.symm, hga⟩
                        · have hb : Hid (decide ((⟨f.c, f.a⟩ : Sd) ∈ L) = false) := decide_eq_false hin
                          have hnd1 := hide (nodup_snoc hnd.out hin)
                          clear hin HD1 hnd
                          go_wp2_with (first | (at_lookup; refine wpList_lookup_S _ rfl _ _ rfl bm _ L rfl hMa.out ⟨f.c, f.a⟩ rfl hok1.out false hb.out ?_) | (at_mapUpdate; refine wpList_store_S _ rfl _ _ _ rfl bm _ L rfl hMa.out (by simp [maxLen]; omega) ⟨f.c, f.a⟩ rfl rfl hok1.out ?_; intro w4 hM4 hg4))
                          have hM5 := hide (show MapOf sideM w4 bm (3 * k + (2 + 1)) (setS (L0 ++ (sdsOf f).take (2 + 1))) by rw [HL.out]; exact hM4.mono (by omega))
                          have hnd5 := hide (show (L0 ++ (sdsOf f).take (2 + 1)).Nodup by rw [HL.out]; exact hnd1.out)
                          have hg5 := gr_new hga hg4 (by omega)
                          have hg6 := gr_trans hgWa hg4
                          clear hM4 hnd1 HL
                          go_roundw
                          case rel => exact ⟨2 + 1, by omega, by go_num, hg5, hg6, hM5.out, hnd5.out⟩
                          case measure => simp [intOf]
                    · have hj3 : j = 3 := by omega
                      subst hj3
                      have e3 : (sdsOf f).take 3 = sdsOf f := rfl
                      rw [e3, ← HS.out] at hM hnd
                      replace hM := hide hM
                      go_wp2
                      (go_roundw; (case rel => exact ⟨k + 1, by omega, by go_num, hg, hgW, hM.out.mono (by omega), hnd⟩); (case measure => simp [intOf]; omega))
                · have HE : Hid (0 = meshF ⟨vs, fs⟩) := (HO.out (by have := hnd.out; rwa [List.take_of_length_le (by omega)] at this)).symm
                  clear HT HO
                  replace hM := hide hM
                  go_wp2
                  go_ret
                  exact ⟨ret_int HE.out, hg⟩

end Go.Proofs.Ytjodjdjfagjiaaa

/- Contracts of functions that this seat's laws reach, each: what one call returns and what it leaves in memory; no condition beyond each theorem's own hypotheses. -/
import Derived.Test.YtgcfaamgilbjdaaGreatDoorZqIdxP
import Derived.Test.YtgcfaamgilbjdaaGreatDoorZqTree
import Derived.Test.YtgcfaamgilbjdaaGreatDoorZqGrS
import Derived.Deep.DeepCutAuto
import Derived.BigQuiet
set_option linter.unusedVariables false
set_option linter.unusedSimpArgs false
namespace Go.Proofs.YtgcfaamgilbjdaaGreatDoor
open Go.RowKit Go.Bl

theorem info_chc : (Tryz.prog.info? 58).map (fun i => (i.zero, i.size, i.bytes)) = some (some (.agg #[.int .i64 0, .int .i64 0, .bool false, .int .i64 0, .int .i64 0, .int .i64 0, .int .i64 0]), 7, 56) := by kernel_rfl

set_option maxHeartbeats 4000000 in
set_option maxRecDepth 100000 in
theorem choices_any (A : Option Addr) (c : Nat) (l : List PathV) (i : Nat) (w : World) (hl : Sl w 0 A l) (hp : pathsF l = 0) (hi : i < l.length) :
    Calls Tryz.prog 18 #[.slice A l.length c, .int .i64 i] w fun e w' => ∃ (A' : Option Addr) (c' : Nat), e = .returned (.slice A' (chs l i).length c') ∧ Own w' w.heap.size 58 A' c' (chs l i) ∧ w.grownBy w' none := by
  have hll := hl.1
  unfold maxLen at hll
  have hchs : Hid (chs l i = (chV l[i] i).map (chO l)) := by unfold chs; rw [getD_path hi]; rfl
  have hCV : ∀ v ∈ chV l[i] i, VisOk l v := fun v hv => (chV_ok hp hi v hv).2.1
  have hpl := (pathF_zero ((pathsF_zero hp).2 _ (List.getElem_mem hi))).2.1
  obtain ⟨g, o, cx, rfl, hb0, hb1, ⟨A', c', rfl, hcp, hpts⟩, hc⟩ := hl.at_ (by decide) hi
  have c0 : w.cell? ⟨g, o + i * 2, none⟩ = some (.slice A' l[i].pts.length c') := hc 0 _ rfl
  have c1 : w.cell? ⟨g, o + i * 2 + 1, none⟩ = some (.bool l[i].cl) := hc 1 _ rfl
  clear hc hp hpts
  cases hcl : l[i].cl with
  | true =>
    have hCVe : chV l[i] i = (List.range l[i].pts.length).map fun (k : Nat) => ⟨i, k, false⟩ := by unfold chV; rw [if_pos hcl]
    rw [hcl] at c1
    rw [hCVe] at hCV hchs
    clear hCVe hcl
    generalize l[i].pts.length = np at *
    replace hCV := hide hCV
    go_enter Tryz.func18, Tryz.ntmps18
    go_wp2_with fail
    go_loopw [5, 23] (fun s j wr => ∃ (k : Nat) (A2 : Option Addr) (c2 : Nat), k ≤ np ∧ j = .int .i64 k ∧ s = .slice A2 k c2 ∧ Own wr w.heap.size 43 A2 c2 ((List.range k).map fun (k : Nat) => (⟨i, k, false⟩ : Vis)) ∧ w.grownBy wr none) (fun _ j _ => np - (intOf j).toNat)
    case atStart => exact ⟨0, none, 0, Nat.zero_le _, rfl, rfl, Own.nil _ _ _, World.grownBy.refl _ _⟩
    case round =>
      obtain ⟨k, A2, c2, hk, rfl, rfl, hO, hg⟩ := hrel
      by_cases hlt : k < np
      · have HS : Hid ((List.range (k + 1)).map (fun (k : Nat) => (⟨i, k, false⟩ : Vis)) = (List.range k).map (fun (k : Nat) => (⟨i, k, false⟩ : Vis)) ++ [⟨i, k, false⟩]) := by rw [Hid, List.range_succ, List.map_append]; rfl
        have hOl : Hid (((List.range k).map fun (k : Nat) => (⟨i, k, false⟩ : Vis)).length = k) := by simp [Hid]
        generalize (List.range k).map (fun (k : Nat) => (⟨i, k, false⟩ : Vis)) = LV at *
        have hz0 := hg.size
        go_wp2_with (at_builtin; obtain ⟨i0, hi, hz, h1, h2⟩ := info_parts info_vis; refine wpList_pushAt (α := Vis) _ rfl (.tmp 26) (.tmp 30) _ rfl w.heap.size 43 i0 _ 24 Tryz.underlying32 hi hz h1 h2 rfl A2 _ c2 LV rfl hOl.out.symm (by exact hO.pure (by repeat (first | exact World.grownBy.refl _ _ | assumption | refine gr_alloc ?_ _ | (apply gr_tail; assumption) | refine gr_drewN ?_ _ | refine gr_drew ?_))) 0 ⟨_, 0, none⟩ 1 1 [⟨i, k, false⟩] rfl rfl (by exact sl_oneAt _ 0 [.int .i64 i, .int .i64 k, .bool false] _ _ _ (by first | rfl | simp) (Nat.zero_le _) rfl) ?c2 ?c3 ?c4 ?_)
        case c2 => rw [hOl.out]; simp; omega
        case c3 => rw [hOl.out]; simp [maxLen]; omega
        case c4 => simp; omega
        intro A9 c9 w9 hO9 hG9
        have hg9 := gr_row (gr_alloc hg (.cells #[.int .i64 i, .int .i64 k, .bool false] 43)) hG9.1 (fun g e => (hO.blk_lt e).1)
        rw [← HS.out] at hO9
        clear hG9 hO
        rw [hOl.out]
        go_wp2
        (go_roundw; (case rel => exact ⟨k + 1, A9, c9, by omega, by go_num, rfl, hO9, hg9⟩); (case measure => simp [intOf]; omega))
      · have hkn : k = np := by omega
        subst hkn
        obtain ⟨wa, rfl⟩ : ∃ x, x = wr := ⟨wr, rfl⟩
        have hV := hO.sl.mono (Nat.zero_le _)
        have hCVn : Hid (((List.range k).map fun (k : Nat) => (⟨i, k, false⟩ : Vis)).length = k) := by simp [Hid]
        have hga := hg
        clear hO hg c0 c1
        generalize (List.range k).map (fun (k : Nat) => (⟨i, k, false⟩ : Vis)) = CV at *
        have hCVm : CV.length ≤ 500 := by rw [hCVn.out]; exact hpl
        rw [← hCVn.out]
        have hCVl := hV.1
        unfold maxLen at hCVl
        go_wp2_with fail
        go_loopw [7, 40] (fun o j wr => ∃ (m : Nat) (A2 : Option Addr) (c2 : Nat), m ≤ CV.length ∧ j = .int .i64 m ∧ o = .slice A2 m c2 ∧ Own wr wa.heap.size 58 A2 c2 ((CV.take m).map (chO l)) ∧ wa.grownBy wr none) (fun _ j _ => CV.length - (intOf j).toNat)
        case atStart => exact ⟨0, none, 0, Nat.zero_le _, rfl, rfl, Own.nil _ _ _, World.grownBy.refl _ _⟩
        case round =>
          obtain ⟨m, A2, c2, hm, rfl, rfl, hO, hg⟩ := hrel
          by_cases hlt2 : m < CV.length
          · have hok := hide (hCV.out _ (List.getElem_mem hlt2))
            have HS : Hid ((CV.take (m + 1)).map (chO l) = (CV.take m).map (chO l) ++ [⟨CV[m], eA l CV[m], eB l CV[m]⟩]) := by rw [Hid, take_snoc hlt2, List.map_append]; rfl
            have hOl : Hid (((CV.take m).map (chO l)).length = m) := by rw [Hid, List.length_map, List.length_take, Nat.min_eq_left hm]
            obtain ⟨gv, ov, cx, rfl, _, _, rfl, hc⟩ := (hV.pure hg).at_ (by decide) hlt2
            have v0 : wr.cell? ⟨gv, ov + m * 3, none⟩ = some (.int .i64 CV[m].path) := hc 0 _ rfl
            have v1 : wr.cell? ⟨gv, ov + m * 3 + 1, none⟩ = some (.int .i64 CV[m].start) := hc 1 _ rfl
            have v2 : wr.cell? ⟨gv, ov + m * 3 + 2, none⟩ = some (.bool CV[m].back) := hc 2 _ rfl
            clear hc
            have hEn := hide (ends_any (some ⟨g, o, none⟩) c l CV[m] (wr.alloc (.cells #[.int .i64 CV[m].path, .int .i64 CV[m].start, .bool CV[m].back] 43)) ((hl.pure (gr_trans hga hg)).pure (gr_alloc (World.grownBy.refl _ _) _)) hok.out)
            generalize eA l CV[m] = pa at *
            generalize eB l CV[m] = pb at *
            generalize CV[m] = v at *
            generalize (CV.take m).map (chO l) = LC at *
            go_wp2_with fail
            refine hEn.out.mono ?_
            rintro e w2 ⟨rfl, h2'⟩
            have k0 := (h2').k (p := ⟨wr.heap.size, 0, none⟩) (v := .int .i64 v.path) (by go_simp)
            have k1 := (h2').k (p := ⟨wr.heap.size, 1, none⟩) (v := .int .i64 v.start) (by go_simp)
            have k2 := (h2').k (p := ⟨wr.heap.size, 2, none⟩) (v := .bool v.back) (by go_simp)
            replace h2' := gr_trans (gr_alloc (World.grownBy.refl wr none) (.cells #[.int .i64 v.path, .int .i64 v.start, .bool v.back] 43)) h2'
            have hO2 := hO.pure h2'
            have hlt3 : wr.heap.size < w2.heap.size := cell_lt k0
            have hz0 := hg.size
            clear hEn hO v0 v1 v2
            go_wp2_with (at_builtin; obtain ⟨i0, hi, hz, h1, h2⟩ := info_parts info_chc; refine wpList_pushAt (α := Chc) _ rfl (.tmp 50) (.tmp 55) _ rfl wa.heap.size 58 i0 _ 56 Tryz.underlying50 hi hz h1 h2 rfl A2 _ c2 LC rfl hOl.out.symm (by exact hO2.pure (by repeat (first | exact World.grownBy.refl _ _ | assumption | refine gr_alloc ?_ _ | (apply gr_tail; assumption) | refine gr_drewN ?_ _ | refine gr_drew ?_))) 0 ⟨_, 0, none⟩ 1 1 [⟨v, pa, pb⟩] rfl rfl (by exact sl_oneAt _ 0 [.int .i64 v.path, .int .i64 v.start, .bool v.back, .int .i64 pa.x, .int .i64 pa.y, .int .i64 pb.x, .int .i64 pb.y] _ _ _ (by first | rfl | simp) (Nat.zero_le _) rfl) ?c2 ?c3 ?c4 ?_)
            case c2 => rw [hOl.out]; simp; omega
            case c3 => rw [hOl.out]; simp [maxLen]; omega
            case c4 => simp; omega
            intro A9 c9 w9 hO9 hG9
            have hg9 := gr_row (gr_alloc (gr_alloc (gr_alloc (gr_trans hg h2') (.cells #[.int .i64 pa.x, .int .i64 pa.y] 28)) (.cells #[.int .i64 pb.x, .int .i64 pb.y] 28)) (.cells #[.int .i64 v.path, .int .i64 v.start, .bool v.back, .int .i64 pa.x, .int .i64 pa.y, .int .i64 pb.x, .int .i64 pb.y] 58)) hG9.1 (fun g e => (hO2.blk_lt e).1)
            rw [hOl.out]
            rw [← HS.out] at hO9
            clear hG9 hO2
            go_wp2
            (go_roundw; (case rel => exact ⟨m + 1, A9, c9, by omega, by go_num, rfl, hO9, hg9⟩); (case measure => simp [intOf]; omega))
          · have hm2 : m = CV.length := by omega
            subst hm2
            rw [List.take_length, ← hchs.out] at hO
            have hln : Hid ((chs l i).length = CV.length) := by rw [Hid, hchs.out, List.length_map]
            have hz0 := hga.size
            go_wp2_with fail
            go_ret
            exact ⟨A2, c2, by rw [hln.out]; rfl, hO.lower hz0, gr_trans hga hg⟩
  | false =>
    have hCVe : chV l[i] i = [⟨i, 0, false⟩, ⟨i, 0, true⟩] := by unfold chV; rw [if_neg (by rw [hcl]; simp)]
    rw [hcl] at c1
    rw [hCVe] at hCV hchs
    clear hCVe hcl hpl
    obtain ⟨CV, hCVd⟩ : ∃ CV : List Vis, CV = [⟨i, 0, false⟩, ⟨i, 0, true⟩] := ⟨_, rfl⟩
    rw [← hCVd] at hCV hchs
    replace hCV := hide hCV
    have hV0 := sl_lit w w.heap.size [.int .i64 i, .int .i64 0, .bool false, .int .i64 i, .int .i64 0, .bool true] 43 CV (Nat.le_refl _) (by rw [hCVd]; simp [maxLen]) (by rw [hCVd]; exact ⟨_, _, rfl, rfl, _, _, rfl, rfl, rfl⟩)
    have hV := hV0.mono (Nat.zero_le _)
    have hga := gr_alloc (World.grownBy.refl w none) (.cells #[.int .i64 i, .int .i64 0, .bool false, .int .i64 i, .int .i64 0, .bool true] 43)
    have hCVn : Hid (2 = CV.length) := by rw [hCVd]; rfl
    clear hV0 hCVd
    go_enter Tryz.func18, Tryz.ntmps18
    go_upto_region 9 with fail
    clear c0 c1
    obtain ⟨wa, hwa⟩ : ∃ x, x = w.alloc (.cells #[.int .i64 i, .int .i64 0, .bool false, .int .i64 i, .int .i64 0, .bool true] 43) := ⟨_, rfl⟩
    rw [show (.cells [.int .i64 (i : Int), .int .i64 0, .bool false, .int .i64 i, .int .i64 0, .bool true].toArray 43 : Obj) = .cells #[.int .i64 i, .int .i64 0, .bool false, .int .i64 i, .int .i64 0, .bool true] 43 from rfl] at hV
    rw [← hwa] at hV hga ⊢
    clear hwa
    generalize (some (⟨w.heap.size, 0, none⟩ : Addr)) = VA at *
    have hCVm : CV.length ≤ 500 := by rw [← hCVn.out]; omega
    rw [hCVn.out]
    have hCVl := hV.1
    unfold maxLen at hCVl
    go_wp2_with fail
    go_loopw [7, 40] (fun o j wr => ∃ (m : Nat) (A2 : Option Addr) (c2 : Nat), m ≤ CV.length ∧ j = .int .i64 m ∧ o = .slice A2 m c2 ∧ Own wr wa.heap.size 58 A2 c2 ((CV.take m).map (chO l)) ∧ wa.grownBy wr none) (fun _ j _ => CV.length - (intOf j).toNat)
    case atStart => exact ⟨0, none, 0, Nat.zero_le _, rfl, rfl, Own.nil _ _ _, World.grownBy.refl _ _⟩
    case round =>
      obtain ⟨m, A2, c2, hm, rfl, rfl, hO, hg⟩ := hrel
      by_cases hlt2 : m < CV.length
      · have hok := hide (hCV.out _ (List.getElem_mem hlt2))
        have HS : Hid ((CV.take (m + 1)).map (chO l) = (CV.take m).map (chO l) ++ [⟨CV[m], eA l CV[m], eB l CV[m]⟩]) := by rw [Hid, take_snoc hlt2, List.map_append]; rfl
        have hOl : Hid (((CV.take m).map (chO l)).length = m) := by rw [Hid, List.length_map, List.length_take, Nat.min_eq_left hm]
        obtain ⟨gv, ov, cx, rfl, _, _, rfl, hc⟩ := (hV.pure hg).at_ (by decide) hlt2
        have v0 : wr.cell? ⟨gv, ov + m * 3, none⟩ = some (.int .i64 CV[m].path) := hc 0 _ rfl
        have v1 : wr.cell? ⟨gv, ov + m * 3 + 1, none⟩ = some (.int .i64 CV[m].start) := hc 1 _ rfl
        have v2 : wr.cell? ⟨gv, ov + m * 3 + 2, none⟩ = some (.bool CV[m].back) := hc 2 _ rfl
        clear hc
        have hEn := hide (ends_any (some ⟨g, o, none⟩) c l CV[m] (wr.alloc (.cells #[.int .i64 CV[m].path, .int .i64 CV[m].start, .bool CV[m].back] 43)) ((hl.pure (gr_trans hga hg)).pure (gr_alloc (World.grownBy.refl _ _) _)) hok.out)
        generalize eA l CV[m] = pa at *
        generalize eB l CV[m] = pb at *
        generalize CV[m] = v at *
        generalize (CV.take m).map (chO l) = LC at *
        go_wp2_with fail
        refine hEn.out.mono ?_
        rintro e w2 ⟨rfl, h2'⟩
        have k0 := (h2').k (p := ⟨wr.heap.size, 0, none⟩) (v := .int .i64 v.path) (by go_simp)
        have k1 := (h2').k (p := ⟨wr.heap.size, 1, none⟩) (v := .int .i64 v.start) (by go_simp)
        have k2 := (h2').k (p := ⟨wr.heap.size, 2, none⟩) (v := .bool v.back) (by go_simp)
        replace h2' := gr_trans (gr_alloc (World.grownBy.refl wr none) (.cells #[.int .i64 v.path, .int .i64 v.start, .bool v.back] 43)) h2'
        have hO2 := hO.pure h2'
        have hlt3 : wr.heap.size < w2.heap.size := cell_lt k0
        have hz0 := hg.size
        clear hEn hO v0 v1 v2
        go_wp2_with (at_builtin; obtain ⟨i0, hi, hz, h1, h2⟩ := info_parts info_chc; refine wpList_pushAt (α := Chc) _ rfl (.tmp 50) (.tmp 55) _ rfl wa.heap.size 58 i0 _ 56 Tryz.underlying50 hi hz h1 h2 rfl A2 _ c2 LC rfl hOl.out.symm (by exact hO2.pure (by repeat (first | exact World.grownBy.refl _ _ | assumption | refine gr_alloc ?_ _ | (apply gr_tail; assumption) | refine gr_drewN ?_ _ | refine gr_drew ?_))) 0 ⟨_, 0, none⟩ 1 1 [⟨v, pa, pb⟩] rfl rfl (by exact sl_oneAt _ 0 [.int .i64 v.path, .int .i64 v.start, .bool v.back, .int .i64 pa.x, .int .i64 pa.y, .int .i64 pb.x, .int .i64 pb.y] _ _ _ (by first | rfl | simp) (Nat.zero_le _) rfl) ?c2 ?c3 ?c4 ?_)
        case c2 => rw [hOl.out]; simp; omega
        case c3 => rw [hOl.out]; simp [maxLen]; omega
        case c4 => simp; omega
        intro A9 c9 w9 hO9 hG9
        have hg9 := gr_row (gr_alloc (gr_alloc (gr_alloc (gr_trans hg h2') (.cells #[.int .i64 pa.x, .int .i64 pa.y] 28)) (.cells #[.int .i64 pb.x, .int .i64 pb.y] 28)) (.cells #[.int .i64 v.path, .int .i64 v.start, .bool v.back, .int .i64 pa.x, .int .i64 pa.y, .int .i64 pb.x, .int .i64 pb.y] 58)) hG9.1 (fun g e => (hO2.blk_lt e).1)
        rw [hOl.out]
        rw [← HS.out] at hO9
        clear hG9 hO2
        go_wp2
        (go_roundw; (case rel => exact ⟨m + 1, A9, c9, by omega, by go_num, rfl, hO9, hg9⟩); (case measure => simp [intOf]; omega))
      · have hm2 : m = CV.length := by omega
        subst hm2
        rw [List.take_length, ← hchs.out] at hO
        have hln : Hid ((chs l i).length = CV.length) := by rw [Hid, hchs.out, List.length_map]
        have hz0 := hga.size
        go_wp2_with fail
        go_ret
        exact ⟨A2, c2, by rw [hln.out]; rfl, hO.lower hz0, gr_trans hga hg⟩

end Go.Proofs.YtgcfaamgilbjdaaGreatDoor

namespace Go.Proofs.YtgcfaamgilbjdaaGreatDoor
open Go.RowKit Go.Bl

set_option maxHeartbeats 1000000 in
theorem startPaths_any (A : Option Addr) (c : Nat) (l : List PathV) (st : Pt) (w : World) (hl : Sl w 0 A l) :
    Calls Tryz.prog 17 #[.agg #[.int .i64 st.x, .int .i64 st.y], .slice A l.length c] w fun e w' => e = .returned (.int .i64 (if farP st then 1 else pathsF l)) ∧ w.grownBy w' none := by
  cases hf : farP st with
  | true =>
    rw [if_pos rfl]
    have hF := fun W => isFar_any st W
    rw [hf] at hF
    replace hF := hide hF
    clear hf
    go_enter Tryz.func17, Tryz.ntmps17
    go_wp2_with fail
    refine (hF.out _).mono ?_
    rintro e w1 ⟨rfl, h1⟩
    go_wp2_with fail
    go_ret
    exact ⟨rfl, gr_trans (gr_alloc (World.grownBy.refl _ _) _) h1⟩
  | false =>
    rw [if_neg (by simp)]
    have hF := fun W => isFar_any st W
    rw [hf] at hF
    replace hF := hide hF
    clear hf
    have hCP := hide fun W h => checkPaths_any A c l W h
    generalize pathsF l = F at *
    go_enter Tryz.func17, Tryz.ntmps17
    go_wp2_with fail
    refine (hF.out _).mono ?_
    rintro e w1 ⟨rfl, h1⟩
    replace h1 := gr_trans (gr_alloc (World.grownBy.refl w none) (.cells #[.int .i64 st.x, .int .i64 st.y] 28)) h1
    go_wp2_with fail
    refine (hCP.out _ (hl.pure h1)).mono ?_
    rintro e w2 ⟨rfl, h2⟩
    go_wp2_with fail
    go_ret
    exact ⟨rfl, gr_trans h1 h2⟩

def chcV (c : Chc) : List Value := [.int .i64 c.v.path, .int .i64 c.v.start, .bool c.v.back, .int .i64 c.a.x, .int .i64 c.a.y, .int .i64 c.b.x, .int .i64 c.b.y]

def chD (o : Option Chc) : Chc := o.getD ⟨⟨0, 0, false⟩, ⟨0, 0⟩, ⟨0, 0⟩⟩

set_option maxHeartbeats 8000000 in
set_option maxRecDepth 100000 in
theorem nearest_any (A : Option Addr) (c : Nat) (l : List PathV) (st : Pt) (w : World) (hl : Sl w 0 A l) (hp : pathsF l = 0) (hst : near st) (hsf : farP st = false) :
    Calls Tryz.prog 8 #[.agg #[.int .i64 st.x, .int .i64 st.y], .slice A l.length c] w fun e w' => ∃ (A' : Option Addr) (c' : Nat), e = .returned (.tuple #[.slice A' (nearK l st l.length).1.length c', .int .i64 (travS l st (nearK l st l.length).1).2, .int .i64 0]) ∧ Own w' w.heap.size 43 A' c' (nearK l st l.length).1 ∧ w.grownBy w' none := by
  have hll := (pathsF_zero hp).1
  have hSP := fun W h => startPaths_any A c l st W h
  rw [hsf, if_neg (by simp), hp] at hSP
  replace hSP := hide hSP
  replace hp := hide hp
  have hg0 := gr_alloc (World.grownBy.refl w none) (.cells #[.int .i64 st.x, .int .i64 st.y] 28)
  go_enter Tryz.func8, Tryz.ntmps8
  go_wp2_with fail
  refine (hSP.out _ (hl.pure hg0)).mono ?_
  rintro e w1 ⟨rfl, h1⟩
  have s0 := (h1).k (p := ⟨w.heap.size, 0, none⟩) (v := .int .i64 st.x) (by go_simp)
  have s1 := (h1).k (p := ⟨w.heap.size, 1, none⟩) (v := .int .i64 st.y) (by go_simp)
  replace h1 := gr_trans hg0 h1
  clear hSP hg0
  obtain ⟨i0, hi, hz, hi1, hi2⟩ := info_parts info_boolP
  obtain ⟨w2, hrun, hU, h2⟩ := run_makeOwn (P := Tryz.prog) w1 63 4 i0 _ false Tryz.underlying63 hi hz hi1 rfl rfl .i64 .i64 l.length (by rw [hi2]; omega) (by simp [maxLen]; omega)
  rw [← seenL_nil] at hU
  have hwgu0 : w.heap.size < w1.heap.size := cell_lt s0
  have s0' := h2.k s0
  have s1' := h2.k s1
  go_upto_region 8 with fail
  clear hrun s0 s1
  have hgW := gr_trans h1 h2
  obtain ⟨w3, hw3⟩ : ∃ x, x = w2.alloc (.cells [.int .i64 st.x, .int .i64 st.y].toArray 28) := ⟨_, rfl⟩
  have hA0 : Box w3 w2.heap.size 28 [.int .i64 st.x, .int .i64 st.y] := by rw [hw3]; exact Box.new _ _ _
  have hg3 : w2.grownBy w3 none := by rw [hw3]; exact gr_alloc (World.grownBy.refl _ _) _
  have hs3 : w2.heap.size < w3.heap.size := by rw [hw3]; simp
  rw [show w2.alloc (.cells #[.int .i64 st.x, .int .i64 st.y] 28) = w3 from hw3.symm]
  clear hw3
  have hgu := (hU.blk_lt (g := w1.heap.size) rfl).2
  have hU3 := hU.pure hg3
  replace hgW := gr_trans hgW hg3
  have hS0 : w3.cell? ⟨w.heap.size, 0, none⟩ = some (.int .i64 st.x) := hg3.k s0'
  have hS1 : w3.cell? ⟨w.heap.size, 1, none⟩ = some (.int .i64 st.y) := hg3.k s1'
  have hl3 := hl.pure hgW
  have hwgu : w.heap.size < w1.heap.size := hwgu0
  clear h1 h2 hg3 hU s0' s1' hsf
  generalize hgat : w2.heap.size = ga at *
  generalize hguu : w1.heap.size = gu at *
  clear hgat hguu
  go_loopw [9, 28] (fun s i wr => ∃ (m : Nat) (A9 : Option Addr) (c9 : Nat), m ≤ l.length ∧ i = .int .i64 m ∧ s = .slice A9 m c9 ∧ Own wr w3.heap.size 43 A9 c9 (nearK l st m).1 ∧ Own wr gu 4 (some ⟨gu, 0, none⟩) l.length (seenL l.length (nearK l st m).1) ∧ Box wr ga 28 [.int .i64 (nearK l st m).2.x, .int .i64 (nearK l st m).2.y] ∧ w3.heap.size ≤ wr.heap.size ∧ wr.cell? ⟨w.heap.size, 0, none⟩ = some (.int .i64 st.x) ∧ wr.cell? ⟨w.heap.size, 1, none⟩ = some (.int .i64 st.y) ∧ w.grownBy wr none) (fun _ i _ => l.length - (intOf i).toNat)
  case atStart => exact ⟨0, none, 0, Nat.zero_le _, rfl, rfl, Own.nil _ _ _, hU3, hA0, Nat.le_refl _, hS0, hS1, hgW⟩
  case round =>
    obtain ⟨m, A9, c9, hm, rfl, rfl, hO, hU, hA, hsz, hS0, hS1, hgr⟩ := hrel
    by_cases hlt : m < l.length
    · have hnr := near_near hp.out hst hm
      have hgu2 := (hU.blk_lt (g := gu) rfl).2
      have hga2 := hA.lt
      have hws : w.heap.size < wr.heap.size := cell_lt hS0
      obtain ⟨bc, bi, hb1, hb2, hb3, hb4⟩ := near_next hp.out st hlt
      have hOl : (nearK l st m).1.length = m := (near_ok hp.out st m hm).1
      have hlwr := hl.pure hgr
      obtain ⟨wa, hwa⟩ : ∃ x, x = wr.alloc (.cells (chcV (chD none)).toArray 58) := ⟨_, rfl⟩
      have hB0 : Box wa wr.heap.size 58 (chcV (chD none)) := by rw [hwa]; exact Box.new _ _ _
      have hga : wr.grownBy wa none := by rw [hwa]; exact gr_alloc (World.grownBy.refl _ _) _
      have hbest0 : bestTo l (nearK l st m).2 (nearK l st m).1 0 = none := rfl
      generalize hN : nearK l st (m + 1) = NK at *
      generalize (nearK l st m).1 = no at *
      generalize (nearK l st m).2 = na at *
      -- what stands while the best one is sought
      have hUa := hU.pure hga
      have hAa := hA.pure hga
      have hOa := hO.pure hga
      have hla := hlwr.pure hga
      have hgb : ∀ wx, wa.grownBy wx (some wr.heap.size) → Own wx gu 4 (some ⟨gu, 0, none⟩) l.length (seenL l.length no) ∧ Box wx ga 28 [.int .i64 na.x, .int .i64 na.y] ∧ wr.grownBy wx none := fun wx h => ⟨hUa.ne h (fun g e1 e2 => by simp [blk] at e1; injection e2 with e2; omega), hAa.gr h (fun e => by injection e; omega), gr_new hga h (Nat.le_refl _)⟩
      have hsa : wr.heap.size < wa.heap.size := hB0.lt
      replace hwa := hide hwa.symm
      replace hN := hide hN
      replace hb1 := hide hb1
      replace hb2 := hide hb2
      replace hb4 := hide hb4
      replace hOl := hide hOl
      replace hgb := hide hgb
      replace hbest0 := hide hbest0
      clear hUa hAa
      go_upto_region 12 with fail
      rw [show wr.alloc (.cells #[.int .i64 0, .int .i64 0, .bool false, .int .i64 0, .int .i64 0, .int .i64 0, .int .i64 0] 58) = wa from hwa.out]
      obtain ⟨gb, hgbe⟩ : ∃ x, x = wr.heap.size := ⟨_, rfl⟩
      rw [← hgbe] at hB0 hgb hsa ⊢
      replace hgbe := hide hgbe
      go_loopw [12, 32] (fun s i wx => ∃ k : Nat, k ≤ l.length ∧ i = .int .i64 k ∧ s = .bool (bestTo l na no k).isSome ∧ Box wx gb 58 (chcV (chD (bestTo l na no k))) ∧ wa.grownBy wx (some gb)) (fun _ i _ => l.length - (intOf i).toNat)
      case atStart => exact ⟨0, Nat.zero_le _, rfl, by rw [hbest0.out]; rfl, by rw [hbest0.out]; exact hB0, World.grownBy.refl _ _⟩
      case round =>
        obtain ⟨k, hk, rfl, rfl, hB, hgx⟩ := hrel
        clear hB0
        by_cases hkt : k < l.length
        · obtain ⟨hUx, hAx, hrx⟩ := hgb.out wr hgx
          have hks : k < (seenL l.length no).length := by rw [seenL_len]; exact hkt
          have u0 := hUx.cell_bool hks
          rw [seenL_get] at u0
          have hst1 : bestTo l na no (k + 1) = if hasP no k then bestTo l na no k else (chs l k).foldl (stepC na) (bestTo l na no k) := rfl
          cases hh : hasP no k with
          | true =>
            rw [hh, if_pos rfl] at hst1
            rw [hh] at u0
            replace hst1 := hide hst1
            clear hh hks
            obtain ⟨sm, hsm⟩ : ∃ x, x = (bestTo l na no k).isSome := ⟨_, rfl⟩
            rw [← hsm]
            replace hsm := hide hsm
            go_wp2_with fail
            exact ⟨⟨k + 1, by omega, by go_num, by rw [hst1.out, hsm.out], by rw [hst1.out]; exact hB, hgx⟩, by simp [intOf]; omega⟩
          | false =>
            rw [hh, if_neg (by simp)] at hst1
            rw [hh] at u0
            replace hst1 := hide hst1
            have hlx := hlwr.pure hrx
            have hCm := hide (fun c (hc : c ∈ chs l k) => chs_mem hp.out hkt hc)
            have hCn := chs_len hp.out hkt
            have hFn := hide (fun L hL c h => fold_near hp.out na no hkt (L := L) hL (c := c) h)
            have hCh := hide (choices_any A c l k wr hlx hp.out hkt)
            clear hh hks hlx
            have hgbw : gb < wr.heap.size := hB.lt
            go_wp2_with fail
            refine hCh.out.mono ?_
            rintro e wc ⟨AC, cC, rfl, hC, hgc⟩
            have hBc := hB.pure hgc
            have hAc := hAx.pure hgc
            have hgac := gr_trans hgx (gr_any hgc)
            obtain ⟨wq, rfl⟩ : ∃ x, x = wr := ⟨wr, rfl⟩
            have hgab : ga ≠ gb := fun e => by have := hgbe.out; omega
            have hCb : ∀ g, blk AC = some g → gb < g := fun g e => by have := (hC.blk_lt e).1; omega
            obtain ⟨acc, hacc⟩ : ∃ x, x = bestTo l na no k := ⟨_, rfl⟩
            rw [← hacc] at hst1 hFn hBc ⊢
            clear hB hAx u0 hUx hCh hgc hgx hrx
            replace hacc := hide hacc
            replace hCb := hide hCb
            generalize chs l k = CC at *
            go_wp2_with fail
            go_loopw [12, 43] (fun s j wx => ∃ q : Nat, q ≤ CC.length ∧ j = .int .i64 q ∧ s = .bool ((CC.take q).foldl (stepC na) acc).isSome ∧ Box wx gb 58 (chcV (chD ((CC.take q).foldl (stepC na) acc))) ∧ wc.grownBy wx (some gb)) (fun _ j _ => CC.length - (intOf j).toNat)
            case atStart => exact ⟨0, Nat.zero_le _, rfl, rfl, hBc, World.grownBy.refl _ _⟩
            case round =>
              obtain ⟨q, hq, rfl, rfl, hB, hgx⟩ := hrel
              clear hBc
              by_cases hqt : q < CC.length
              · have hfs : Hid ((CC.take (q + 1)).foldl (stepC na) acc = stepC na ((CC.take q).foldl (stepC na) acc) CC[q]) := by rw [Hid, take_snoc hqt, List.foldl_append]; rfl
                have hfn := hide (fun c h => hFn.out (CC.take q) (fun c hc => List.mem_of_mem_take hc) c h)
                obtain ⟨m1, m2, m3, m4, m5⟩ := hCm.out _ (List.getElem_mem hqt)
                have hna := m2.nA
                rw [← m4] at hna
                have hCx := hC.ne hgx (fun g e1 e2 => by have := hCb.out g e1; injection e2; omega)
                obtain ⟨gc, oc, cx, rfl, _, _, rfl, hc⟩ := hCx.sl.at_ (by decide) hqt
                have x0 : wr.cell? ⟨gc, oc + q * 7, none⟩ = some (.int .i64 CC[q].v.path) := hc 0 _ rfl
                have x1 : wr.cell? ⟨gc, oc + q * 7 + 1, none⟩ = some (.int .i64 CC[q].v.start) := hc 1 _ rfl
                have x2 : wr.cell? ⟨gc, oc + q * 7 + 2, none⟩ = some (.bool CC[q].v.back) := hc 2 _ rfl
                have x3 : wr.cell? ⟨gc, oc + q * 7 + 3, none⟩ = some (.int .i64 CC[q].a.x) := hc 3 _ rfl
                have x4 : wr.cell? ⟨gc, oc + q * 7 + 4, none⟩ = some (.int .i64 CC[q].a.y) := hc 4 _ rfl
                have x5 : wr.cell? ⟨gc, oc + q * 7 + 5, none⟩ = some (.int .i64 CC[q].b.x) := hc 5 _ rfl
                have x6 : wr.cell? ⟨gc, oc + q * 7 + 6, none⟩ = some (.int .i64 CC[q].b.y) := hc 6 _ rfl
                clear hc m1 m2 m3 m4 m5 hCx
                generalize CC[q] = cc at *
                generalize (CC.take q).foldl (stepC na) acc = ac at *
                have hAx := hAc.gr hgx (fun e => hgab (by injection e with e; exact e.symm))
                have hgt := hB.lt
                have hgt2 := hAx.lt
                obtain ⟨wy, hwy⟩ : ∃ x, x = wr.alloc (.cells (chcV cc).toArray 58) := ⟨_, rfl⟩
                have hT : Box wy wr.heap.size 58 (chcV cc) := by rw [hwy]; exact Box.new _ _ _
                have hgy : wr.grownBy wy none := by rw [hwy]; exact gr_alloc (World.grownBy.refl _ _) _
                have hBy := hB.pure hgy
                have hAy := hAx.pure hgy
                have hgxy := gr_trans hgx (gr_any hgy)
                have hgtb : wr.heap.size ≠ gb := by omega
                replace hwy := hide hwy.symm
                clear hB hAx hgx hgy
                cases ac with
                | none =>
                  go_upto_region 18 with fail
                  rw [show wr.alloc (.cells #[.int .i64 cc.v.path, .int .i64 cc.v.start, .bool cc.v.back, .int .i64 cc.a.x, .int .i64 cc.a.y, .int .i64 cc.b.x, .int .i64 cc.b.y] 58) = wy from hwy.out]
                  clear hwy
                  generalize wr.heap.size = gt at *
                  refine wp_region_tree (fun _ => True) [2, 2, 2, 1, 2, 1, 0, 1, 2, 1, 0, 2, 2] (.bl 0 (.bl 1 (.bl 2 (.bl 3 (.bl 4 (.bl 5 (.bl 7 (.bl 8 (.bl 9 (.ef 6 (.ef 10 (.bl 11 (.bl 12 .done))))))))))))) (by kernel_rfl) (by kernel_rfl) (trivial) ?_
                  obtain ⟨wd, hwd⟩ : ∃ x, x = (wy).drew := ⟨_, rfl⟩
                  rw [← hwd]
                  have hgwd : (wy).grownBy wd none := by rw [hwd]; exact gr_drew (World.grownBy.refl _ _)
                  clear hwd
                  refine tree_p rfl rfl rfl rfl _ rfl (by simp) (fun K hK => ?_)
                  apply Exists.intro
                  refine ⟨fun wq K' hK' => ?_, ?_⟩
                  · go_wp2_with fail
                    exact hK'
                  go_simp
                  refine hK _ ?_
                  clear hK K
                  refine tree_p rfl rfl rfl rfl _ rfl (by simp) (fun K hK => ?_)
                  apply Exists.intro
                  refine ⟨fun wq K' hK' => ?_, ?_⟩
                  · go_wp2_with fail
                    exact hK'
                  go_simp
                  refine hK _ ?_
                  clear hK K
                  refine tree_p rfl rfl rfl rfl _ rfl (by simp) (fun K hK => ?_)
                  apply Exists.intro
                  refine ⟨fun wq K' hK' => ?_, ?_⟩
                  · go_wp2_with fail
                    exact hK'
                  go_simp
                  refine hK _ ?_
                  clear hK K
                  refine tree_skip rfl rfl ?_
                  try go_simp
                  refine tree_skip rfl rfl ?_
                  try go_simp
                  refine tree_skip rfl rfl ?_
                  try go_simp
                  refine tree_skip rfl rfl ?_
                  try go_simp
                  refine tree_skip rfl rfl ?_
                  try go_simp
                  refine tree_skip rfl rfl ?_
                  try go_simp
                  refine tree_eskip (fun _ => trivial) rfl rfl ?_
                  try go_simp
                  refine tree_eskip0 (by kernel_rfl) rfl rfl ?_
                  try go_simp
                  refine tree_skip rfl rfl ?_
                  try go_simp
                  refine tree_p rfl rfl rfl rfl _ rfl (by simp) (fun K hK => ?_)
                  apply Exists.intro
                  refine ⟨fun wq K' hK' => ?_, ?_⟩
                  · go_wp2_with fail
                    exact hK'
                  go_simp
                  refine hK _ ?_
                  clear hK K
                  refine tree_done ?_
                  have hBd := hBy.pure hgwd
                  have hTd := hT.pure hgwd
                  have hgd := gr_trans hgxy (gr_any hgwd)
                  have hB7 := hide (((((((hBd.set_ 0 (.int .i64 cc.v.path) (by simp [chcV])).set_ 1 (.int .i64 cc.v.start) (by simp [chcV])).set_ 2 (.bool cc.v.back) (by simp [chcV])).set_ 3 (.int .i64 cc.a.x) (by simp [chcV])).set_ 4 (.int .i64 cc.a.y) (by simp [chcV])).set_ 5 (.int .i64 cc.b.x) (by simp [chcV])).set_ 6 (.int .i64 cc.b.y) (by simp [chcV]))
                  have hg7 := hide (gr_set (gr_set (gr_set (gr_set (gr_set (gr_set (gr_set hgd (p := ⟨gb, 0, none⟩) (.inl rfl) (.int .i64 cc.v.path)) (p := ⟨gb, 1, none⟩) (.inl rfl) (.int .i64 cc.v.start)) (p := ⟨gb, 2, none⟩) (.inl rfl) (.bool cc.v.back)) (p := ⟨gb, 3, none⟩) (.inl rfl) (.int .i64 cc.a.x)) (p := ⟨gb, 4, none⟩) (.inl rfl) (.int .i64 cc.a.y)) (p := ⟨gb, 5, none⟩) (.inl rfl) (.int .i64 cc.b.x)) (p := ⟨gb, 6, none⟩) (.inl rfl) (.int .i64 cc.b.y))
                  obtain ⟨o0, u0⟩ := hBd.c 0 rfl
                  obtain ⟨o1, u1⟩ := hBd.c 1 rfl
                  obtain ⟨o2, u2⟩ := hBd.c 2 rfl
                  obtain ⟨o3, u3⟩ := hBd.c 3 rfl
                  obtain ⟨o4, u4⟩ := hBd.c 4 rfl
                  obtain ⟨o5, u5⟩ := hBd.c 5 rfl
                  obtain ⟨o6, u6⟩ := hBd.c 6 rfl
                  obtain ⟨t0, -⟩ := hTd.c 0 rfl
                  obtain ⟨t1, -⟩ := hTd.c 1 rfl
                  obtain ⟨t2, -⟩ := hTd.c 2 rfl
                  obtain ⟨t3, -⟩ := hTd.c 3 rfl
                  obtain ⟨t4, -⟩ := hTd.c 4 rfl
                  obtain ⟨t5, -⟩ := hTd.c 5 rfl
                  obtain ⟨t6, -⟩ := hTd.c 6 rfl
                  clear hBy hBd hTd hT
                  go_wp2_with fail
                  exact ⟨⟨q + 1, by omega, by go_num, by rw [hfs.out]; rfl, by rw [hfs.out]; exact hB7.out, hg7.out⟩, by simp [intOf]; omega⟩
                | some b =>
                  have hnb := hfn.out b rfl
                  have hD1 := hide fun W => distance_any na cc.a W hnr hna
                  have hD2 := hide fun W => distance_any na b.a W hnr hnb
                  have hLk : ∀ wx, wy.grownBy wx none → (wx.cell? ⟨ga, 0, none⟩ = some (.int .i64 na.x) ∧ wx.cell? ⟨ga, 1, none⟩ = some (.int .i64 na.y)) ∧ (wx.cell? ⟨wr.heap.size, 3, none⟩ = some (.int .i64 cc.a.x) ∧ wx.cell? ⟨wr.heap.size, 4, none⟩ = some (.int .i64 cc.a.y)) ∧ wx.cell? ⟨gb, 3, none⟩ = some (.int .i64 b.a.x) ∧ wx.cell? ⟨gb, 4, none⟩ = some (.int .i64 b.a.y) := fun wx h => ⟨⟨((hAy.pure h).c 0 rfl).1, ((hAy.pure h).c 1 rfl).1⟩, ⟨((hT.pure h).c 3 rfl).1, ((hT.pure h).c 4 rfl).1⟩, ((hBy.pure h).c 3 rfl).1, ((hBy.pure h).c 4 rfl).1⟩
                  replace hLk := hide hLk
                  go_upto_region 18 with fail
                  rw [show wr.alloc (.cells #[.int .i64 cc.v.path, .int .i64 cc.v.start, .bool cc.v.back, .int .i64 cc.a.x, .int .i64 cc.a.y, .int .i64 cc.b.x, .int .i64 cc.b.y] 58) = wy from hwy.out]
                  clear hwy
                  generalize wr.heap.size = gt at *
                  refine wp_region_tree (fun wx => wy.grownBy wx none) [2, 2, 2, 1, 2, 1, 0, 1, 2, 1, 0, 2, 2] (.bl 0 (.bl 1 (.bl 2 (.bl 3 (.bl 4 (.bl 5 (.bl 7 (.bl 8 (.bl 9 (.ef 6 (.ef 10 (.bl 11 (.bl 12 .done))))))))))))) (by kernel_rfl) (by kernel_rfl) (gr_drew (World.grownBy.refl _ _)) ?_
                  obtain ⟨wd, hwd⟩ : ∃ x, x = (wy).drew := ⟨_, rfl⟩
                  rw [← hwd]
                  have hgwd : (wy).grownBy wd none := by rw [hwd]; exact gr_drew (World.grownBy.refl _ _)
                  clear hwd
                  refine tree_p rfl rfl rfl rfl _ rfl (by simp) (fun K hK => ?_)
                  apply Exists.intro
                  refine ⟨fun wq K' hK' => ?_, ?_⟩
                  · go_wp2_with fail
                    exact hK'
                  go_simp
                  refine hK _ ?_
                  clear hK K
                  refine tree_p rfl rfl rfl rfl _ rfl (by simp) (fun K hK => ?_)
                  apply Exists.intro
                  refine ⟨fun wq K' hK' => ?_, ?_⟩
                  · go_wp2_with fail
                    exact hK'
                  go_simp
                  refine hK _ ?_
                  clear hK K
                  refine tree_p rfl rfl rfl rfl _ rfl (by simp) (fun K hK => ?_)
                  apply Exists.intro
                  refine ⟨fun wq K' hK' => ?_, ?_⟩
                  · go_wp2_with fail
                    exact hK'
                  go_simp
                  refine hK _ ?_
                  clear hK K
                  refine tree_b rfl rfl rfl rfl _ rfl (by simp) (fun K hK => ?_)
                  apply Exists.intro
                  refine ⟨fun wq hq K' hK' => ?_, ?_⟩
                  · obtain ⟨⟨d0, d1⟩, ⟨d2, d3⟩, d4, d5⟩ := hLk.out wq hq
                    go_wp2_with fail
                    exact hK'
                  go_simp
                  refine hK _ ?_
                  clear hK K
                  refine tree_p rfl rfl rfl rfl _ rfl (by simp) (fun K hK => ?_)
                  apply Exists.intro
                  refine ⟨fun wq K' hK' => ?_, ?_⟩
                  · go_wp2_with fail
                    exact hK'
                  go_simp
                  refine hK _ ?_
                  clear hK K
                  refine tree_b rfl rfl rfl rfl _ rfl (by simp) (fun K hK => ?_)
                  apply Exists.intro
                  refine ⟨fun wq hq K' hK' => ?_, ?_⟩
                  · obtain ⟨⟨d0, d1⟩, ⟨d2, d3⟩, d4, d5⟩ := hLk.out wq hq
                    go_wp2_with fail
                    exact hK'
                  go_simp
                  refine hK _ ?_
                  clear hK K
                  refine tree_b rfl rfl rfl rfl _ rfl (by simp) (fun K hK => ?_)
                  apply Exists.intro
                  refine ⟨fun wq hq K' hK' => ?_, ?_⟩
                  · obtain ⟨⟨d0, d1⟩, ⟨d2, d3⟩, d4, d5⟩ := hLk.out wq hq
                    go_wp2_with fail
                    exact hK'
                  go_simp
                  refine hK _ ?_
                  clear hK K
                  refine tree_p rfl rfl rfl rfl _ rfl (by simp) (fun K hK => ?_)
                  apply Exists.intro
                  refine ⟨fun wq K' hK' => ?_, ?_⟩
                  · go_wp2_with fail
                    exact hK'
                  go_simp
                  refine hK _ ?_
                  clear hK K
                  refine tree_b rfl rfl rfl rfl _ rfl (by simp) (fun K hK => ?_)
                  apply Exists.intro
                  refine ⟨fun wq hq K' hK' => ?_, ?_⟩
                  · obtain ⟨⟨d0, d1⟩, ⟨d2, d3⟩, d4, d5⟩ := hLk.out wq hq
                    go_wp2_with fail
                    exact hK'
                  go_simp
                  refine hK _ ?_
                  clear hK K
                  refine tree_e rfl rfl (fun K hK => ?_)
                  go_wp2_with fail
                  refine (hD1.out _).mono ?_
                  rintro e w6 ⟨rfl, hg6⟩
                  go_wp2_with fail
                  try go_simp
                  refine hK _ _ (gr_trans hgwd hg6) ?_
                  clear hK K
                  refine tree_e0 (by kernel_rfl) rfl rfl (fun K hK => ?_)
                  go_wp2_with fail
                  refine (hD2.out _).mono ?_
                  rintro e w10 ⟨rfl, hg10⟩
                  go_wp2_with fail
                  try go_simp
                  refine hK _ _ trivial ?_
                  clear hK K
                  refine tree_p rfl rfl rfl rfl _ rfl (by simp) (fun K hK => ?_)
                  apply Exists.intro
                  refine ⟨fun wq K' hK' => ?_, ?_⟩
                  · go_wp2_with fail
                    exact hK'
                  go_simp
                  refine hK _ ?_
                  clear hK K
                  refine tree_p rfl rfl rfl rfl _ rfl (by simp) (fun K hK => ?_)
                  apply Exists.intro
                  refine ⟨fun wq K' hK' => ?_, ?_⟩
                  · go_wp2_with fail
                    exact hK'
                  go_simp
                  refine hK _ ?_
                  clear hK K
                  refine tree_done ?_
                  have hq10 := gr_trans hgwd (gr_trans hg6 hg10)
                  have hBd := hBy.pure hq10
                  have hTd := hT.pure hq10
                  have hgd := gr_trans hgxy (gr_any hq10)
                  clear hBy hT hgwd hg6 hg10 hq10 hLk
                  by_cases hd : distP na cc.a < distP na b.a
                  · have hfs2 : Hid ((CC.take (q + 1)).foldl (stepC na) acc = some cc) := by rw [Hid, hfs.out]; unfold stepC; simp only; rw [if_pos hd]
                    have hB7 := hide (((((((hBd.set_ 0 (.int .i64 cc.v.path) (by simp [chcV])).set_ 1 (.int .i64 cc.v.start) (by simp [chcV])).set_ 2 (.bool cc.v.back) (by simp [chcV])).set_ 3 (.int .i64 cc.a.x) (by simp [chcV])).set_ 4 (.int .i64 cc.a.y) (by simp [chcV])).set_ 5 (.int .i64 cc.b.x) (by simp [chcV])).set_ 6 (.int .i64 cc.b.y) (by simp [chcV]))
                    have hg7 := hide (gr_set (gr_set (gr_set (gr_set (gr_set (gr_set (gr_set hgd (p := ⟨gb, 0, none⟩) (.inl rfl) (.int .i64 cc.v.path)) (p := ⟨gb, 1, none⟩) (.inl rfl) (.int .i64 cc.v.start)) (p := ⟨gb, 2, none⟩) (.inl rfl) (.bool cc.v.back)) (p := ⟨gb, 3, none⟩) (.inl rfl) (.int .i64 cc.a.x)) (p := ⟨gb, 4, none⟩) (.inl rfl) (.int .i64 cc.a.y)) (p := ⟨gb, 5, none⟩) (.inl rfl) (.int .i64 cc.b.x)) (p := ⟨gb, 6, none⟩) (.inl rfl) (.int .i64 cc.b.y))
                    obtain ⟨o0, u0⟩ := hBd.c 0 rfl
                    obtain ⟨o1, u1⟩ := hBd.c 1 rfl
                    obtain ⟨o2, u2⟩ := hBd.c 2 rfl
                    obtain ⟨o3, u3⟩ := hBd.c 3 rfl
                    obtain ⟨o4, u4⟩ := hBd.c 4 rfl
                    obtain ⟨o5, u5⟩ := hBd.c 5 rfl
                    obtain ⟨o6, u6⟩ := hBd.c 6 rfl
                    obtain ⟨t0, -⟩ := hTd.c 0 rfl
                    obtain ⟨t1, -⟩ := hTd.c 1 rfl
                    obtain ⟨t2, -⟩ := hTd.c 2 rfl
                    obtain ⟨t3, -⟩ := hTd.c 3 rfl
                    obtain ⟨t4, -⟩ := hTd.c 4 rfl
                    obtain ⟨t5, -⟩ := hTd.c 5 rfl
                    obtain ⟨t6, -⟩ := hTd.c 6 rfl
                    clear hBd hTd
                    go_wp2_with fail
                    exact ⟨⟨q + 1, by omega, by go_num, by rw [hfs2.out]; rfl, by rw [hfs2.out]; exact hB7.out, hg7.out⟩, by simp [intOf]; omega⟩
                  · have hfs2 : Hid ((CC.take (q + 1)).foldl (stepC na) acc = some b) := by rw [Hid, hfs.out]; unfold stepC; simp only; rw [if_neg hd]
                    go_wp2_with fail
                    exact ⟨⟨q + 1, by omega, by go_num, by rw [hfs2.out]; rfl, by rw [hfs2.out]; exact hBd, hgd⟩, by simp [intOf]; omega⟩
              · have hqn : q = CC.length := by omega
                subst hqn
                rw [List.take_length, ← hst1.out] at hB
                rw [List.take_length, ← hst1.out]
                have hgo := gr_trans hgac hgx
                obtain ⟨sm, hsm⟩ : ∃ x, x = (bestTo l na no (k + 1)).isSome := ⟨_, rfl⟩
                rw [← hsm]
                replace hsm := hide hsm
                go_wp2_with fail
                exact ⟨⟨k + 1, by omega, by go_num, by rw [hsm.out], hB, hgo⟩, by simp [intOf]; omega⟩
        · have hkn : k = l.length := by omega
          subst hkn
          obtain ⟨hUx, hAx, hrx⟩ := hgb.out wr hgx
          have hOx := hOa.ne hgx (fun g e1 e2 => by have := (hO.blk_lt e1).2; have := hgbe.out; injection e2; omega)
          rw [hb1.out] at hB ⊢
          obtain ⟨⟨bp, bs, bb⟩, ba, bt⟩ := bc
          have hbp : bp = (bi : Int) := hb4.out
          subst hbp
          replace hB : Box wr gb 58 [.int .i64 bi, .int .i64 bs, .bool bb, .int .i64 ba.x, .int .i64 ba.y, .int .i64 bt.x, .int .i64 bt.y] := hB
          have hbis : bi < (seenL l.length no).length := by rw [seenL_len]; exact hb3
          have hUs := hUx.set_bool hbis true
          rw [← seenL_snoc (v := ⟨(bi : Int), bs, bb⟩) rfl] at hUs
          have u0 := hUx.cell_bool hbis
          have f0 := hUx.frozen bi
          have hs1 := gr_set (World.grownBy.refl wr (some gu)) (p := ⟨gu, bi, none⟩) (.inl rfl) (.bool true)
          have hgab : ga ≠ gb := fun e => by have := hgbe.out; omega
          have hgub : gu ≠ gb := fun e => by have := hgbe.out; omega
          have hgua : gu ≠ ga := by omega
          have hBs := hB.gr hs1 (fun e => hgub (by injection e))
          have hAs := hAx.gr hs1 (fun e => hgua (by injection e))
          have hOs := hOx.keep hs1 (fun g e => by injection e; omega)
          have hT0 := hrx.k hS0
          have hT1 := hrx.k hS1
          have hgT := gr_trans hgr hrx
          have hszx := hrx.size
          obtain ⟨q0, -⟩ := hB.c 0 rfl
          have hR0 := gr_cell hs1 hT0 (by simp; omega)
          have hR1 := gr_cell hs1 hT1 (by simp; omega)
          have hgS : w.grownBy (wr.setCell ⟨gu, bi, none⟩ (.bool true)) none := gr_set hgT (.inr (show w.heap.size ≤ gu by omega)) (.bool true)
          have hzS := hs1.size
          have hOl2 : Hid ((no ++ [(⟨(bi : Int), bs, bb⟩ : Vis)]).length = m + 1) := by rw [Hid, List.length_append, hOl.out]; rfl
          go_upto_region 23 with fail
          clear u0 f0 hs1 hT0 hT1 hgT hUx hAx hrx hOx hB q0
          generalize wr.setCell ⟨gu, bi, none⟩ (.bool true) = W1 at *
          obtain ⟨q0, -⟩ := hBs.c 0 rfl
          obtain ⟨q1, -⟩ := hBs.c 1 rfl
          obtain ⟨q2, -⟩ := hBs.c 2 rfl
          go_wp2_with (at_builtin; obtain ⟨i0, hi, hz, h1, h2⟩ := info_parts info_vis; refine wpList_pushAt (α := Vis) _ rfl (.tmp 68) (.tmp 71) _ rfl w3.heap.size 43 i0 _ 24 Tryz.underlying32 hi hz h1 h2 rfl A9 _ c9 no rfl hOl.out.symm (by exact hOs.pure (by repeat (first | exact World.grownBy.refl _ _ | assumption | refine gr_alloc ?_ _ | (apply gr_tail; assumption) | refine gr_drewN ?_ _ | refine gr_drew ?_))) 0 ⟨_, 0, none⟩ 1 1 [⟨bi, bs, bb⟩] rfl rfl (by exact sl_oneAt _ 0 [.int .i64 bi, .int .i64 bs, .bool bb] _ _ _ (by first | rfl | simp) (Nat.zero_le _) rfl) ?c2 ?c3 ?c4 ?_)
          case c2 => rw [hOl.out]; first | omega | (simp; omega)
          case c3 => rw [hOl.out]; simp [maxLen]; omega
          case c4 => omega
          intro A5 c5 w9 hO9 hG9
          have hal := gr_alloc (World.grownBy.refl W1 none) (.cells #[.int .i64 bi, .int .i64 bs, .bool bb] 43)
          have hbl : ∀ g, blk A9 = some g → w3.heap.size ≤ g := fun g e => (hOs.blk_lt e).1
          have hU9 := (hUs.pure hal).ne hG9.1 (fun g e1 e2 => by have := hbl g e2; simp [blk] at e1; omega)
          have hA9 := (hAs.pure hal).gr hG9.1 (fun e => by have := hbl ga e; omega)
          have hB9 := (hBs.pure hal).gr hG9.1 (fun e => by have hq := e; exact (hBs.ne_own hOs (by decide)) hq)
          have hR0 := gr_cell hG9.1 (hal.k hR0) (fun e => by have := hbl w.heap.size e; omega)
          have hR1 := gr_cell hG9.1 (hal.k hR1) (fun e => by have := hbl w.heap.size e; omega)
          have hg9 := gr_row (gr_trans hgS hal) hG9.1 (fun g e => by have := hbl g e; omega)
          have hsz9 := Nat.le_trans hal.size hG9.1.size
          clear q0 q1 q2 hG9 hAs hBs hUs hOs hal
          obtain ⟨q5, -⟩ := hB9.c 5 rfl
          obtain ⟨q6, -⟩ := hB9.c 6 rfl
          obtain ⟨o0, z0⟩ := hA9.c 0 rfl
          obtain ⟨o1, z1⟩ := hA9.c 1 rfl
          have hA10 := hA9.set_ 0 (.int .i64 bt.x) (by simp)
          have hU10 := hU9.set_other (i := 0) (.int .i64 bt.x) (hA9.ne_own hU9 (by decide))
          have hO10 := hO9.set_other (i := 0) (.int .i64 bt.x) (hA9.ne_own hO9 (by decide))
          have hA11 := hA10.set_ 1 (.int .i64 bt.y) (by simp)
          have hU11 := hide (hU10.set_other (i := 1) (.int .i64 bt.y) (hA10.ne_own hU10 (by decide)))
          have hO11 := hide (hO10.set_other (i := 1) (.int .i64 bt.y) (hA10.ne_own hO10 (by decide)))
          have hga9 := gr_set (gr_set (World.grownBy.refl w9 (some ga)) (p := ⟨ga, 0, none⟩) (.inl rfl) (.int .i64 bt.x)) (p := ⟨ga, 1, none⟩) (.inl rfl) (.int .i64 bt.y)
          have hS011 := hide (gr_cell hga9 hR0 (by simp; omega))
          have hS111 := hide (gr_cell hga9 hR1 (by simp; omega))
          have hg11 := hide (gr_set (gr_set hg9 (p := ⟨ga, 0, none⟩) (.inr (show w.heap.size ≤ ga by omega)) (.int .i64 bt.x)) (p := ⟨ga, 1, none⟩) (.inr (show w.heap.size ≤ ga by omega)) (.int .i64 bt.y))
          have hsz11 := hide (Nat.le_trans hsz (Nat.le_trans hszx (Nat.le_trans hzS (Nat.le_trans hsz9 hga9.size))))
          replace hA11 := hide hA11
          clear hA10 hU10 hO10 hga9 hR0 hR1 hg9 hU9 hO9
          rw [hOl.out]
          go_wp2_with fail
          refine ⟨⟨m + 1, A5, c5, by omega, by go_num, by go_num, ?_, ?_, ?_, hsz11.out, hS011.out, hS111.out, hg11.out⟩, by simp [intOf]; omega⟩
          · rw [hN.out, hb2.out]; exact hO11.out
          · rw [hN.out, hb2.out]; exact hU11.out
          · rw [hN.out, hb2.out]; exact hA11.out
    · have hmn : m = l.length := by omega
      subst hmn
      have hTr := hide fun B d w' hl' ho => travel_any A c l B d (nearK l st l.length).1 st w' hl' ho hst (near_vis hp.out st (Nat.le_refl _)) (by rw [(near_ok hp.out st _ (Nat.le_refl _)).1]; omega)
      have hOl := hide (near_ok hp.out st _ (Nat.le_refl _)).1
      have hgT := hgr
      have hlw := hl.pure hgr
      have hOs := hO.sl.mono (Nat.zero_le _)
      have hOw := hO.lower (show w.heap.size ≤ w3.heap.size from hgW.size)
      clear hU hA hO
      generalize hno : (nearK l st l.length).1 = no at *
      replace hno := hide hno
      have hTr2 := hide (hTr.out A9 c9 wr hlw hOs)
      rw [hOl.out] at hTr2
      clear hTr hlw hOs
      generalize htv : (travS l st no).2 = tv at *
      replace htv := hide htv
      go_wp2_with fail
      refine hTr2.out.mono ?_
      rintro e w9 ⟨rfl, h9⟩
      go_wp2_with fail
      refine bodyPost_ret (v := .tuple #[.slice A9 l.length c9, .int .i64 tv, .int .i64 0]) (by simp [results, Tryz.results8, go_sem]) rfl ⟨A9, c9, ?_, ?_, gr_trans hgT h9⟩
      · rw [hno.out, hOl.out, htv.out]
      · rw [hno.out]; exact hOw.pure h9

end Go.Proofs.YtgcfaamgilbjdaaGreatDoor

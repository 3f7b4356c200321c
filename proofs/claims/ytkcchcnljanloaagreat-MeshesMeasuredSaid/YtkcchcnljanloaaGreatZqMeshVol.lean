/- Contracts of functions that this seat's laws reach, each: what one call returns and what it leaves in memory; no condition beyond each theorem's own hypotheses. -/
import Derived.Test.YtkcchcnljanloaaGreatZqMeshOp
import Derived.Test.YtkcchcnljanloaaGreatZqShellSub
set_option linter.unusedVariables false
set_option linter.unusedSimpArgs false
namespace Go.Proofs.YtkcchcnljanloaaGreat
open Go.RowKit Go.Bl

theorem partV_bd {vs : List V3} (h : vs.any farV = false) (f : Fc) : -6000000000000000 ≤ partV vs f ∧ partV vs f ≤ 6000000000000000 := by
  obtain ⟨a1, a2, a3⟩ := atV_bd h f.a
  obtain ⟨b1, b2, b3⟩ := (atV_bd h f.b).cross (atV_bd h f.c)
  unfold partV dotV
  have h1 := mul_bd4 a1 b1
  have h2 := mul_bd4 a2 b2
  have h3 := mul_bd4 a3 b3
  omega

theorem volS_snoc (vs : List V3) {fs : List Fc} {k : Nat} (h : k < fs.length) : volS vs (fs.take (k + 1)) = volS vs (fs.take k) + partV vs fs[k] := by
  unfold volS
  rw [take_snoc h, List.map_append, List.sum_append]; simp

theorem volS_bd {vs : List V3} (h : vs.any farV = false) : ∀ fs : List Fc, -(6000000000000000 * fs.length) ≤ volS vs fs ∧ volS vs fs ≤ 6000000000000000 * fs.length
  | [] => by simp [volS]
  | f :: r => by
    have h1 := volS_bd h r
    have h2 := partV_bd h f
    have e : volS vs (f :: r) = partV vs f + volS vs r := by simp [volS]
    rw [e, List.length_cons]
    omega

def closE (fs : List Fc) : Int := if openS fs = [] then 0 else 11

def volR (vs : List V3) (fs : List Fc) : Int := if openS fs = [] then volS vs fs else 0

set_option maxHeartbeats 1000000 in
theorem closedFault_any (A : Option Addr) (c : Nat) (vs : List V3) (B : Option Addr) (d : Nat) (fs : List Fc) (w : World) (hl : Sl w 0 A vs) (hfs : Sl w 0 B fs) (hM : meshF ⟨vs, fs⟩ = 0) :
    Calls Tryz.prog 42 #[.agg #[.slice A vs.length c, .slice B fs.length d]] w fun e w' => e = .returned (.int .i64 (closE fs)) ∧ w.grownBy w' none := by
  have hok := meshOk.1 hM
  have hCM := fun W h1 h2 => checkMesh_any A c vs B d fs W h1 h2
  rw [hM] at hCM
  have hOp := fun W h1 => open_any A vs.length c B d fs W h1 hok.fl (fun s hs => by
    obtain ⟨f, hf, hs⟩ := List.mem_flatMap.1 hs
    exact sd_cell hok.vl (faceF_in (hok.face f hf)) s hs) hok.once
  have hcE : Hid (closE fs = if openS fs = [] then 0 else 11) := rfl
  generalize closE fs = E at *
  clear hok hM
  have hg0 := gr_alloc (World.grownBy.refl w none) (.cells #[.slice A vs.length c, .slice B fs.length d] 29)
  go_enter Tryz.func42, Tryz.ntmps42
  go_wp2_with fail
  refine (hCM _ (hl.pure hg0) (hfs.pure hg0)).mono ?_
  rintro e w1 ⟨rfl, h1⟩
  have n0 := (h1).k (p := ⟨w.heap.size, 0, none⟩) (v := .slice A vs.length c) (by go_simp)
  have n1 := (h1).k (p := ⟨w.heap.size, 1, none⟩) (v := .slice B fs.length d) (by go_simp)
  replace h1 := gr_trans hg0 h1
  go_wp2_with fail
  refine (hOp _ (hfs.pure h1)).mono ?_
  rintro e w2 ⟨l, O, co, rfl, -, h3, -, h5⟩
  replace h3 := h3.length_eq
  clear hOp hCM
  by_cases hz : openS fs = []
  · have hE := hcE.out
    rw [if_pos hz] at hE
    have hz0 : l.length = 0 := by rw [h3, hz]; rfl
    clear h3 hz hcE
    replace hE := hide hE
    go_wp2_with fail
    go_ret
    exact ⟨ret_int hE.out.symm, gr_trans h1 h5⟩
  · have hE := hcE.out
    rw [if_neg hz] at hE
    have hz0 : 0 < l.length := by rw [h3]; exact List.length_pos_iff.2 hz
    clear h3 hz hcE
    replace hE := hide hE
    generalize l.length = ln at *
    go_wp2_with fail
    go_ret
    exact ⟨ret_int hE.out.symm, gr_trans h1 h5⟩

set_option maxHeartbeats 2000000 in
set_option maxRecDepth 100000 in
theorem meshVolume_any (A : Option Addr) (c : Nat) (vs : List V3) (B : Option Addr) (d : Nat) (fs : List Fc) (w : World) (hl : Sl w 0 A vs) (hfs : Sl w 0 B fs) (hM : meshF ⟨vs, fs⟩ = 0) :
    Calls Tryz.prog 11 #[.agg #[.slice A vs.length c, .slice B fs.length d]] w fun e w' => e = .returned (.tuple #[.int .i64 (volR vs fs), .int .i64 (closE fs)]) ∧ w.grownBy w' none := by
  have hg0 := gr_alloc (World.grownBy.refl w none) (.cells #[.slice A vs.length c, .slice B fs.length d] 29)
  have b0 := Cell.new w [.slice A vs.length c, .slice B fs.length d] 29 0 _ rfl _ rfl
  have b1 := Cell.new w [.slice A vs.length c, .slice B fs.length d] 29 1 _ rfl _ rfl
  have hok := meshOk.1 hM
  have hm2 := hok.fl
  have hCF := closedFault_any A c vs B d fs _ (hl.pure hg0) (hfs.pure hg0) hM
  by_cases hz : openS fs = []
  · rw [show volR vs fs = volS vs fs by unfold volR; rw [if_pos hz]]
    rw [show closE fs = 0 by unfold closE; rw [if_pos hz]] at hCF ⊢
    replace hCF := hide hCF
    clear hz
    replace hok := hide hok
    go_enter Tryz.func11, Tryz.ntmps11
    go_wp2_with fail
    refine hCF.out.mono ?_
    rintro e w1 ⟨rfl, hg1⟩
    have b0 := (b0.gr hg1 (by simp)).1
    have b1 := (b1.gr hg1 (by simp)).1
    have hg2 := gr_trans hg0 hg1
    clear hg0 hg1 hCF
    go_wp2_with fail
    have hW := World.grownBy.refl w1 none
    go_loopw [5, 16] (fun o i wr => ∃ k : Nat, k ≤ fs.length ∧ i = .int .i64 k ∧ o = .int .i64 (volS vs (fs.take k)) ∧ w.grownBy wr none ∧ w1.grownBy wr none) (fun _ i _ => fs.length - (intOf i).toNat)
    case atStart => exact ⟨0, by omega, rfl, rfl, hg2, hW⟩
    case round =>
      obtain ⟨k, hk, rfl, rfl, hg, hgW⟩ := hrel
      by_cases hlt : k < fs.length
      · have hv1 := hide (volS_snoc vs hlt)
        have hv2 := volS_bd hok.out.near (fs.take k)
        rw [List.length_take, Nat.min_eq_left hk] at hv2
        have hv3 := partV_bd hok.out.near fs[k]
        have hPt := fun W h => part_any A c vs B fs.length d fs[k] W h hok.out.near (faceF_in (hok.out.face _ (List.getElem_mem hlt)))
        have d0 := hgW.k b0
        have d1 := hgW.k b1
        have hlt0 : w.heap.size < wr.heap.size := cell_lt d0
        replace hPt := hPt _ ((hl.pure hg).pure (gr_alloc (World.grownBy.refl _ none) (.cells #[.int .i64 fs[k].a, .int .i64 fs[k].b, .int .i64 fs[k].c] 58)))
        obtain ⟨g, o, cx, rfl, hb0, hb1, rfl, hc⟩ := (hfs.pure hg).at_ (by decide) hlt
        have v0 : wr.cell? ⟨g, o + k * 3, none⟩ = some (.int .i64 fs[k].a) := hc 0 _ rfl
        have v1 : wr.cell? ⟨g, o + k * 3 + 1, none⟩ = some (.int .i64 fs[k].b) := hc 1 _ rfl
        have v2 : wr.cell? ⟨g, o + k * 3 + 2, none⟩ = some (.int .i64 fs[k].c) := hc 2 _ rfl
        clear hc
        generalize fs[k] = f at *
        generalize partV vs f = X at *
        generalize volS vs (fs.take k) = V at *
        replace hPt := hide hPt
        have hb : -9223372036854775808 ≤ V + X ∧ V + X ≤ 9223372036854775807 := by omega
        clear hv2 hv3
        go_wp2_with fail
        refine hPt.out.mono ?_
        rintro e w' ⟨rfl, hg'⟩
        clear hPt
        go_wp2_with fail
        (go_roundw; (case rel => exact ⟨k + 1, by omega, by go_num, by rw [hv1.out], (by repeat (first | exact World.grownBy.refl _ _ | assumption | refine gr_alloc ?_ _ | (apply gr_tail; assumption) | refine gr_drewN ?_ _ | refine gr_drew ?_)), (by repeat (first | exact World.grownBy.refl _ _ | assumption | refine gr_alloc ?_ _ | (apply gr_tail; assumption) | refine gr_drewN ?_ _ | refine gr_drew ?_))⟩); (case measure => simp [intOf]; omega))
      · rw [List.take_of_length_le (show fs.length ≤ k by omega)]
        go_wp2
        exact bodyPost_ret (v := .tuple #[.int .i64 (volS vs fs), .int .i64 0]) (by simp [results, Tryz.results11, go_sem]) rfl ⟨rfl, hg⟩
  · rw [show volR vs fs = 0 by unfold volR; rw [if_neg hz]]
    rw [show closE fs = 11 by unfold closE; rw [if_neg hz]] at hCF ⊢
    replace hCF := hide hCF
    clear hz hok
    go_enter Tryz.func11, Tryz.ntmps11
    go_wp2_with fail
    refine hCF.out.mono ?_
    rintro e w1 ⟨rfl, hg1⟩
    go_wp2_with fail
    exact bodyPost_ret (v := .tuple #[.int .i64 0, .int .i64 11]) (by simp [results, Tryz.results11, go_sem]) rfl ⟨rfl, gr_trans hg0 hg1⟩

end Go.Proofs.YtkcchcnljanloaaGreat

/- Contracts of functions that this seat's laws reach, each: what one call returns and what it leaves in memory; no condition beyond each theorem's own hypotheses. -/
import Derived.Test.YtkcchcnljanloaaGreatZqMeasC
import Derived.Test.YtkcchcnljanloaaGreatZqShellB
set_option linter.unusedVariables false
set_option linter.unusedSimpArgs false
namespace Go.Proofs.YtkcchcnljanloaaGreat
open Go Go.RowKit Go.Bl

set_option maxHeartbeats 2000000 in
theorem volumeOf_mesh (A : Option Addr) (c : Nat) (vs : List V3) (B : Option Addr) (d : Nat) (fs : List Fc) (w : World) (hl : Sl w 0 A vs) (hfs : Sl w 0 B fs) (hM : meshF ⟨vs, fs⟩ = 0) (hcl : ClosedS fs) :
    Calls Tryz.prog 20 #[.agg #[.slice A vs.length c, .slice B fs.length d]] w fun e w' => e = .returned (.int .i64 (volS vs fs)) ∧ w.grownBy w' none := by
  have hg0 := gr_alloc (World.grownBy.refl w none) (.cells #[.slice A vs.length c, .slice B fs.length d] 29)
  have b0 := (Cell.new w [.slice A vs.length c, .slice B fs.length d] 29 0 _ rfl _ rfl).1
  have b1 := (Cell.new w [.slice A vs.length c, .slice B fs.length d] 29 1 _ rfl _ rfl).1
  have hVo := hide (volumesOf_any A c vs B d fs _ (hl.pure hg0) (hfs.pure hg0) hM hcl)
  have hbd := hide (vols_bdV (meshOk.1 hM).near fs)
  have hsum := hide (volsS_sum vs fs)
  have hfl := (meshOk.1 hM).fl
  clear hM hcl
  generalize volsS vs fs = VL at *
  generalize volS vs fs = N at *
  go_enter Tryz.func20, Tryz.ntmps20
  go_wp2_with fail
  refine hVo.out.mono ?_
  rintro e w1 ⟨O, co, rfl, hO, hg1⟩
  have hmV := hO.1
  unfold maxLen at hmV
  have hgw := gr_trans hg0 hg1
  clear hVo b0 b1
  go_wp2_with fail
  go_loopw [3, 9] (fun o i wr => ∃ k : Nat, k ≤ VL.length ∧ i = .int .i64 k ∧ o = .int .i64 (VL.take k).sum ∧ wr = w1) (fun _ i _ => VL.length - (intOf i).toNat)
  case atStart => exact ⟨0, Nat.zero_le _, rfl, rfl, rfl⟩
  case round =>
    obtain ⟨k, hk, rfl, rfl, rfl⟩ := hrel
    by_cases hlt : k < VL.length
    · obtain ⟨g, o, c1, rfl, hb0, hb1, hcr, hc⟩ := hO.sl.at_ (by decide) hlt
      have hcr : c1 = [.int .i64 VL[k]] := hcr
      subst hcr
      have v0 := hc 0 _ rfl
      rw [show Enc.sz Int = 1 from rfl, Nat.mul_one, Nat.add_zero] at v0
      clear hc
      have hs := hide (sum_takeV hlt)
      have h1 := hbd.out k
      have h2 := hbd.out (k + 1)
      rw [hs.out] at h2
      generalize VL[k] = X at *
      generalize (VL.take k).sum = Y at *
      have hb : -9223372036854775808 ≤ Y + X ∧ Y + X ≤ 9223372036854775807 := by omega
      clear h1 h2
      go_wp2_with fail
      (go_roundw; (case rel => exact ⟨k + 1, by omega, by go_num, by rw [hs.out], by first | trivial | rfl⟩); (case measure => simp [intOf]; omega))
    · have hke : VL.take k = VL := List.take_of_length_le (by omega)
      rw [hke, hsum.out]
      go_wp2_with fail
      go_ret
      exact ⟨rfl, hgw⟩

set_option maxHeartbeats 1000000 in
theorem shellsBad_any (A : Option Addr) (c : Nat) (vs : List V3) (B : Option Addr) (d : Nat) (fs : List Fc) (w : World) (hl : Sl w 0 A vs) (hfs : Sl w 0 B fs) (hM : meshF ⟨vs, fs⟩ ≠ 0) :
    Calls Tryz.prog 9 #[.agg #[.slice A vs.length c, .slice B fs.length d]] w fun e w' => e = .returned (.tuple #[.slice none 0 0, .int .i64 (meshF ⟨vs, fs⟩)]) ∧ w.grownBy w' none := by
  have hg0 := gr_alloc (World.grownBy.refl w none) (.cells #[.slice A vs.length c, .slice B fs.length d] 29)
  have hCM := checkMesh_any A c vs B d fs _ (hl.pure hg0) (hfs.pure hg0)
  generalize meshF ⟨vs, fs⟩ = F at *
  have hb : (F != 0) = true := by simpa using hM
  replace hCM := hide hCM
  go_enter Tryz.func9, Tryz.ntmps9
  go_wp2_with fail
  refine hCM.out.mono ?_
  rintro e w1 ⟨rfl, hg1⟩
  clear hCM
  go_wp2_with fail
  exact bodyPost_ret (v := .tuple #[.slice none 0 0, .int .i64 F]) (by simp [results, Tryz.results9, go_sem]) rfl ⟨rfl, gr_trans hg0 hg1⟩

set_option maxHeartbeats 1000000 in
theorem closedFaultBad_any (A : Option Addr) (c : Nat) (vs : List V3) (B : Option Addr) (d : Nat) (fs : List Fc) (w : World) (hl : Sl w 0 A vs) (hfs : Sl w 0 B fs) (hM : meshF ⟨vs, fs⟩ ≠ 0) :
    Calls Tryz.prog 42 #[.agg #[.slice A vs.length c, .slice B fs.length d]] w fun e w' => e = .returned (.int .i64 (meshF ⟨vs, fs⟩)) ∧ w.grownBy w' none := by
  have hg0 := gr_alloc (World.grownBy.refl w none) (.cells #[.slice A vs.length c, .slice B fs.length d] 29)
  have hCM := checkMesh_any A c vs B d fs _ (hl.pure hg0) (hfs.pure hg0)
  generalize meshF ⟨vs, fs⟩ = F at *
  have hb : (F != 0) = true := by simpa using hM
  replace hCM := hide hCM
  go_enter Tryz.func42, Tryz.ntmps42
  go_wp2_with fail
  refine hCM.out.mono ?_
  rintro e w1 ⟨rfl, hg1⟩
  clear hCM
  go_wp2_with fail
  go_ret
  exact ⟨rfl, gr_trans hg0 hg1⟩

set_option maxHeartbeats 1000000 in
theorem volumeBad_any (A : Option Addr) (c : Nat) (vs : List V3) (B : Option Addr) (d : Nat) (fs : List Fc) (w : World) (hl : Sl w 0 A vs) (hfs : Sl w 0 B fs) (hM : meshF ⟨vs, fs⟩ ≠ 0) :
    Calls Tryz.prog 11 #[.agg #[.slice A vs.length c, .slice B fs.length d]] w fun e w' => e = .returned (.tuple #[.int .i64 0, .int .i64 (meshF ⟨vs, fs⟩)]) ∧ w.grownBy w' none := by
  have hg0 := gr_alloc (World.grownBy.refl w none) (.cells #[.slice A vs.length c, .slice B fs.length d] 29)
  have hCM := closedFaultBad_any A c vs B d fs _ (hl.pure hg0) (hfs.pure hg0) hM
  generalize meshF ⟨vs, fs⟩ = F at *
  have hb : (F != 0) = true := by simpa using hM
  replace hCM := hide hCM
  go_enter Tryz.func11, Tryz.ntmps11
  go_wp2_with fail
  refine hCM.out.mono ?_
  rintro e w1 ⟨rfl, hg1⟩
  clear hCM
  go_wp2_with fail
  exact bodyPost_ret (v := .tuple #[.int .i64 0, .int .i64 F]) (by simp [results, Tryz.results11, go_sem]) rfl ⟨rfl, gr_trans hg0 hg1⟩

set_option maxHeartbeats 1000000 in
theorem volumesBad_any (A : Option Addr) (c : Nat) (vs : List V3) (B : Option Addr) (d : Nat) (fs : List Fc) (w : World) (hl : Sl w 0 A vs) (hfs : Sl w 0 B fs) (hM : meshF ⟨vs, fs⟩ ≠ 0) :
    Calls Tryz.prog 12 #[.agg #[.slice A vs.length c, .slice B fs.length d]] w fun e w' => e = .returned (.tuple #[.slice none 0 0, .int .i64 (meshF ⟨vs, fs⟩)]) ∧ w.grownBy w' none := by
  have hg0 := gr_alloc (World.grownBy.refl w none) (.cells #[.slice A vs.length c, .slice B fs.length d] 29)
  have hCM := closedFaultBad_any A c vs B d fs _ (hl.pure hg0) (hfs.pure hg0) hM
  generalize meshF ⟨vs, fs⟩ = F at *
  have hb : (F != 0) = true := by simpa using hM
  replace hCM := hide hCM
  go_enter Tryz.func12, Tryz.ntmps12
  go_wp2_with fail
  refine hCM.out.mono ?_
  rintro e w1 ⟨rfl, hg1⟩
  clear hCM
  go_wp2_with fail
  exact bodyPost_ret (v := .tuple #[.slice none 0 0, .int .i64 F]) (by simp [results, Tryz.results12, go_sem]) rfl ⟨rfl, gr_trans hg0 hg1⟩

end Go.Proofs.YtkcchcnljanloaaGreat

/- Contracts of functions that this seat's laws reach, each: what one call returns and what it leaves in memory; no condition beyond each theorem's own hypotheses. -/
import Derived.Test.YtbpkkgeedkegcaaGreatDoorZqMeshTC
import Derived.Test.YtbpkkgeedkegcaaGreatDoorZqMapInt
import Derived.Test.YtbpkkgeedkegcaaGreatDoorZqSlices
import Derived.Test.YtbpkkgeedkegcaaGreatDoorZqMeshTB
set_option linter.unusedVariables false
set_option linter.unusedSimpArgs false
namespace Go.Proofs.YtbpkkgeedkegcaaGreatDoor
open Go.RowKit Go.Bl

/-- the new numbers behind k rounds, as a map -/
def atK (vs : List V3) (U : List Bool) (k : Nat) : Int → Option Int := fun z => if 0 ≤ z ∧ z < k ∧ U.getD z.toNat false = true then some (rkI vs U z.toNat) else none

end Go.Proofs.YtbpkkgeedkegcaaGreatDoor

namespace Go.Proofs.YtbpkkgeedkegcaaGreatDoor
open Go.RowKit Go.Bl

/-- the fault of indices of faces, behind some -/
def ffF (n : Nat) (seen : List Int) : List Int → Int
  | [] => 0
  | k :: r => if k < 0 ∨ (n : Int) ≤ k then 8 else if memB seen k then 6 else ffF n (seen ++ [k]) r

def facesErr (n : Nat) (L : List Int) : Int := if L = [] then 8 else ffF n [] L

def ffK (n : Nat) (L : List Int) (k : Nat) : Int := ffF n (L.take k) (L.drop k)

theorem ffK_step {n : Nat} {L : List Int} {k : Nat} (h : k < L.length) : ffK n L k = if L[k] < 0 ∨ (n : Int) ≤ L[k] then 8 else if memB (L.take k) L[k] then 6 else ffK n L (k + 1) := by
  unfold ffK
  rw [List.drop_eq_getElem_cons h, List.take_succ_eq_append_getElem h]
  rfl

theorem ffK_end {n : Nat} {L : List Int} : ffK n L L.length = 0 := by unfold ffK; rw [List.drop_length]; rfl

theorem ffF_in {n : Nat} : ∀ {L seen : List Int}, ffF n seen L = 0 → ∀ i ∈ L, 0 ≤ i ∧ i < n
  | [], _, _ => by simp
  | k :: r, seen, h => by
    unfold ffF at h
    by_cases h1 : k < 0 ∨ (n : Int) ≤ k
    · rw [if_pos h1] at h; cases h
    · rw [if_neg h1] at h
      by_cases h2 : memB seen k = true
      · rw [if_pos h2] at h; cases h
      · rw [if_neg h2] at h
        intro i hi
        rcases List.mem_cons.1 hi with rfl | hi
        · omega
        · exact ffF_in h i hi

def seenI (n : Nat) (T : List Int) : List Bool := (List.range n).map fun (i : Nat) => memB T (i : Int)

theorem seenI_len (n : Nat) (T : List Int) : (seenI n T).length = n := by simp [seenI]

theorem seenI_get {n : Nat} {T : List Int} {i : Nat} (h : i < (seenI n T).length) : (seenI n T)[i] = memB T (i : Int) := by simp [seenI]

theorem seenI_nil (n : Nat) : seenI n [] = List.replicate n false := by
  apply List.ext_getElem <;> simp [seenI, memB]

theorem memB_snoc (T : List Int) (x y : Int) : memB (T ++ [x]) y = (memB T y || decide (y = x)) := by
  unfold memB; rw [Bool.eq_iff_iff]; simp

theorem seenI_set {n : Nat} {T : List Int} {k : Nat} (h : k < T.length) {i : Nat} (hi : T[k] = (i : Int)) : seenI n (T.take (k + 1)) = (seenI n (T.take k)).set i true := by
  apply List.ext_getElem
  · simp [seenI]
  · intro j h1 h2
    rw [List.getElem_set, seenI_get, List.take_succ_eq_append_getElem h, memB_snoc, hi]
    by_cases hj : i = j
    · subst hj; simp
    · rw [if_neg hj, seenI_get]
      have : ¬ ((j : Int) = (i : Int)) := by omega
      simp [this]

end Go.Proofs.YtbpkkgeedkegcaaGreatDoor

namespace Go.Proofs.YtbpkkgeedkegcaaGreatDoor
open Go.RowKit Go.Bl

/-- the faces of indices -/
def pickF (fs : List Fc) (L : List Int) : List Fc := L.map fun i => fs.getD i.toNat ⟨0, 0, 0⟩

theorem pickF_len (fs : List Fc) (L : List Int) : (pickF fs L).length = L.length := by simp [pickF]

theorem pickF_snoc {fs : List Fc} {L : List Int} {k : Nat} (h : k < L.length) {j : Nat} (hj : L[k] = (j : Int)) (hl : j < fs.length) : pickF fs (L.take (k + 1)) = pickF fs (L.take k) ++ [fs[j]] := by
  unfold pickF
  rw [take_snoc h, List.map_append, List.map_singleton, hj, Int.toNat_natCast, List.getD_eq_getElem?_getD, List.getElem?_eq_getElem hl, Option.getD_some]

theorem pickF_in {n : Nat} {fs : List Fc} {L : List Int} (h : ∀ f ∈ fs, inF n f = true) (hL : ∀ i ∈ L, 0 ≤ i ∧ i < fs.length) : ∀ f ∈ pickF fs L, inF n f = true := by
  intro f hf
  obtain ⟨i, hi, rfl⟩ := List.mem_map.1 hf
  obtain ⟨h0, h1⟩ := hL i hi
  have : i.toNat < fs.length := by omega
  rw [List.getD_eq_getElem?_getD, List.getElem?_eq_getElem this, Option.getD_some]
  exact h _ (List.getElem_mem _)

def partM (vs : List V3) (fs : List Fc) (L : List Int) : MeshV := trimM ⟨vs, pickF fs L⟩

end Go.Proofs.YtbpkkgeedkegcaaGreatDoor

namespace Go.Proofs.YtbpkkgeedkegcaaGreatDoor
open Go.RowKit Go.Bl

def partE (vs : List V3) (fs : List Fc) (L : List Int) : Int := if meshF ⟨vs, fs⟩ ≠ 0 then meshF ⟨vs, fs⟩ else if facesErr fs.length L ≠ 0 then facesErr fs.length L else meshF (partM vs fs L)

def partR (vs : List V3) (fs : List Fc) (L : List Int) : MeshV := if meshF ⟨vs, fs⟩ ≠ 0 then ⟨[], []⟩ else if facesErr fs.length L ≠ 0 then ⟨[], []⟩ else okM (partM vs fs L)

end Go.Proofs.YtbpkkgeedkegcaaGreatDoor

namespace Go.Proofs.YtbpkkgeedkegcaaGreatDoor
open Go.RowKit Go.Bl

set_option maxHeartbeats 4000000 in
set_option maxRecDepth 100000 in
theorem partT_any (A : Option Addr) (c : Nat) (vs : List V3) (B : Option Addr) (d : Nat) (fs : List Fc) (F : Option Addr) (e0 : Nat) (L : List Int) (w : World) (hl : Sl w 0 A vs) (hfs : Sl w 0 B fs) (hL : Sl w 0 F L) (hM : meshF ⟨vs, fs⟩ = 0) (hLl : L.length ≤ 2000) (hL0 : L ≠ []) :
    Calls Tryz.prog 9 #[.agg #[.slice A vs.length c, .slice B fs.length d], .slice F L.length e0] w (SMeshT w.heap.size (partR vs fs L) (partE vs fs L) w) := by
  obtain ⟨-, hvl, hfl, -, hv⟩ := right_bd hM
  have hin := right_in hM
  obtain ⟨W, hW⟩ : ∃ W, W = (w.alloc (.cells #[.slice A vs.length c, .slice B fs.length d] 29)).alloc (.cells #[.slice none 0 0, .slice none 0 0] 29) := ⟨_, rfl⟩
  have hWs : W.heap.size = w.heap.size + 1 + 1 := by rw [hW]; simp
  have hgW : w.grownBy W none := by rw [hW]; exact (by repeat (first | exact World.grownBy.refl _ _ | assumption | refine gr_alloc ?_ _ | (apply gr_tail; assumption) | refine gr_drewN ?_ _ | refine gr_drew ?_))
  have b0 : W.cell? ⟨w.heap.size, 0, none⟩ = some (.slice A vs.length c) := by rw [hW]; go_simp
  have b1 : W.cell? ⟨w.heap.size, 1, none⟩ = some (.slice B fs.length d) := by rw [hW]; go_simp
  have q0 : Cell W (w.heap.size + 1) 0 (.slice none 0 0) := by rw [hW]; exact ⟨by go_simp, by go_simp⟩
  have q1 : Cell W (w.heap.size + 1) 1 (.slice none 0 0) := by rw [hW]; exact ⟨by go_simp, by go_simp⟩
  replace hW := hide hW.symm
  replace hWs := hide hWs
  replace q0 := hide q0
  replace q1 := hide q1
  have hltw : w.heap.size < w.heap.size + 1 := Nat.lt_succ_self _
  have hC := checkMesh_any A c vs B d fs W ((hl.mono (Nat.zero_le _)).pure hgW) ((hfs.mono (Nat.zero_le _)).pure hgW)
  rw [hM] at hC
  have hE : Hid (facesErr fs.length L = ffK fs.length L 0) := by rw [Hid]; unfold facesErr ffK; rw [if_neg hL0]; simp
  have hPE : Hid (partE vs fs L = if ffK fs.length L 0 ≠ 0 then ffK fs.length L 0 else meshF (partM vs fs L)) := by rw [Hid]; unfold partE; rw [if_neg (by simp [hM]), hE.out]
  have hPR : Hid (partR vs fs L = if ffK fs.length L 0 ≠ 0 then ⟨[], []⟩ else okM (partM vs fs L)) := by rw [Hid]; unfold partR; rw [if_neg (by simp [hM]), hE.out]
  have hIn : Hid (ffK fs.length L 0 = 0 → ∀ i ∈ L, 0 ≤ i ∧ i < fs.length) := fun h => ffF_in (by simpa [ffK] using h)
  have h00 : (L.length == 0) = false := by simpa using hL0
  have h01 : ((L.length : Int) == 0) = false := by simpa using hL0
  clear hM hE hL0
  replace hC := hide hC
  replace hin := hide hin
  have hi0 := info_parts info_bool
  go_enter Tryz.func9, Tryz.ntmps9
  go_upto_region 1 with fail
  rw [hW.out]
  go_wp2_with fail
  refine hC.out.mono ?_
  rintro e w1 ⟨rfl, hg1⟩
  clear hC
  obtain ⟨i0, hi, hz, hi1, hi2⟩ := hi0
  obtain ⟨w2, hrun, hoS, hg2⟩ := run_makeOwn (P := Tryz.prog) w1 66 4 i0 _ false Tryz.underlying66 hi hz hi1 rfl rfl .i64 .i64 fs.length (by rw [hi2]; omega) (by simp [maxLen]; omega)
  clear hi hz hi1 hi2 i0
  rw [← seenI_nil] at hoS
  have hgg := gr_trans hg1 hg2
  have b1a := hg1.k b1
  have b0b := hgg.k b0
  have b1b := hgg.k b1
  obtain ⟨gs, hgs⟩ : ∃ g, g = w1.heap.size := ⟨_, rfl⟩
  rw [← hgs] at hrun hoS
  have hgs1 : gs < w2.heap.size := (hoS.blk_lt (g := gs) rfl).2
  have hgs0 : W.heap.size ≤ gs := by rw [hgs]; exact hg1.size
  replace hgs := hide hgs
  go_upto_region 7 with fail
  clear hrun b1a hg1 hg2
  obtain ⟨go, hgo⟩ : ∃ g, g = w2.heap.size := ⟨_, rfl⟩
  obtain ⟨W3, hW3⟩ : ∃ x, x = w2.alloc (.cells #[.slice A vs.length c, .slice none 0 0] 29) := ⟨_, rfl⟩
  have hq0 := gr_alloc (World.grownBy.refl w2 none) (.cells [.slice A vs.length c, .slice none 0 0].toArray 29)
  have hO : Box W3 go 29 [.slice A vs.length c, .slice none 0 0] := by rw [hW3, hgo]; exact Box.new w2 [.slice A vs.length c, .slice none 0 0] 29
  have hg3 : W.grownBy W3 none := by rw [hW3]; exact gr_trans hgg hq0
  have hoV : Own W3 W.heap.size 4 (some ⟨gs, 0, none⟩) fs.length (seenI fs.length (L.take 0)) := by rw [hW3]; exact (hoS.pure hq0).lower hgs0
  have hgo2 : Hid (W.heap.size ≤ go) := by rw [Hid, hgo]; omega
  have hsgo : gs < go := by omega
  have hgwn : Hid (w.heap.size + 1 < go) := by have := hgo2.out; have := hWs.out; simp only [Hid]; omega
  replace hW3 := hide hW3.symm
  replace hgo := hide hgo.symm
  clear hq0 hoS
  go_upto_region 8 with fail
  rw [hW3.out, hgo.out]
  clear b0b b1b hgg hgs1
  go_wp2_with fail
  go_loopw [30] (fun i wr => ∃ (k : Nat) (B' : Option Addr) (d' : Nat), k ≤ L.length ∧ i = .int .i64 k ∧ Box wr go 29 [.slice A vs.length c, .slice B' k d'] ∧ Own wr W.heap.size 54 B' d' (pickF fs (L.take k)) ∧ Own wr W.heap.size 4 (some ⟨gs, 0, none⟩) fs.length (seenI fs.length (L.take k)) ∧ W.grownBy wr none ∧ Hid (ffK fs.length L 0 = ffK fs.length L k)) (fun i _ => L.length - (intOf i).toNat)
  case atStart => exact ⟨0, none, 0, by omega, rfl, hO, Own.nil _ _ _, hoV, hg3, rfl⟩
  case round =>
    clear hO hoV hg3
    obtain ⟨k, B', d', hk, rfl, hO, hF, hoV, hg, hX⟩ := hrel
    obtain ⟨FL, hFL⟩ : ∃ FL, FL = pickF fs (L.take k) := ⟨_, rfl⟩
    rw [← hFL] at hF
    have hFl : Hid (FL.length = k) := by rw [Hid, hFL, pickF_len, List.length_take, Nat.min_eq_left hk]
    have hgw := gr_trans hgW hg
    have c1' := hg.k b1
    have hlt0 : w.heap.size < wr.heap.size := cell_lt c1'
    by_cases hlt : k < L.length
    · obtain ⟨g, o, cx, rfl, hb0, hb1, rfl, hc⟩ := (hL.pure hgw).at_ (by decide) hlt
      have c0 : wr.cell? ⟨g, o + k, none⟩ = some (.int .i64 L[k]) := by have := hc 0 _ rfl; rwa [show Enc.sz Int = 1 from rfl, Nat.mul_one] at this
      clear hc
      have hst := hide (ffK_step (n := fs.length) hlt)
      by_cases hx0 : L[k] < 0
      · have hF8 : ffK fs.length L 0 = 8 := by rw [hX.out, hst.out, if_pos (.inl hx0)]
        rw [hF8] at hPE hPR
        replace hPE : Hid (partE vs fs L = 8) := by rw [Hid, hPE.out]; rfl
        replace hPR : Hid (partR vs fs L = ⟨[], []⟩) := by rw [Hid, hPR.out]; rfl
        generalize L[k] = x at *
        rw [hPE.out, hPR.out]
        clear hF8 hX hst
        obtain ⟨k0, kf0⟩ := q0.out.gr hg (by simp)
        obtain ⟨k1, kf1⟩ := q1.out.gr hg (by simp)
        have hgX := gr_trans hgW hg
        have hgs := fun (v1 v2 : Value) => gr_set (gr_set (World.grownBy.refl wr (some (w.heap.size + 1))) (p := ⟨w.heap.size + 1, 0, none⟩) (.inl rfl) v1) (p := ⟨w.heap.size + 1, 1, none⟩) (.inl rfl) v2
        have hkk := fun v1 v2 => gr_row hgX (hgs v1 v2) (fun g e => by injection e; omega)
        clear q0 q1
        replace hgs := hide hgs
        replace hkk := hide hkk
        go_wp2_with fail
        exact bodyPost_ret (v := .tuple #[.agg #[.slice none 0 0, .slice none 0 0], .int .i64 8]) (by simp [results, Tryz.results9, go_sem, k0, k1, kf0, kf1]) rfl ⟨none, 0, none, 0, rfl, slNil _ _ _, slNil _ _ _, OpA.nil _ _, OpA.nil _ _, hkk.out _ _⟩
      · by_cases hx1 : (fs.length : Int) ≤ L[k]
        · have hF8 : ffK fs.length L 0 = 8 := by rw [hX.out, hst.out, if_pos (.inr hx1)]
          rw [hF8] at hPE hPR
          replace hPE : Hid (partE vs fs L = 8) := by rw [Hid, hPE.out]; rfl
          replace hPR : Hid (partR vs fs L = ⟨[], []⟩) := by rw [Hid, hPR.out]; rfl
          generalize L[k] = x at *
          rw [hPE.out, hPR.out]
          clear hF8 hX hst
          obtain ⟨k0, kf0⟩ := q0.out.gr hg (by simp)
          obtain ⟨k1, kf1⟩ := q1.out.gr hg (by simp)
          have hgX := gr_trans hgW hg
          have hgs := fun (v1 v2 : Value) => gr_set (gr_set (World.grownBy.refl wr (some (w.heap.size + 1))) (p := ⟨w.heap.size + 1, 0, none⟩) (.inl rfl) v1) (p := ⟨w.heap.size + 1, 1, none⟩) (.inl rfl) v2
          have hkk := fun v1 v2 => gr_row hgX (hgs v1 v2) (fun g e => by injection e; omega)
          clear q0 q1
          replace hgs := hide hgs
          replace hkk := hide hkk
          go_wp2_with fail
          exact bodyPost_ret (v := .tuple #[.agg #[.slice none 0 0, .slice none 0 0], .int .i64 8]) (by simp [results, Tryz.results9, go_sem, k0, k1, kf0, kf1]) rfl ⟨none, 0, none, 0, rfl, slNil _ _ _, slNil _ _ _, OpA.nil _ _, OpA.nil _ _, hkk.out _ _⟩
        · obtain ⟨j, ej⟩ := Int.eq_ofNat_of_zero_le (Int.not_lt.1 hx0)
          have hj : j < fs.length := by omega
          have hlS : j < (seenI fs.length (L.take k)).length := by rw [seenI_len]; exact hj
          have s0 := hoV.cell_bool hlS
          have s1 := hoV.frozen j
          rw [seenI_get] at s0
          obtain ⟨bb, hbb⟩ : ∃ bb, memB (L.take k) (j : Int) = bb := ⟨_, rfl⟩
          rw [hbb] at s0
          have hX2 : Hid (ffK fs.length L 0 = if bb then 6 else ffK fs.length L (k + 1)) := by rw [Hid, hX.out, hst.out, if_neg (by omega), ej, hbb]
          cases bb
          · have hsn := pickF_snoc (fs := fs) hlt ej hj
            rw [← hFL] at hsn
            have hse := seenI_set (n := fs.length) hlt ej
            have hoV2 := hoV.set_bool hlS true
            rw [← hse] at hoV2
            obtain ⟨gf, of, rfl, -, hbf, hcc⟩ := hfs.fc (by omega)
            obtain ⟨x0, x1, x2⟩ := hcc j hj
            clear hcc
            rw [ej] at c0 hx0 hx1
            clear ej
            generalize fs[j] = f at *
            have hX3 : Hid (ffK fs.length L 0 = ffK fs.length L (k + 1)) := by rw [Hid, hX2.out]; rfl
            have hgst := gr_set (World.grownBy.refl wr (some gs)) (p := ⟨gs, j, none⟩) (.inl rfl) (.bool true)
            have hO2 := hO.gr hgst (by intro e; injection e; omega)
            have hF2 := hF.ne hgst (fun x hx e => hoV.ne_own hF (by decide) (x := gs) rfl (hx.trans e.symm))
            have hwgs : w.heap.size < gs := by have := hWs.out; omega
            have hgr2 := gr_set hg (p := ⟨gs, j, none⟩) (.inr hgs0) (.bool true)
            have hgw2 := gr_trans hgW hgr2
            have y0 := hgw2.k x0
            have y1 := hgw2.k x1
            have y2 := hgw2.k x2
            have y3 := hgr2.k b1
            have hsz : w.heap.size ≤ wr.heap.size := hgw.size
            clear hX hX2 hst hse hlS hbb
            replace hsn := hide hsn
            replace hFL := hide hFL
            replace hF2 := hide hF2
            replace hO2 := hide hO2
            replace hoV2 := hide hoV2
            replace hgr2 := hide hgr2
            clear hoV hF
            go_upto_region 16 with fail
            obtain ⟨wn, hwn⟩ : ∃ x, x = wr.setCell ⟨gs, j, none⟩ (.bool true) := ⟨_, rfl⟩
            rw [← hwn] at hF2 hO2 hoV2 hgr2 y0 y1 y2 y3 hgw2 ⊢
            clear hwn hgst
            have hF := hF2.out
            have hO := hO2.out
            have hoV := hoV2.out
            have hg := hgr2.out
            clear hF2 hO2 hoV2 hgr2
            have hB : ∀ wx, wn.grownBy wx none → wx.cell? ⟨go, 1, none⟩ = some (.slice B' k d') ∧ wx.cell? ⟨w.heap.size, 1, none⟩ = some (.slice (some ⟨gf, of, none⟩) fs.length d) ∧ wx.cell? ⟨gf, of + j * 3, none⟩ = some (.int .i64 f.a) ∧ wx.cell? ⟨gf, of + j * 3 + 1, none⟩ = some (.int .i64 f.b) ∧ wx.cell? ⟨gf, of + j * 3 + 2, none⟩ = some (.int .i64 f.c) := fun wx hx => ⟨hx.k (hO.c 1 rfl).1, hx.k y3, hx.k y0, hx.k y1, hx.k y2⟩
            replace hB := hide hB
            obtain ⟨lo, hlo'⟩ : ∃ lo, lo = W.heap.size := ⟨_, rfl⟩
            rw [← hlo'] at hF hoV hgo2
            have hlo : Hid (lo ≤ wn.heap.size ∧ W.heap.size ≤ lo) := ⟨by rw [hlo']; exact hg.size, by omega⟩
            clear hx0 hx1 c0 c1' s0 s1 hgw2 hgw
            replace hlo' := hide hlo'
            refine wp_region_tree (fun wx => wn.grownBy wx none) [2, 1, 2, 1, 2, 2, 1, 0, 0, 2, 0] (.bl 0 (.bl 1 (.bl 2 (.bl 3 (.bl 4 (.bl 5 (.bl 6 (.ef 7 (.ef 8 (.bl 9 (.ef 10 .done))))))))))) (by kernel_rfl) (by kernel_rfl) (gr_drew (World.grownBy.refl _ _)) ?_
            obtain ⟨w1, hw1⟩ : ∃ x, x = (wn).drew := ⟨_, rfl⟩
            rw [← hw1]
            have hgw1 : (wn).grownBy w1 none := by rw [hw1]; exact gr_drew (World.grownBy.refl _ _)
            clear hw1
            refine tree_p rfl rfl rfl rfl _ rfl (by simp) (fun K hK => ?_)
            apply Exists.intro
            refine ⟨fun wq K' hK' => ?_, ?_⟩
            · go_wp2_with fail
              exact hK'
            go_simp
            refine hK _ ?_
            clear hK K
            refine tree_b rfl rfl rfl rfl _ rfl (by simp) (fun K hK => ?_)
            apply Exists.intro
            refine ⟨fun wq hq K' hK' => ?_, ?_⟩
            · obtain ⟨c0, c1, c2, c3, c4⟩ := hB.out wq hq
              go_wp2_with fail
              exact hK'
            go_simp
            refine hK _ ?_
            clear hK K
            refine tree_p rfl rfl rfl rfl _ rfl (by simp) (fun K hK => ?_)
            apply Exists.intro
            refine ⟨fun wq K' hK' => ?_, ?_⟩
            · go_wp2_with fail
              exact hK'
            go_simp
            refine hK _ ?_
            clear hK K
            refine tree_b rfl rfl rfl rfl _ rfl (by simp) (fun K hK => ?_)
            apply Exists.intro
            refine ⟨fun wq hq K' hK' => ?_, ?_⟩
            · obtain ⟨c0, c1, c2, c3, c4⟩ := hB.out wq hq
              go_wp2_with fail
              exact hK'
            go_simp
            refine hK _ ?_
            clear hK K
            refine tree_p rfl rfl rfl rfl _ rfl (by simp) (fun K hK => ?_)
            apply Exists.intro
            refine ⟨fun wq K' hK' => ?_, ?_⟩
            · go_wp2_with fail
              exact hK'
            go_simp
            refine hK _ ?_
            clear hK K
            refine tree_p rfl rfl rfl rfl _ rfl (by simp) (fun K hK => ?_)
            apply Exists.intro
            refine ⟨fun wq K' hK' => ?_, ?_⟩
            · go_wp2_with fail
              exact hK'
            go_simp
            refine hK _ ?_
            clear hK K
            refine tree_b rfl rfl rfl rfl _ rfl (by simp) (fun K hK => ?_)
            apply Exists.intro
            refine ⟨fun wq hq K' hK' => ?_, ?_⟩
            · obtain ⟨c0, c1, c2, c3, c4⟩ := hB.out wq hq
              go_wp2_with fail
              exact hK'
            go_simp
            refine hK _ ?_
            clear hK K
            refine tree_e rfl rfl (fun K hK => ?_)
            go_wp2_with fail
            try go_simp
            refine hK _ _ (gr_alloc (gr_trans hgw1 (World.grownBy.refl _ _)) _) ?_
            clear hK K
            obtain ⟨w7, hw7⟩ : ∃ x, x = (w1).alloc (.cells [.int .i64 f.a, .int .i64 f.b, .int .i64 f.c].toArray 54) := ⟨_, rfl⟩
            have hg7 : (w1).grownBy w7 none := by rw [hw7]; exact gr_alloc (World.grownBy.refl _ _) _
            have hb7 : Box w7 (w1).heap.size 54 [.int .i64 f.a, .int .i64 f.b, .int .i64 f.c] := by rw [hw7]; exact Box.new _ _ _
            rw [← hw7]
            clear hw7
            have hs7 := hb7.sl (l := [f]) (lo := 0) ⟨_, [], by simp, rfl, rfl⟩ (Nat.zero_le _) (by simp [maxLen])
            have hq7 := gr_trans hgw1 hg7
            refine tree_e0 (by kernel_rfl) rfl rfl (fun K hK => ?_)
            have hF7 := hF.pure hq7
            have hO7 := hO.pure hq7
            obtain ⟨i0, hi, hz, hi1, hi2⟩ := info_parts info_face
            refine wp_pushAt (α := Fc) _ (.tmp 53) (.tmp 59) _ rfl lo 54 i0 _ 24 Tryz.underlying27 hi hz hi1 hi2 rfl _ _ _ FL rfl hFl.out.symm hF7 0 ⟨_, 0, none⟩ 1 1 [f] rfl rfl hs7 ?_ ?_ ?_ ?_
            · rw [hFl.out]; simp; omega
            · rw [hFl.out]; simp [maxLen]; omega
            · have := hq7.size; have := hlo.out; omega
            intro B5 d5 w8 hF8 hG8
            have hO8 := hO7.gr hG8.1 (hO7.ne_own hF7 (by decide))
            rw [show (FL ++ [f]).length = k + 1 by rw [List.length_append, hFl.out]; rfl]
            try go_simp
            refine hK _ _ trivial ?_
            clear hK K
            refine tree_p rfl rfl rfl rfl _ rfl (by simp) (fun K hK => ?_)
            apply Exists.intro
            refine ⟨fun wq K' hK' => ?_, ?_⟩
            · go_wp2_with fail
              exact hK'
            go_simp
            refine hK _ ?_
            clear hK K
            refine tree_e0 (by kernel_rfl) rfl rfl (fun K hK => ?_)
            obtain ⟨o0, p0⟩ := hO8.c 0 rfl
            obtain ⟨o1, p1⟩ := hO8.c 1 rfl
            have hO9 := hide (hO8.set_ 1 (.slice B5 (k + 1) d5) (by simp))
            have hF9 := hide (hF8.set_other (i := 1) (.slice B5 (k + 1) d5) (hO8.ne_own hF8 (by decide)))
            have hoV8 := (hoV.pure hq7).ne hG8.1 (fun x hx => (hoV.pure hq7).ne_own hF7 (by decide) hx)
            have hoV9 := hide (hoV8.set_other (i := 1) (.slice B5 (k + 1) d5) (hO8.ne_own hoV8 (by decide)))
            have hg8 : W.grownBy w8 none := gr_row (gr_trans hg hq7) hG8.1 (fun x e => by have := (hF7.blk_lt e).1; have := hlo.out; omega)
            have hg9 := hide (gr_set hg8 (p := ⟨go, 1, none⟩) (.inr (by have := hgo2.out; simp only; omega)) (.slice B5 (k + 1) d5))
            have hG9 := hide hG8
            clear hoV8 hg8 hF8 hG8
            replace hO8 := hide hO8
            go_wp2_with fail
            try go_simp
            refine hK _ _ trivial ?_
            clear hK K
            refine tree_done ?_
            go_wp2_with fail
            replace hlo' := hlo'.out
            refine ⟨⟨k + 1, B5, d5, by omega, by go_num, hO9.out, by rw [hsn.out, ← hlo']; exact hF9.out, by rw [← hlo']; exact hoV9.out, hg9.out, hX3⟩, by simp [intOf]; omega⟩
          · have hF8 : ffK fs.length L 0 = 6 := by rw [hX2.out]; rfl
            rw [hF8] at hPE hPR
            replace hPE : Hid (partE vs fs L = 6) := by rw [Hid, hPE.out]; rfl
            replace hPR : Hid (partR vs fs L = ⟨[], []⟩) := by rw [Hid, hPR.out]; rfl
            rw [ej] at c0 hx0 hx1
            rw [hPE.out, hPR.out]
            clear hF8 hX hX2 hst hlS hbb ej
            obtain ⟨k0, kf0⟩ := q0.out.gr hg (by simp)
            obtain ⟨k1, kf1⟩ := q1.out.gr hg (by simp)
            have hgX := gr_trans hgW hg
            have hgs := fun (v1 v2 : Value) => gr_set (gr_set (World.grownBy.refl wr (some (w.heap.size + 1))) (p := ⟨w.heap.size + 1, 0, none⟩) (.inl rfl) v1) (p := ⟨w.heap.size + 1, 1, none⟩) (.inl rfl) v2
            have hkk := fun v1 v2 => gr_row hgX (hgs v1 v2) (fun g e => by injection e; omega)
            clear q0 q1
            replace hgs := hide hgs
            replace hkk := hide hkk
            go_wp2_with fail
            exact bodyPost_ret (v := .tuple #[.agg #[.slice none 0 0, .slice none 0 0], .int .i64 6]) (by simp [results, Tryz.results9, go_sem, k0, k1, kf0, kf1]) rfl ⟨none, 0, none, 0, rfl, slNil _ _ _, slNil _ _ _, OpA.nil _ _, OpA.nil _ _, hkk.out _ _⟩
    · have hkn : k = L.length := by omega
      subst hkn
      have hF8 : ffK fs.length L 0 = 0 := by rw [hX.out]; exact ffK_end
      have hLi := hIn.out hF8
      rw [hF8] at hPE hPR
      replace hPE : Hid (partE vs fs L = meshF (partM vs fs L)) := by rw [Hid, hPE.out]; rfl
      replace hPR : Hid (partR vs fs L = okM (partM vs fs L)) := by rw [Hid, hPR.out]; rfl
      rw [hFL, List.take_length] at hF
      obtain ⟨o0, p0⟩ := hO.c 0 rfl
      obtain ⟨o1, p1⟩ := hO.c 1 rfl
      have hSV := hl.pure hgw
      have hSF := hF.sl.mono (Nat.zero_le _)
      have hinp := pickF_in hin.out hLi
      have hffl : (pickF fs L).length ≤ 2000 := by rw [pickF_len]; exact hLl
      clear hF8 hX hFL hFl hO hF hoV hk hLi
      obtain ⟨PF, hPF⟩ : ∃ PF, PF = pickF fs L := ⟨_, rfl⟩
      have hPM : Hid (partM vs fs L = trimM ⟨vs, PF⟩) := by rw [Hid, hPF]; rfl
      have hPl : L.length = PF.length := by rw [hPF, pickF_len]
      rw [← hPF] at hSF hinp hffl
      rw [hPl] at o1
      clear hPl hPF
      have hU := trimmed_any A c vs B' d' PF wr hSV hSF hinp hvl hffl
      obtain ⟨TM, hTM⟩ : ∃ TM, TM = trimM ⟨vs, PF⟩ := ⟨_, rfl⟩
      rw [← hTM] at hU
      replace hU := hide hU
      obtain ⟨k0, kf0⟩ := q0.out.gr hg (by simp)
      obtain ⟨k1, kf1⟩ := q1.out.gr hg (by simp)
      have hwr := gr_trans hgW hg
      have hle : w.heap.size + 1 < W.heap.size := by have := hWs.out; omega
      have hlw := hg.size
      replace hTM : Hid (partM vs fs L = TM) := by rw [Hid, hTM]; exact hPM.out
      clear hPM hSV hSF hinp
      go_wp2_with fail
      refine hU.out.mono ?_
      rintro e wu ⟨Au, cu, Bu, du, rfl, huV, huF, hgu⟩
      have hR := checkedT_any Au cu TM.vs Bu du TM.fs wu W.heap.size (huV.lower hlw).sl (huF.lower hlw).sl (OpA.own (huV.lower hlw)) (OpA.own (huF.lower hlw))
      replace hR := hide hR
      obtain ⟨k0, kf0⟩ := Cell.gr ⟨k0, kf0⟩ hgu (by simp)
      obtain ⟨k1, kf1⟩ := Cell.gr ⟨k1, kf1⟩ hgu (by simp)
      have hwu := gr_trans hwr hgu
      clear huV huF hU
      go_wp2_with fail
      refine hR.out.mono ?_
      rintro e w9 ⟨A9, c9, B9, d9, rfl, hs9, hf9, o1, o2, hg9⟩
      obtain ⟨k0, kf0⟩ := Cell.gr ⟨k0, kf0⟩ hg9 (by simp)
      obtain ⟨k1, kf1⟩ := Cell.gr ⟨k1, kf1⟩ hg9 (by simp)
      have hgs := fun (v1 v2 : Value) => gr_set (gr_set (World.grownBy.refl w9 (some (w.heap.size + 1))) (p := ⟨w.heap.size + 1, 0, none⟩) (.inl rfl) v1) (p := ⟨w.heap.size + 1, 1, none⟩) (.inl rfl) v2
      have hk := fun v1 v2 => gr_row (gr_trans hwu hg9) (hgs v1 v2) (fun g e => by injection e; omega)
      replace hgs := hide hgs
      replace hk := hide hk
      clear hR
      go_wp2_with fail
      refine bodyPost_ret (v := .tuple #[.agg #[.slice A9 (okM TM).vs.length c9, .slice B9 (okM TM).fs.length d9],   .int .i64 (meshF TM)]) (by simp [results, Tryz.results9, go_sem, k0, k1, kf0, kf1]) rfl ?_
      rw [hPR.out, hPE.out, hTM.out]
      exact ⟨A9, c9, B9, d9, rfl, (hs9.gr (hgs.out _ _) (fun g e => by injection e; omega)).mono (by omega), (hf9.gr (hgs.out _ _) (fun g e => by injection e; omega)).mono (by omega), (o1.gr (hgs.out _ _) (fun g e => by injection e; omega)).mono (by omega), (o2.gr (hgs.out _ _) (fun g e => by injection e; omega)).mono (by omega), hk.out _ _⟩

end Go.Proofs.YtbpkkgeedkegcaaGreatDoor

namespace Go.Proofs.YtbpkkgeedkegcaaGreatDoor
open Go.RowKit Go.Bl

/-- where a place stands first -/
def fstV : List V3 → V3 → Nat
  | [], _ => 0
  | x :: l, v => if x = v then 0 else fstV l v + 1

theorem fstV_at : ∀ {vs : List V3} {v : V3} {k : Nat} (h : k < vs.length), v ∉ vs.take k → vs[k] = v → fstV vs v = k
  | [], _, k, h, _, _ => by simp at h
  | x :: l, v, 0, _, _, he => by simp at he; unfold fstV; rw [if_pos he]
  | x :: l, v, k + 1, h, hn, he => by
    simp only [List.take_succ_cons, List.mem_cons, not_or] at hn
    unfold fstV
    rw [if_neg (fun e => hn.1 e.symm), fstV_at (k := k) (by simpa using h) hn.2 (by simpa using he)]

theorem fstV_lt : ∀ {vs : List V3} {v : V3}, v ∈ vs → fstV vs v < vs.length
  | [], _, h => by simp at h
  | x :: l, v, h => by
    unfold fstV
    by_cases e : x = v
    · rw [if_pos e]; simp
    · rw [if_neg e]
      have := fstV_lt (vs := l) (v := v) (by rcases List.mem_cons.1 h with h | h; exact absurd h.symm e; exact h)
      simp; omega

def firstK (vs : List V3) (k : Nat) : V3 → Option Int := fun v => if v ∈ vs.take k then some (fstV vs v) else none

theorem firstK_zero (vs : List V3) : (fun _ => none) = firstK vs 0 := by funext v; simp [firstK]

theorem firstK_all {vs : List V3} {v : V3} (h : v ∈ vs) : (firstK vs vs.length v).getD 0 = fstV vs v := by
  unfold firstK; rw [List.take_length, if_pos h]; rfl

theorem firstK_old {vs : List V3} {k : Nat} (h : k < vs.length) (hm : vs[k] ∈ vs.take k) : firstK vs (k + 1) = firstK vs k := by
  funext v
  unfold firstK
  rw [List.take_succ_eq_append_getElem h]
  by_cases hv : v ∈ vs.take k
  · rw [if_pos (List.mem_append_left _ hv), if_pos hv]
  · rw [if_neg hv, if_neg (fun h2 => by
      rcases List.mem_append.1 h2 with h2 | h2
      · exact hv h2
      · rw [List.mem_singleton] at h2; subst h2; exact hv hm)]

theorem firstK_new {vs : List V3} {k : Nat} (h : k < vs.length) (hm : vs[k] ∉ vs.take k) : (fun z => if z = vs[k] then some (k : Int) else firstK vs k z) = firstK vs (k + 1) := by
  funext v
  unfold firstK
  rw [List.take_succ_eq_append_getElem h]
  by_cases hv : v = vs[k]
  · subst hv
    rw [if_pos rfl, if_pos (List.mem_append_right _ (List.mem_singleton.2 rfl)), fstV_at h hm rfl]
  · rw [if_neg hv]
    by_cases hv2 : v ∈ vs.take k
    · rw [if_pos hv2, if_pos (List.mem_append_left _ hv2)]
    · rw [if_neg hv2, if_neg (fun h2 => by
        rcases List.mem_append.1 h2 with h2 | h2
        · exact hv2 h2
        · exact hv (List.mem_singleton.1 h2))]

theorem firstK_some (vs : List V3) (k : Nat) (v : V3) : (firstK vs k v).isSome = decide (v ∈ vs.take k) := by unfold firstK; by_cases h : v ∈ vs.take k <;> simp [h]

set_option maxHeartbeats 1000000 in
set_option maxRecDepth 100000 in
theorem weldCl_any (gt gm b n j : Nat) (A : Option Addr) (c : Nat) (vs : List V3) (w : World) (hl : Sl w 0 A vs) (ht : w.cell? ⟨gt, 0, none⟩ = some (.map (some b))) (hm : w.cell? ⟨gm, 0, none⟩ = some (.slice A vs.length c)) (hM : MapOf vecM w b n (firstK vs vs.length)) (hj : j < vs.length) (hok : okV vs[j]) :
    Calls Tryz.prog 50 #[.int .i64 (j : Nat), .pointer (some ⟨gt, 0, none⟩), .pointer (some ⟨gm, 0, none⟩)] w fun e w' => e = .returned (.int .i64 (fstV vs vs[j])) ∧ w.grownBy w' none := by
  obtain ⟨g, o, rfl, -, hbg, hcc⟩ := hl.v3 (by omega)
  obtain ⟨x0, x1, x2⟩ := hcc j hj
  clear hcc
  have hr := firstK_all (vs := vs) (v := vs[j]) (List.getElem_mem hj)
  have hB : ∀ wx, w.grownBy wx none → wx.cell? ⟨gt, 0, none⟩ = some (.map (some b)) ∧ wx.cell? ⟨gm, 0, none⟩ = some (.slice (some ⟨g, o, none⟩) vs.length c) ∧ wx.cell? ⟨g, o + j * 3, none⟩ = some (.int .i64 vs[j].x) ∧ wx.cell? ⟨g, o + j * 3 + 1, none⟩ = some (.int .i64 vs[j].y) ∧ wx.cell? ⟨g, o + j * 3 + 2, none⟩ = some (.int .i64 vs[j].z) ∧ (Instr.lookup 96 (.map (some b)) (.agg #[.int .i64 vs[j].x, .int .i64 vs[j].y, .int .i64 vs[j].z]) false).run Tryz.prog wx = .ok (.int .i64 (fstV vs vs[j] : Nat)) wx :=
    fun wx hx => ⟨hx.k ht, hx.k hm, hx.k x0, hx.k x1, hx.k x2, look_vec (hM.kept hx (by simp)) hok hr⟩
  replace hB := hide hB
  clear hr hok x0 x1 x2 hM
  generalize vs[j] = v at *
  generalize fstV vs v = R at *
  go_enter Tryz.func50, Tryz.ntmps50
  go_upto_region 1 with fail
  refine wp_region_tree (fun wx => w.grownBy wx none) [1, 2, 1, 2, 2, 1, 1, 2] (.bl 0 (.bl 1 (.bl 2 (.bl 3 (.bl 4 (.bl 5 (.bl 6 (.bl 7 .done)))))))) (by kernel_rfl) (by kernel_rfl) (gr_drew (World.grownBy.refl _ _)) ?_
  obtain ⟨w1, hw1⟩ : ∃ x, x = (w).drew := ⟨_, rfl⟩
  rw [← hw1]
  have hgw1 : (w).grownBy w1 none := by rw [hw1]; exact gr_drew (World.grownBy.refl _ _)
  clear hw1
  refine tree_b rfl rfl rfl rfl _ rfl (by simp) (fun K hK => ?_)
  apply Exists.intro
  refine ⟨fun wq hq K' hK' => ?_, ?_⟩
  · obtain ⟨c0, c1, c2, c3, c4, c5⟩ := hB.out wq hq
    go_wp2_with fail
    exact hK'
  go_simp
  refine hK _ ?_
  clear hK K
  refine tree_p rfl rfl rfl rfl _ rfl (by simp) (fun K hK => ?_)
  apply Exists.intro
  refine ⟨fun wq K' hK' => ?_, ?_⟩
  · go_wp2_with fail
    exact hK'
  go_simp
  refine hK _ ?_
  clear hK K
  refine tree_b rfl rfl rfl rfl _ rfl (by simp) (fun K hK => ?_)
  apply Exists.intro
  refine ⟨fun wq hq K' hK' => ?_, ?_⟩
  · obtain ⟨c0, c1, c2, c3, c4, c5⟩ := hB.out wq hq
    go_wp2_with fail
    exact hK'
  go_simp
  refine hK _ ?_
  clear hK K
  refine tree_p rfl rfl rfl rfl _ rfl (by simp) (fun K hK => ?_)
  apply Exists.intro
  refine ⟨fun wq K' hK' => ?_, ?_⟩
  · go_wp2_with fail
    exact hK'
  go_simp
  refine hK _ ?_
  clear hK K
  refine tree_p rfl rfl rfl rfl _ rfl (by simp) (fun K hK => ?_)
  apply Exists.intro
  refine ⟨fun wq K' hK' => ?_, ?_⟩
  · go_wp2_with fail
    exact hK'
  go_simp
  refine hK _ ?_
  clear hK K
  refine tree_b rfl rfl rfl rfl _ rfl (by simp) (fun K hK => ?_)
  apply Exists.intro
  refine ⟨fun wq hq K' hK' => ?_, ?_⟩
  · obtain ⟨c0, c1, c2, c3, c4, c5⟩ := hB.out wq hq
    go_wp2_with fail
    exact hK'
  go_simp
  refine hK _ ?_
  clear hK K
  refine tree_b rfl rfl rfl rfl _ rfl (by simp) (fun K hK => ?_)
  apply Exists.intro
  refine ⟨fun wq hq K' hK' => ?_, ?_⟩
  · obtain ⟨c0, c1, c2, c3, c4, c5⟩ := hB.out wq hq
    go_wp2_with fail
    exact hK'
  go_simp
  refine hK _ ?_
  clear hK K
  refine tree_p rfl rfl rfl rfl _ rfl (by simp) (fun K hK => ?_)
  apply Exists.intro
  refine ⟨fun wq K' hK' => ?_, ?_⟩
  · go_wp2_with fail
    exact hK'
  go_simp
  refine hK _ ?_
  clear hK K
  refine tree_done ?_
  go_wp2_with fail
  go_ret
  exact ⟨rfl, hgw1⟩

end Go.Proofs.YtbpkkgeedkegcaaGreatDoor

namespace Go.Proofs.YtbpkkgeedkegcaaGreatDoor
open Go.RowKit Go.Bl

def weldF (vs : List V3) (f : Fc) : Fc := ⟨fstV vs (vs.getD f.a.toNat ⟨0, 0, 0⟩), fstV vs (vs.getD f.b.toNat ⟨0, 0, 0⟩), fstV vs (vs.getD f.c.toNat ⟨0, 0, 0⟩)⟩

def okFc (g : Fc) : Bool := g.a != g.b && (g.b != g.c && g.c != g.a)

def weldK (vs : List V3) (fs : List Fc) (k : Nat) : List Fc := ((fs.take k).map (weldF vs)).filter okFc

def weldM (vs : List V3) (fs : List Fc) : MeshV := trimM ⟨vs, weldK vs fs fs.length⟩

theorem weldK_zero (vs : List V3) (fs : List Fc) : weldK vs fs 0 = [] := by simp [weldK]

theorem weldK_yes {vs : List V3} {fs : List Fc} {k : Nat} (h : k < fs.length) {g : Fc} (hg : weldF vs fs[k] = g) (ho : okFc g = true) : weldK vs fs (k + 1) = weldK vs fs k ++ [g] := by
  unfold weldK; rw [take_snoc h, List.map_append, List.filter_append, List.map_singleton, hg]; simp [ho]

theorem weldK_no {vs : List V3} {fs : List Fc} {k : Nat} (h : k < fs.length) {g : Fc} (hg : weldF vs fs[k] = g) (ho : okFc g = false) : weldK vs fs (k + 1) = weldK vs fs k := by
  unfold weldK; rw [take_snoc h, List.map_append, List.filter_append, List.map_singleton, hg]; simp [ho]

theorem weldK_len (vs : List V3) (fs : List Fc) (k : Nat) : (weldK vs fs k).length ≤ k := by
  unfold weldK
  refine Nat.le_trans (List.length_filter_le _ _) ?_
  rw [List.length_map, List.length_take]; omega

theorem weldF_of {vs : List V3} {f : Fc} {ia ib ic : Nat} (ha : f.a = ia) (hb : f.b = ib) (hc : f.c = ic) (la : ia < vs.length) (lb : ib < vs.length) (lc : ic < vs.length) : weldF vs f = ⟨fstV vs vs[ia], fstV vs vs[ib], fstV vs vs[ic]⟩ := by
  unfold weldF
  rw [ha, hb, hc, Int.toNat_natCast, Int.toNat_natCast, Int.toNat_natCast]
  simp only [List.getD_eq_getElem?_getD, List.getElem?_eq_getElem la, List.getElem?_eq_getElem lb, List.getElem?_eq_getElem lc, Option.getD_some]

theorem weldK_in {vs : List V3} {fs : List Fc} (hin : ∀ f ∈ fs, inF vs.length f = true) (k : Nat) : ∀ f ∈ weldK vs fs k, inF vs.length f = true := by
  intro g hg
  unfold weldK at hg
  obtain ⟨hg, -⟩ := List.mem_filter.1 hg
  obtain ⟨f, hf, rfl⟩ := List.mem_map.1 hg
  have hfi := inF_bd (hin f (List.mem_of_mem_take hf))
  obtain ⟨ia, eia⟩ := Int.eq_ofNat_of_zero_le hfi.1.1
  obtain ⟨ib, eib⟩ := Int.eq_ofNat_of_zero_le hfi.2.1.1
  obtain ⟨ic, eic⟩ := Int.eq_ofNat_of_zero_le hfi.2.2.1
  have hia : ia < vs.length := by omega
  have hib : ib < vs.length := by omega
  have hic : ic < vs.length := by omega
  rw [weldF_of eia eib eic hia hib hic]
  have h1 := fstV_lt (List.getElem_mem hia)
  have h2 := fstV_lt (List.getElem_mem hib)
  have h3 := fstV_lt (List.getElem_mem hic)
  simp [inF, inI]
  omega

end Go.Proofs.YtbpkkgeedkegcaaGreatDoor

namespace Go.Proofs.YtbpkkgeedkegcaaGreatDoor
open Go.RowKit Go.Bl

def weldE (vs : List V3) (fs : List Fc) : Int := if meshF ⟨vs, fs⟩ ≠ 0 then meshF ⟨vs, fs⟩ else meshF (weldM vs fs)

def weldR (vs : List V3) (fs : List Fc) : MeshV := if meshF ⟨vs, fs⟩ ≠ 0 then ⟨[], []⟩ else okM (weldM vs fs)

theorem okV_bd {v : V3} (h : Bd 100000 v) : okV v := by
  obtain ⟨⟨h1, h2⟩, ⟨h3, h4⟩, h5, h6⟩ := h
  exact ⟨okI_of (by omega), okI_of (by omega), okI_of (by omega)⟩

end Go.Proofs.YtbpkkgeedkegcaaGreatDoor

namespace Go.Proofs.YtbpkkgeedkegcaaGreatDoor
open Go.RowKit Go.Bl

set_option maxHeartbeats 4000000 in
set_option maxRecDepth 100000 in
theorem weldedT_any (A : Option Addr) (c : Nat) (vs : List V3) (B : Option Addr) (d : Nat) (fs : List Fc) (w : World) (hl : Sl w 0 A vs) (hfs : Sl w 0 B fs) (hM : meshF ⟨vs, fs⟩ = 0) :
    Calls Tryz.prog 21 #[.agg #[.slice A vs.length c, .slice B fs.length d]] w (SMeshT w.heap.size (okM (weldM vs fs)) (meshF (weldM vs fs)) w) := by
  obtain ⟨hbd, hvl, hfl, -, hv⟩ := right_bd hM
  have hin := right_in hM
  obtain ⟨W, hW⟩ : ∃ W, W = (w.alloc (.cells #[.slice A vs.length c, .slice B fs.length d] 29)).alloc (.cells #[.slice none 0 0, .slice none 0 0] 29) := ⟨_, rfl⟩
  have hWs : W.heap.size = w.heap.size + 1 + 1 := by rw [hW]; simp
  have hgW : w.grownBy W none := by rw [hW]; exact (by repeat (first | exact World.grownBy.refl _ _ | assumption | refine gr_alloc ?_ _ | (apply gr_tail; assumption) | refine gr_drewN ?_ _ | refine gr_drew ?_))
  have b0 : W.cell? ⟨w.heap.size, 0, none⟩ = some (.slice A vs.length c) := by rw [hW]; go_simp
  have b1 : W.cell? ⟨w.heap.size, 1, none⟩ = some (.slice B fs.length d) := by rw [hW]; go_simp
  have q0 : Cell W (w.heap.size + 1) 0 (.slice none 0 0) := by rw [hW]; exact ⟨by go_simp, by go_simp⟩
  have q1 : Cell W (w.heap.size + 1) 1 (.slice none 0 0) := by rw [hW]; exact ⟨by go_simp, by go_simp⟩
  replace hW := hide hW.symm
  replace hWs := hide hWs
  replace q0 := hide q0
  replace q1 := hide q1
  have hltw : w.heap.size < w.heap.size + 1 := Nat.lt_succ_self _
  have hC := checkMesh_any A c vs B d fs W ((hl.mono (Nat.zero_le _)).pure hgW) ((hfs.mono (Nat.zero_le _)).pure hgW)
  rw [hM] at hC
  clear hM
  replace hC := hide hC
  replace hin := hide hin
  have hokv : Hid (∀ v ∈ vs, okV v) := fun v hv => okV_bd (hbd v hv)
  clear hbd
  go_enter Tryz.func21, Tryz.ntmps21
  go_upto_region 1 with fail
  rw [hW.out]
  go_wp2_with fail
  refine hC.out.mono ?_
  rintro e w1 ⟨rfl, hg1⟩
  clear hC
  have hmk := run_makeMap (P := Tryz.prog) 96 w1
  have hM0 := MapOf.made vecM w1
  obtain ⟨W2, hW2⟩ : ∃ x, x = (w1.alloc (.map #[] 0)).alloc (.cells #[.map (some w1.heap.size)] 96) := ⟨_, rfl⟩
  have hg2 : w1.grownBy W2 none := by rw [hW2]; exact (by repeat (first | exact World.grownBy.refl _ _ | assumption | refine gr_alloc ?_ _ | (apply gr_tail; assumption) | refine gr_drewN ?_ _ | refine gr_drew ?_))
  have hM2 : MapOf vecM W2 w1.heap.size 0 (fun _ => none) := by rw [hW2]; exact hM0.kept (row := none) (gr_alloc (World.grownBy.refl _ _) _) (by simp)
  have hT2 : Box W2 (w1.heap.size + 1) 96 [.map (some w1.heap.size)] := by
    have := Box.new (w1.alloc (.map #[] 0)) [.map (some w1.heap.size)] 96
    rw [hW2]
    simpa using this
  have hg12 := gr_trans hg1 hg2
  have hsz1 : W.heap.size ≤ w1.heap.size := hg1.size
  obtain ⟨gt, hgt⟩ : ∃ g, g = w1.heap.size + 1 := ⟨_, rfl⟩
  obtain ⟨gm, hgm⟩ : ∃ g, g = w1.heap.size := ⟨_, rfl⟩
  rw [← hgt, ← hgm] at hT2
  rw [← hgm] at hM2
  have hWm : W.heap.size ≤ gm := by omega
  have hmt : gm < gt := by omega
  have hW2' : Hid ((w1.alloc (.map #[] 0)).alloc (.cells #[.map (some gm)] 96) = W2) := by rw [Hid, hW2, hgm]
  have b0' := hg12.k b0
  clear hM0 hW2
  replace hgm := hide hgm.symm
  replace hgt := hide hgt.symm
  go_upto_region 5 with fail
  rw [hgt.out, hgm.out, hW2'.out]
  clear hmk hsz1
  go_wp2_with fail
  go_loopw [24] (fun i wr => ∃ k : Nat, k ≤ vs.length ∧ i = .int .i64 k ∧ MapOf vecM wr gm k (firstK vs k) ∧ Box wr gt 96 [.map (some gm)] ∧ W.grownBy wr none) (fun i _ => vs.length - (intOf i).toNat)
  case atStart => exact ⟨0, by omega, rfl, by rw [← firstK_zero]; exact hM2, hT2, hg12⟩
  case round =>
    clear hM2 hT2 hg12 b0' hg2 hg1
    obtain ⟨k, hk, rfl, hM, hT, hg⟩ := hrel
    have hgw := gr_trans hgW hg
    obtain ⟨u0, v0⟩ := hT.c 0 rfl
    have hlt1 := hT.lt
    by_cases hlt : k < vs.length
    · obtain ⟨gv, ov, rfl, -, hbv, hcc⟩ := (hl.pure hgw).v3 (by omega)
      obtain ⟨x0, x1, x2⟩ := hcc k hlt
      clear hcc
      have hov := hokv.out _ (List.getElem_mem hlt)
      have hq := gr_alloc (World.grownBy.refl wr none) (.cells #[.int .i64 vs[k].x, .int .i64 vs[k].y, .int .i64 vs[k].z] 47)
      have hMq := hM.kept hq (by simp)
      have hold := firstK_old hlt
      have hnew := firstK_new hlt
      obtain ⟨ok, hok⟩ : ∃ ok, decide (vs[k] ∈ vs.take k) = ok := ⟨_, rfl⟩
      have hL := lookOk_vec hMq hov rfl ((firstK_some vs k vs[k]).trans hok)
      generalize (firstK vs k vs[k]).getD 0 = r at *
      generalize vs[k] = v at *
      replace hold := hide hold
      replace hnew := hide hnew
      replace hMq := hide hMq
      replace hov := hide hov
      have hTq := hT.pure hq
      clear hM hT
      cases ok
      · have hn := hide (hnew.out (by simpa using hok))
        have hki : okI (k : Int) := okI_of (by omega)
        replace hki := hide hki
        clear hold hnew hok
        go_wp2_with (at_mapUpdate; refine wpList_store_M _ vecM rfl (.tmp 37) (.tmp 38) (.tmp 39) _ rfl Tryz.underlying96 gm k _ rfl hMq.out (by simp [maxLen]; omega) v (k : Int) rfl rfl hov.out hki.out ?_; intro w2 hM3 hg3)
        have hT3 := hTq.gr hg3 (by intro e; injection e; omega)
        have hM4 : MapOf vecM w2 gm (k + 1) (firstK vs (k + 1)) := by rw [← hn.out]; exact hM3
        have hg4 : W.grownBy w2 none := gr_row (gr_trans hg hq) hg3 (fun g e => by injection e; omega)
        clear hM3 hn
        go_wp2
        (go_roundw; (case rel => exact ⟨k + 1, by omega, by go_num, hM4, hT3, hg4⟩); (case measure => simp [intOf]; omega))
      · have hn := hide (hold.out (by simpa using hok))
        clear hold hnew hok
        go_wp2_with fail
        (go_roundw; (case rel => exact ⟨k + 1, by omega, by go_num, by rw [hn.out]; exact hMq.out.mono (by omega), hTq, gr_trans hg hq⟩); (case measure => simp [intOf]; omega))
    · have hkn : k = vs.length := by omega
      subst hkn
      have b0r := hg.k b0
      have hlt0 : w.heap.size < wr.heap.size := cell_lt b0r
      obtain ⟨go, hgo⟩ : ∃ g, g = wr.heap.size := ⟨_, rfl⟩
      obtain ⟨W3, hW3⟩ : ∃ x, x = wr.alloc (.cells #[.slice A vs.length c, .slice none 0 0] 29) := ⟨_, rfl⟩
      have hq0 := gr_alloc (World.grownBy.refl wr none) (.cells [.slice A vs.length c, .slice none 0 0].toArray 29)
      have hO : Box W3 go 29 [.slice A vs.length c, .slice none 0 0] := by rw [hW3, hgo]; exact Box.new wr [.slice A vs.length c, .slice none 0 0] 29
      have hg3 : W.grownBy W3 none := by rw [hW3]; exact gr_trans hg hq0
      have hM3 : MapOf vecM W3 gm vs.length (firstK vs vs.length) := by rw [hW3]; exact hM.kept hq0 (by simp)
      have hT3 : Box W3 gt 96 [.map (some gm)] := by rw [hW3]; exact hT.pure hq0
      have htgo : gt < go := by omega
      replace hW3 := hide hW3.symm
      replace hgo := hide hgo.symm
      clear hq0 hM hT hlt1 hgw
      go_upto_region 14 with fail
      rw [hW3.out, hgo.out]
      have b1' := hg3.k b1
      clear hg b0r u0 v0 hlt0
      go_wp2_with fail
      go_loopw [48] (fun i wr => ∃ (k : Nat) (B' : Option Addr) (d' : Nat), k ≤ fs.length ∧ i = .int .i64 k ∧ MapOf vecM wr gm vs.length (firstK vs vs.length) ∧ Box wr gt 96 [.map (some gm)] ∧ Box wr go 29 [.slice A vs.length c, .slice B' (weldK vs fs k).length d'] ∧ Own wr (go + 1) 54 B' d' (weldK vs fs k) ∧ W.grownBy wr none) (fun i _ => fs.length - (intOf i).toNat)
      case atStart => exact ⟨0, none, 0, by omega, rfl, hM3, hT3, by rw [weldK_zero]; exact hO, by rw [weldK_zero]; exact Own.nil _ _ _, hg3⟩
      case round =>
        clear hM3 hT3 hO hg3 b1'
        obtain ⟨k, B', d', hk, rfl, hM0, hT0, hO0, hF0, hg0⟩ := hrel
        have hgw := gr_trans hgW hg0
        by_cases hlt : k < fs.length
        · obtain ⟨gf, of, rfl, -, hbf, hcc⟩ := (hfs.pure hgw).fc (by omega)
          obtain ⟨x0, x1, x2⟩ := hcc k hlt
          clear hcc
          have hmem := List.getElem_mem hlt
          have hfi := inF_bd (hin.out _ hmem)
          obtain ⟨ia, eia⟩ := Int.eq_ofNat_of_zero_le hfi.1.1
          obtain ⟨ib, eib⟩ := Int.eq_ofNat_of_zero_le hfi.2.1.1
          obtain ⟨ic, eic⟩ := Int.eq_ofNat_of_zero_le hfi.2.2.1
          have hia : ia < vs.length := by omega
          have hib : ib < vs.length := by omega
          have hic : ic < vs.length := by omega
          have hwf := weldF_of eia eib eic hia hib hic
          rw [eia] at x0
          rw [eib] at x1
          rw [eic] at x2
          have hyes := weldK_yes (vs := vs) hlt hwf
          have hno := weldK_no (vs := vs) hlt hwf
          have hkl := weldK_len vs fs k
          have hca := fun wx (hx : wr.grownBy wx none) => weldCl_any gt w.heap.size gm vs.length ia A c vs wx (hl.pure (gr_trans hgw hx)) (hx.k (hT0.c 0 rfl).1) ((gr_trans hg0 hx).k b0) (hM0.kept hx (by simp)) hia (hokv.out _ (List.getElem_mem hia))
          have hcb := fun wx (hx : wr.grownBy wx none) => weldCl_any gt w.heap.size gm vs.length ib A c vs wx (hl.pure (gr_trans hgw hx)) (hx.k (hT0.c 0 rfl).1) ((gr_trans hg0 hx).k b0) (hM0.kept hx (by simp)) hib (hokv.out _ (List.getElem_mem hib))
          have hcc := fun wx (hx : wr.grownBy wx none) => weldCl_any gt w.heap.size gm vs.length ic A c vs wx (hl.pure (gr_trans hgw hx)) (hx.k (hT0.c 0 rfl).1) ((gr_trans hg0 hx).k b0) (hM0.kept hx (by simp)) hic (hokv.out _ (List.getElem_mem hic))
          generalize ((fstV vs vs[ia] : Nat) : Int) = ra at *
          generalize ((fstV vs vs[ib] : Nat) : Int) = rb at *
          generalize ((fstV vs vs[ic] : Nat) : Int) = rc at *
          clear hwf eia eib eic hfi hmem hia hib hic
          obtain ⟨FL, hFL⟩ : ∃ FL, FL = weldK vs fs k := ⟨_, rfl⟩
          rw [← hFL] at hO0 hF0 hyes hno hkl
          replace hFL := hide hFL
          replace hyes := hide hyes
          replace hno := hide hno
          replace hca := hide hca
          replace hcb := hide hcb
          replace hcc := hide hcc
          replace hF0 := hide hF0
          replace hO0 := hide hO0
          replace hT0 := hide hT0
          replace hM0 := hide hM0
          go_upto_region 17 with fail
          obtain ⟨gx, hgx⟩ : ∃ g, g = wr.heap.size := ⟨_, rfl⟩
          obtain ⟨wn, hwn⟩ : ∃ x, x = wr.alloc (.cells #[.int .i64 ia, .int .i64 ib, .int .i64 ic] 54) := ⟨_, rfl⟩
          have hbn : Box wn gx 54 [.int .i64 ia, .int .i64 ib, .int .i64 ic] := by rw [hwn, hgx]; exact Box.new _ _ _
          have hgn : wr.grownBy wn none := by rw [hwn]; exact gr_alloc (World.grownBy.refl _ _) _
          rw [← hwn, ← hgx]
          have hgx2 : wr.heap.size ≤ gx := by omega
          clear hwn hgx
          have hB : ∀ wx, wn.grownBy wx none → wx.cell? ⟨gx, 0, none⟩ = some (.int .i64 ia) ∧ wx.cell? ⟨gx, 1, none⟩ = some (.int .i64 ib) ∧ wx.cell? ⟨gx, 2, none⟩ = some (.int .i64 ic) := fun wx hx => ⟨hx.k (hbn.c 0 rfl).1, hx.k (hbn.c 1 rfl).1, hx.k (hbn.c 2 rfl).1⟩
          replace hB := hide hB
          clear x0 x1 x2
          refine wp_region_tree (fun wx => wn.grownBy wx none) [2, 2, 1, 0, 2, 2, 1, 0, 2, 2, 1, 0, 2, 0] (.bl 0 (.bl 1 (.bl 2 (.bl 4 (.bl 5 (.bl 6 (.bl 8 (.bl 9 (.bl 10 (.ef 3 (.ef 7 (.ef 11 (.bl 12 (.ef 13 .done)))))))))))))) (by kernel_rfl) (by kernel_rfl) (gr_drew (World.grownBy.refl _ _)) ?_
          obtain ⟨w1, hw1⟩ : ∃ x, x = (wn).drew := ⟨_, rfl⟩
          rw [← hw1]
          have hgw1 : (wn).grownBy w1 none := by rw [hw1]; exact gr_drew (World.grownBy.refl _ _)
          clear hw1
          refine tree_p rfl rfl rfl rfl _ rfl (by simp) (fun K hK => ?_)
          apply Exists.intro
          refine ⟨fun wq K' hK' => ?_, ?_⟩
          · go_wp2_with fail
            exact hK'
          go_simp
          refine hK _ ?_
          clear hK K
          refine tree_p rfl rfl rfl rfl _ rfl (by simp) (fun K hK => ?_)
          apply Exists.intro
          refine ⟨fun wq K' hK' => ?_, ?_⟩
          · go_wp2_with fail
            exact hK'
          go_simp
          refine hK _ ?_
          clear hK K
          refine tree_b rfl rfl rfl rfl _ rfl (by simp) (fun K hK => ?_)
          apply Exists.intro
          refine ⟨fun wq hq K' hK' => ?_, ?_⟩
          · obtain ⟨c0, c1, c2⟩ := hB.out wq hq
            go_wp2_with fail
            exact hK'
          go_simp
          refine hK _ ?_
          clear hK K
          refine tree_p rfl rfl rfl rfl _ rfl (by simp) (fun K hK => ?_)
          apply Exists.intro
          refine ⟨fun wq K' hK' => ?_, ?_⟩
          · go_wp2_with fail
            exact hK'
          go_simp
          refine hK _ ?_
          clear hK K
          refine tree_p rfl rfl rfl rfl _ rfl (by simp) (fun K hK => ?_)
          apply Exists.intro
          refine ⟨fun wq K' hK' => ?_, ?_⟩
          · go_wp2_with fail
            exact hK'
          go_simp
          refine hK _ ?_
          clear hK K
          refine tree_b rfl rfl rfl rfl _ rfl (by simp) (fun K hK => ?_)
          apply Exists.intro
          refine ⟨fun wq hq K' hK' => ?_, ?_⟩
          · obtain ⟨c0, c1, c2⟩ := hB.out wq hq
            go_wp2_with fail
            exact hK'
          go_simp
          refine hK _ ?_
          clear hK K
          refine tree_p rfl rfl rfl rfl _ rfl (by simp) (fun K hK => ?_)
          apply Exists.intro
          refine ⟨fun wq K' hK' => ?_, ?_⟩
          · go_wp2_with fail
            exact hK'
          go_simp
          refine hK _ ?_
          clear hK K
          refine tree_p rfl rfl rfl rfl _ rfl (by simp) (fun K hK => ?_)
          apply Exists.intro
          refine ⟨fun wq K' hK' => ?_, ?_⟩
          · go_wp2_with fail
            exact hK'
          go_simp
          refine hK _ ?_
          clear hK K
          refine tree_b rfl rfl rfl rfl _ rfl (by simp) (fun K hK => ?_)
          apply Exists.intro
          refine ⟨fun wq hq K' hK' => ?_, ?_⟩
          · obtain ⟨c0, c1, c2⟩ := hB.out wq hq
            go_wp2_with fail
            exact hK'
          go_simp
          refine hK _ ?_
          clear hK K
          refine tree_e rfl rfl (fun K hK => ?_)
          go_wp2_with fail
          refine (hca.out w1 (gr_trans hgn (gr_trans hgw1 (World.grownBy.refl _ _)))).mono ?_
          rintro e w3 ⟨rfl, hg3⟩
          go_wp2_with fail
          try go_simp
          refine hK _ _ (gr_trans (gr_trans hgw1 (World.grownBy.refl _ _)) hg3) ?_
          clear hK K
          refine tree_e rfl rfl (fun K hK => ?_)
          go_wp2_with fail
          refine (hcb.out w3 (gr_trans hgn (gr_trans hgw1 hg3))).mono ?_
          rintro e w7 ⟨rfl, hg7⟩
          go_wp2_with fail
          try go_simp
          refine hK _ _ (gr_trans (gr_trans hgw1 hg3) hg7) ?_
          clear hK K
          refine tree_e0 (by kernel_rfl) rfl rfl (fun K hK => ?_)
          go_wp2_with fail
          refine (hcc.out w7 (gr_trans hgn (gr_trans hgw1 (gr_trans hg3 hg7)))).mono ?_
          rintro e w11 ⟨rfl, hg11⟩
          go_wp2_with fail
          try go_simp
          refine hK _ _ trivial ?_
          clear hK K
          refine tree_p rfl rfl rfl rfl _ rfl (by simp) (fun K hK => ?_)
          apply Exists.intro
          refine ⟨fun wq K' hK' => ?_, ?_⟩
          · go_wp2_with fail
            exact hK'
          go_simp
          refine hK _ ?_
          clear hK K
          refine tree_e0 (by kernel_rfl) rfl rfl (fun K hK => ?_)
          have hb14 := hbn.pure (w' := w11) (gr_trans hgw1 (gr_trans (gr_trans hg3 hg7) hg11))
          obtain ⟨m0, f0⟩ := hb14.c 0 rfl
          obtain ⟨m1, f1⟩ := hb14.c 1 rfl
          obtain ⟨m2, f2⟩ := hb14.c 2 rfl
          have hgg := gr_trans hgn (gr_trans hgw1 (gr_trans (gr_trans hg3 hg7) hg11))
          go_wp2_with fail
          try go_simp
          refine hK _ _ trivial ?_
          clear hK K
          refine tree_done ?_
          obtain ⟨wg, hwg⟩ : ∃ x, x = (((w11).setCell ⟨gx, 0, none⟩ (.int .i64 ra)).setCell ⟨gx, 1, none⟩ (.int .i64 rb)).setCell ⟨gx, 2, none⟩ (.int .i64 rc) := ⟨_, rfl⟩
          rw [← hwg]
          have hbg : Box wg gx 54 [.int .i64 ra, .int .i64 rb, .int .i64 rc] := by rw [hwg]; exact ((hb14.set_ 0 _ (by simp)).set_ 1 _ (by simp)).set_ 2 _ (by simp)
          replace hgg : wr.grownBy wg none := by rw [hwg]; exact gr_set (gr_set (gr_set hgg (.inr hgx2) _) (.inr hgx2) _) (.inr hgx2) _
          clear hwg hb14 m0 m1 m2 f0 f1 f2
          obtain ⟨y0, z0⟩ := hbg.c 0 rfl
          obtain ⟨y1, z1⟩ := hbg.c 1 rfl
          obtain ⟨y2, z2⟩ := hbg.c 2 rfl
          have hO := hO0.out.pure hgg
          have hF := hF0.out.pure hgg
          have hM := hM0.out.kept hgg (by simp)
          have hT := hT0.out.pure hgg
          have hg := gr_trans hg0 hgg
          have hltb := hbg.lt
          have hlto := hO.lt
          obtain ⟨o0, p0⟩ := hO.c 0 rfl
          obtain ⟨o1, p1⟩ := hO.c 1 rfl
          replace hM := hide hM
          by_cases hok : okFc ⟨ra, rb, rc⟩ = true
          · have hsn := hide (hyes.out hok)
            simp only [okFc, Bool.and_eq_true] at hok
            obtain ⟨k1, k2, k3⟩ := hok
            have hq := gr_alloc (World.grownBy.refl wg none) (.cells #[.int .i64 ra, .int .i64 rb, .int .i64 rc] 54)
            replace hF := hide hF
            replace hT := hide hT
            clear hyes hno
            go_wp2_with (at_builtin; obtain ⟨i0, hi, hz, h1, h2⟩ := info_parts info_face; refine wpList_pushAt (α := Fc) _ rfl (.tmp 85) (.tmp 87) _ rfl (go + 1) 54 i0 _ 24 Tryz.underlying27 hi hz h1 h2 rfl _ _ _ FL rfl ?c1 (by exact (hF.out.pure hq)) 0 ⟨_, 0, none⟩ 1 1 [⟨ra, rb, rc⟩] rfl rfl (by exact (sl_oneAt _ 0 _ _ _ _ (by first | rfl | simp) (Nat.zero_le _) rfl)) ?c2 ?c3 ?c4 ?_)
            case c1 => rfl
            case c2 => simp; omega
            case c3 => simp [maxLen]; omega
            case c4 => have := hg.size; have := hq.size; omega
            intro B5 d5 w5 hF5 hG5
            have hoq := hF.out.pure hq
            have hO5 := (hO.pure hq).gr hG5.1 ((hO.pure hq).ne_own hoq (by decide))
            have hT5 := (hT.out.pure hq).gr hG5.1 ((hT.out.pure hq).ne_own hoq (by decide))
            have hM5 := (hM.out.kept hq (by simp)).kept hG5.1 (fun e => by have := (hoq.blk_lt e).1; omega)
            have hg05 : W.grownBy w5 none := gr_row (gr_trans hg hq) hG5.1 (fun x e => by have := (hoq.blk_lt e).1; omega)
            rw [← hsn.out] at hF5
            obtain ⟨o0, p0⟩ := hO5.c 0 rfl
            obtain ⟨o1, p1⟩ := hO5.c 1 rfl
            have hgs5 := gr_set (World.grownBy.refl w5 (some go)) (p := ⟨go, 1, none⟩) (.inl rfl) (.slice B5 (FL.length + 1) d5)
            have hO6 := hide (hO5.set_ 1 (.slice B5 (FL.length + 1) d5) (by simp))
            have hF6 := hide (hF5.set_other (i := 1) (.slice B5 (FL.length + 1) d5) (hO5.ne_own hF5 (by decide)))
            have hT6 := hide (hT5.gr hgs5 (by intro e; injection e; omega))
            have hM6 := hide (hM5.kept hgs5 (by intro e; injection e; omega))
            have hg06 := hide (gr_set hg05 (p := ⟨go, 1, none⟩) (.inr (by simp only; omega)) (.slice B5 (FL.length + 1) d5))
            have hln : Hid ((weldK vs fs (k + 1)).length = FL.length + 1) := by rw [Hid, hsn.out, List.length_append]; rfl
            clear hO5 hF5 hg05 hoq hG5 hsn hT5 hM5 hgs5
            go_wp2_with fail
            (go_roundw; (case rel => exact ⟨k + 1, B5, d5, by omega, by go_num, hM6.out, hT6.out, by rw [hln.out]; exact hO6.out, hF6.out, hg06.out⟩); (case measure => simp [intOf]; omega))
          · have hno2 := hide (hno.out (by simpa using hok))
            rw [← hno2.out] at hO hF
            have hbb : (ra != rb) = false ∨ ((ra != rb) = true ∧ (rb != rc) = false) ∨ ((ra != rb) = true ∧ (rb != rc) = true ∧ (rc != ra) = false) := by
              simp only [okFc] at hok
              cases h1 : (ra != rb) <;> cases h2 : (rb != rc) <;> cases h3 : (rc != ra) <;> simp_all
            clear hok hyes hno hno2
            replace hO := hide hO
            replace hF := hide hF
            replace hT := hide hT
            rcases hbb with h1 | ⟨h1, h2⟩ | ⟨h1, h2, h3⟩
            all_goals
              go_wp2_with fail
              (go_roundw; (case rel => exact ⟨k + 1, B', d', by omega, by go_num, hM.out, hT.out, hO.out, hF.out, hg⟩); (case measure => simp [intOf]; omega))
        · have hkn : k = fs.length := by omega
          subst hkn
          obtain ⟨o0, p0⟩ := hO0.c 0 rfl
          obtain ⟨o1, p1⟩ := hO0.c 1 rfl
          have hg := hg0
          have hSV := hl.pure hgw
          have hSF := hF0.sl.mono (Nat.zero_le _)
          have hinp := weldK_in (vs := vs) hin.out fs.length
          have hffl : (weldK vs fs fs.length).length ≤ 2000 := by have := weldK_len vs fs fs.length; omega
          clear hO0 hF0 hM0 hT0 hk
          obtain ⟨PF, hPF⟩ : ∃ PF, PF = weldK vs fs fs.length := ⟨_, rfl⟩
          have hPM : Hid (weldM vs fs = trimM ⟨vs, PF⟩) := by rw [Hid, hPF]; rfl
          rw [← hPF] at hSF hinp hffl o1
          clear hPF
          have hU := trimmed_any A c vs B' d' PF wr hSV hSF hinp hvl hffl
          obtain ⟨TM, hTM⟩ : ∃ TM, TM = trimM ⟨vs, PF⟩ := ⟨_, rfl⟩
          rw [← hTM] at hU
          replace hU := hide hU
          obtain ⟨k0, kf0⟩ := q0.out.gr hg (by simp)
          obtain ⟨k1, kf1⟩ := q1.out.gr hg (by simp)
          have hwr := gr_trans hgW hg
          have hle : w.heap.size + 1 < W.heap.size := by have := hWs.out; omega
          have hlw := hg.size
          replace hTM : Hid (weldM vs fs = TM) := by rw [Hid, hTM]; exact hPM.out
          clear hPM hSV hSF hinp
          go_wp2_with fail
          refine hU.out.mono ?_
          rintro e wu ⟨Au, cu, Bu, du, rfl, huV, huF, hgu⟩
          have hR := checkedT_any Au cu TM.vs Bu du TM.fs wu W.heap.size (huV.lower hlw).sl (huF.lower hlw).sl (OpA.own (huV.lower hlw)) (OpA.own (huF.lower hlw))
          replace hR := hide hR
          obtain ⟨k0, kf0⟩ := Cell.gr ⟨k0, kf0⟩ hgu (by simp)
          obtain ⟨k1, kf1⟩ := Cell.gr ⟨k1, kf1⟩ hgu (by simp)
          have hwu := gr_trans hwr hgu
          clear huV huF hU
          go_wp2_with fail
          refine hR.out.mono ?_
          rintro e w9 ⟨A9, c9, B9, d9, rfl, hs9, hf9, o1, o2, hg9⟩
          obtain ⟨k0, kf0⟩ := Cell.gr ⟨k0, kf0⟩ hg9 (by simp)
          obtain ⟨k1, kf1⟩ := Cell.gr ⟨k1, kf1⟩ hg9 (by simp)
          have hgs := fun (v1 v2 : Value) => gr_set (gr_set (World.grownBy.refl w9 (some (w.heap.size + 1))) (p := ⟨w.heap.size + 1, 0, none⟩) (.inl rfl) v1) (p := ⟨w.heap.size + 1, 1, none⟩) (.inl rfl) v2
          have hk := fun v1 v2 => gr_row (gr_trans hwu hg9) (hgs v1 v2) (fun g e => by injection e; omega)
          replace hgs := hide hgs
          replace hk := hide hk
          clear hR
          go_wp2_with fail
          refine bodyPost_ret (v := .tuple #[.agg #[.slice A9 (okM TM).vs.length c9, .slice B9 (okM TM).fs.length d9],   .int .i64 (meshF TM)]) (by simp [results, Tryz.results21, go_sem, k0, k1, kf0, kf1]) rfl ?_
          rw [hTM.out]
          exact ⟨A9, c9, B9, d9, rfl, (hs9.gr (hgs.out _ _) (fun g e => by injection e; omega)).mono (by omega), (hf9.gr (hgs.out _ _) (fun g e => by injection e; omega)).mono (by omega), (o1.gr (hgs.out _ _) (fun g e => by injection e; omega)).mono (by omega), (o2.gr (hgs.out _ _) (fun g e => by injection e; omega)).mono (by omega), hk.out _ _⟩

end Go.Proofs.YtbpkkgeedkegcaaGreatDoor

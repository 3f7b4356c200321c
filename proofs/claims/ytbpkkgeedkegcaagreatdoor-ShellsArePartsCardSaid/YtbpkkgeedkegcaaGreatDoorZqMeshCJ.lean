/- Contracts of functions that this seat's laws reach, each: what one call returns and what it leaves in memory; no condition beyond each theorem's own hypotheses. -/
import Derived.Test.YtbpkkgeedkegcaaGreatDoorZqMeshCF
import Derived.Test.YtbpkkgeedkegcaaGreatDoorZqMapInt
import Derived.Test.YtbpkkgeedkegcaaGreatDoorZqSlices
set_option linter.unusedVariables false
set_option linter.unusedSimpArgs false
namespace Go.Proofs.YtbpkkgeedkegcaaGreatDoor
open Go.RowKit Go.Bl

/-- the new numbers behind k rounds, as a map -/
def atK (vs : List V3) (U : List Bool) (k : Nat) : Int → Option Int := fun z => if 0 ≤ z ∧ z < k ∧ U.getD z.toNat false = true then some (rkI vs U z.toNat) else none

theorem atK_zero (vs : List V3) (U : List Bool) : (fun _ => none) = atK vs U 0 := by funext z; unfold atK; rw [if_neg (by omega)]

theorem atK_yes {vs : List V3} {U : List Bool} {k : Nat} (hu : k < U.length) (h : U[k] = true) : (fun z => if z = (k : Int) then some (((keepTo vs U k).length : Nat) : Int) else atK vs U k z) = atK vs U (k + 1) := by
  funext z
  unfold atK
  by_cases e : z = (k : Int)
  · subst e
    rw [if_pos rfl, if_pos ⟨by omega, by omega, by rw [Int.toNat_natCast, List.getD_eq_getElem?_getD, List.getElem?_eq_getElem hu, Option.getD_some, h]⟩]
    rfl
  · rw [if_neg e]
    by_cases h1 : 0 ≤ z ∧ z < k ∧ U.getD z.toNat false = true
    · rw [if_pos h1, if_pos ⟨h1.1, by omega, h1.2.2⟩]
    · rw [if_neg h1, if_neg (fun h2 => h1 ⟨h2.1, by omega, h2.2.2⟩)]

theorem atK_no {vs : List V3} {U : List Bool} {k : Nat} (hu : k < U.length) (h : U[k] = false) : atK vs U k = atK vs U (k + 1) := by
  funext z
  unfold atK
  by_cases e : z = (k : Int)
  · subst e
    rw [if_neg (by omega), if_neg (fun h2 => by
      have := h2.2.2
      rw [Int.toNat_natCast, List.getD_eq_getElem?_getD, List.getElem?_eq_getElem hu, Option.getD_some, h] at this
      cases this)]
  · by_cases h1 : 0 ≤ z ∧ z < k ∧ U.getD z.toNat false = true
    · rw [if_pos h1, if_pos ⟨h1.1, by omega, h1.2.2⟩]
    · rw [if_neg h1, if_neg (fun h2 => h1 ⟨h2.1, by omega, h2.2.2⟩)]

theorem atK_get {vs : List V3} {fs : List Fc} {f : Fc} (hf : f ∈ fs) {i : Nat} (hi : i < vs.length) (h : f.a = i ∨ f.b = i ∨ f.c = i) : (atK vs (useL vs.length fs) vs.length i).getD 0 = rkI vs (useL vs.length fs) i := by
  unfold atK
  rw [if_pos ⟨by omega, by omega, by rw [Int.toNat_natCast]; exact useL_hit hf hi h⟩, Int.toNat_natCast]; rfl

theorem rkI_ok (vs : List V3) (U : List Bool) (k : Nat) (h : vs.length ≤ 1000) (hk : k ≤ vs.length) : okI (((keepTo vs U k).length : Nat) : Int) := okI_of (by have := keepTo_len vs U k; omega)

end Go.Proofs.YtbpkkgeedkegcaaGreatDoor

namespace Go.Proofs.YtbpkkgeedkegcaaGreatDoor
open Go.RowKit Go.Bl

/-- the fault of indices of faces, behind some -/
def ffF (n : Nat) (seen : List Int) : List Int → Int
  | [] => 0
  | k :: r => if k < 0 ∨ (n : Int) ≤ k then 8 else if memB seen k then 6 else ffF n (seen ++ [k]) r

def facesErr (n : Nat) (L : List Int) : Int := if L = [] then 8 else ffF n [] L

def ffK (n : Nat) (L : List Int) (k : Nat) : Int := ffF n (L.take k) (L.drop k)

theorem ffK_step {n : Nat} {L : List Int} {k : Nat} (h : k < L.length) : ffK n L k = if L[k] < 0 ∨ (n : Int) ≤ L[k] then 8 else if memB (L.take k) L[k] then 6 else ffK n L (k + 1) := by
  unfold ffK
  rw [List.drop_eq_getElem_cons h, List.take_succ_eq_append_getElem h]
  rfl

theorem ffK_end {n : Nat} {L : List Int} : ffK n L L.length = 0 := by unfold ffK; rw [List.drop_length]; rfl

theorem ffF_in {n : Nat} : ∀ {L seen : List Int}, ffF n seen L = 0 → ∀ i ∈ L, 0 ≤ i ∧ i < n
  | [], _, _ => by simp
  | k :: r, seen, h => by
    unfold ffF at h
    by_cases h1 : k < 0 ∨ (n : Int) ≤ k
    · rw [if_pos h1] at h; cases h
    · rw [if_neg h1] at h
      by_cases h2 : memB seen k = true
      · rw [if_pos h2] at h; cases h
      · rw [if_neg h2] at h
        intro i hi
        rcases List.mem_cons.1 hi with rfl | hi
        · omega
        · exact ffF_in h i hi

def seenI (n : Nat) (T : List Int) : List Bool := (List.range n).map fun (i : Nat) => memB T (i : Int)

theorem seenI_len (n : Nat) (T : List Int) : (seenI n T).length = n := by simp [seenI]

theorem seenI_get {n : Nat} {T : List Int} {i : Nat} (h : i < (seenI n T).length) : (seenI n T)[i] = memB T (i : Int) := by simp [seenI]

theorem seenI_nil (n : Nat) : seenI n [] = List.replicate n false := by
  apply List.ext_getElem <;> simp [seenI, memB]

theorem memB_snoc (T : List Int) (x y : Int) : memB (T ++ [x]) y = (memB T y || decide (y = x)) := by
  unfold memB; rw [Bool.eq_iff_iff]; simp

theorem seenI_set {n : Nat} {T : List Int} {k : Nat} (h : k < T.length) {i : Nat} (hi : T[k] = (i : Int)) : seenI n (T.take (k + 1)) = (seenI n (T.take k)).set i true := by
  apply List.ext_getElem
  · simp [seenI]
  · intro j h1 h2
    rw [List.getElem_set, seenI_get, List.take_succ_eq_append_getElem h, memB_snoc, hi]
    by_cases hj : i = j
    · subst hj; simp
    · rw [if_neg hj, seenI_get]
      have : ¬ ((j : Int) = (i : Int)) := by omega
      simp [this]

end Go.Proofs.YtbpkkgeedkegcaaGreatDoor

namespace Go.Proofs.YtbpkkgeedkegcaaGreatDoor
open Go.RowKit Go.Bl

/-- the faces of indices -/
def pickF (fs : List Fc) (L : List Int) : List Fc := L.map fun i => fs.getD i.toNat ⟨0, 0, 0⟩

theorem pickF_len (fs : List Fc) (L : List Int) : (pickF fs L).length = L.length := by simp [pickF]

theorem pickF_snoc {fs : List Fc} {L : List Int} {k : Nat} (h : k < L.length) {j : Nat} (hj : L[k] = (j : Int)) (hl : j < fs.length) : pickF fs (L.take (k + 1)) = pickF fs (L.take k) ++ [fs[j]] := by
  unfold pickF
  rw [take_snoc h, List.map_append, List.map_singleton, hj, Int.toNat_natCast, List.getD_eq_getElem?_getD, List.getElem?_eq_getElem hl, Option.getD_some]

theorem pickF_in {n : Nat} {fs : List Fc} {L : List Int} (h : ∀ f ∈ fs, inF n f = true) (hL : ∀ i ∈ L, 0 ≤ i ∧ i < fs.length) : ∀ f ∈ pickF fs L, inF n f = true := by
  intro f hf
  obtain ⟨i, hi, rfl⟩ := List.mem_map.1 hf
  obtain ⟨h0, h1⟩ := hL i hi
  have : i.toNat < fs.length := by omega
  rw [List.getD_eq_getElem?_getD, List.getElem?_eq_getElem this, Option.getD_some]
  exact h _ (List.getElem_mem _)

def partM (vs : List V3) (fs : List Fc) (L : List Int) : MeshV := trimM ⟨vs, pickF fs L⟩

end Go.Proofs.YtbpkkgeedkegcaaGreatDoor

namespace Go.Proofs.YtbpkkgeedkegcaaGreatDoor
open Go.RowKit Go.Bl

def partE (vs : List V3) (fs : List Fc) (L : List Int) : Int := if meshF ⟨vs, fs⟩ ≠ 0 then meshF ⟨vs, fs⟩ else if facesErr fs.length L ≠ 0 then facesErr fs.length L else meshF (partM vs fs L)

def partR (vs : List V3) (fs : List Fc) (L : List Int) : MeshV := if meshF ⟨vs, fs⟩ ≠ 0 then ⟨[], []⟩ else if facesErr fs.length L ≠ 0 then ⟨[], []⟩ else okM (partM vs fs L)

set_option maxHeartbeats 1000000 in
set_option maxRecDepth 100000 in
theorem part_bad0 (A : Option Addr) (c : Nat) (vs : List V3) (B : Option Addr) (d : Nat) (fs : List Fc) (F : Option Addr) (n0 e0 : Nat) (w : World) (hl : Sl w 0 A vs) (hfs : Sl w 0 B fs) (hM : meshF ⟨vs, fs⟩ ≠ 0) :
    Calls Tryz.prog 9 #[.agg #[.slice A vs.length c, .slice B fs.length d], .slice F n0 e0] w (SMeshE w.heap.size ⟨[], []⟩ (meshF ⟨vs, fs⟩) w) := by
  obtain ⟨W, hW⟩ : ∃ W, W = (w.alloc (.cells #[.slice A vs.length c, .slice B fs.length d] 29)).alloc (.cells #[.slice none 0 0, .slice none 0 0] 29) := ⟨_, rfl⟩
  have hWs : W.heap.size = w.heap.size + 1 + 1 := by rw [hW]; simp
  have hgW : w.grownBy W none := by rw [hW]; exact (by repeat (first | exact World.grownBy.refl _ _ | assumption | refine gr_alloc ?_ _ | (apply gr_tail; assumption) | refine gr_drewN ?_ _ | refine gr_drew ?_))
  have b0 : W.cell? ⟨w.heap.size, 0, none⟩ = some (.slice A vs.length c) := by rw [hW]; go_simp
  have b1 : W.cell? ⟨w.heap.size, 1, none⟩ = some (.slice B fs.length d) := by rw [hW]; go_simp
  have q0 : Cell W (w.heap.size + 1) 0 (.slice none 0 0) := by rw [hW]; exact ⟨by go_simp, by go_simp⟩
  have q1 : Cell W (w.heap.size + 1) 1 (.slice none 0 0) := by rw [hW]; exact ⟨by go_simp, by go_simp⟩
  replace hW := hide hW.symm
  replace hWs := hide hWs
  replace q0 := hide q0
  replace q1 := hide q1
  have hltw : w.heap.size < w.heap.size + 1 := Nat.lt_succ_self _
  have hC := checkMesh_any A c vs B d fs W ((hl.mono (Nat.zero_le _)).pure hgW) ((hfs.mono (Nat.zero_le _)).pure hgW)
  generalize meshF ⟨vs, fs⟩ = E at *
  have hb : (E != 0) = true := by simpa using hM
  clear hM
  replace hC := hide hC
  go_enter Tryz.func9, Tryz.ntmps9
  go_upto_region 1 with fail
  rw [hW.out]
  go_wp2_with fail
  refine hC.out.mono ?_
  rintro e w1 ⟨rfl, hg1⟩
  clear hC
  obtain ⟨k0, kf0⟩ := q0.out.gr hg1 (by simp)
  obtain ⟨k1, kf1⟩ := q1.out.gr hg1 (by simp)
  have hgX := gr_trans hgW hg1
  have hgs := fun (v1 v2 : Value) => gr_set (gr_set (World.grownBy.refl w1 (some (w.heap.size + 1))) (p := ⟨w.heap.size + 1, 0, none⟩) (.inl rfl) v1) (p := ⟨w.heap.size + 1, 1, none⟩) (.inl rfl) v2
  have hkk := fun v1 v2 => gr_row hgX (hgs v1 v2) (fun g e => by injection e; omega)
  clear q0 q1
  replace hgs := hide hgs
  replace hkk := hide hkk
  go_wp2_with fail
  exact bodyPost_ret (v := .tuple #[.agg #[.slice none 0 0, .slice none 0 0], .int .i64 E]) (by simp [results, Tryz.results9, go_sem, k0, k1, kf0, kf1]) rfl ⟨none, 0, none, 0, rfl, slNil _ _ _, slNil _ _ _, hkk.out _ _⟩

set_option maxHeartbeats 1000000 in
set_option maxRecDepth 100000 in
theorem part_nil (A : Option Addr) (c : Nat) (vs : List V3) (B : Option Addr) (d : Nat) (fs : List Fc) (F : Option Addr) (e0 : Nat) (w : World) (hl : Sl w 0 A vs) (hfs : Sl w 0 B fs) (hM : meshF ⟨vs, fs⟩ = 0) :
    Calls Tryz.prog 9 #[.agg #[.slice A vs.length c, .slice B fs.length d], .slice F 0 e0] w (SMeshE w.heap.size ⟨[], []⟩ 8 w) := by
  obtain ⟨W, hW⟩ : ∃ W, W = (w.alloc (.cells #[.slice A vs.length c, .slice B fs.length d] 29)).alloc (.cells #[.slice none 0 0, .slice none 0 0] 29) := ⟨_, rfl⟩
  have hWs : W.heap.size = w.heap.size + 1 + 1 := by rw [hW]; simp
  have hgW : w.grownBy W none := by rw [hW]; exact (by repeat (first | exact World.grownBy.refl _ _ | assumption | refine gr_alloc ?_ _ | (apply gr_tail; assumption) | refine gr_drewN ?_ _ | refine gr_drew ?_))
  have b0 : W.cell? ⟨w.heap.size, 0, none⟩ = some (.slice A vs.length c) := by rw [hW]; go_simp
  have b1 : W.cell? ⟨w.heap.size, 1, none⟩ = some (.slice B fs.length d) := by rw [hW]; go_simp
  have q0 : Cell W (w.heap.size + 1) 0 (.slice none 0 0) := by rw [hW]; exact ⟨by go_simp, by go_simp⟩
  have q1 : Cell W (w.heap.size + 1) 1 (.slice none 0 0) := by rw [hW]; exact ⟨by go_simp, by go_simp⟩
  replace hW := hide hW.symm
  replace hWs := hide hWs
  replace q0 := hide q0
  replace q1 := hide q1
  have hltw : w.heap.size < w.heap.size + 1 := Nat.lt_succ_self _
  have hC := checkMesh_any A c vs B d fs W ((hl.mono (Nat.zero_le _)).pure hgW) ((hfs.mono (Nat.zero_le _)).pure hgW)
  rw [hM] at hC
  clear hM
  replace hC := hide hC
  go_enter Tryz.func9, Tryz.ntmps9
  go_upto_region 1 with fail
  rw [hW.out]
  go_wp2_with fail
  refine hC.out.mono ?_
  rintro e w1 ⟨rfl, hg1⟩
  clear hC
  obtain ⟨k0, kf0⟩ := q0.out.gr hg1 (by simp)
  obtain ⟨k1, kf1⟩ := q1.out.gr hg1 (by simp)
  have hgX := gr_trans hgW hg1
  have hgs := fun (v1 v2 : Value) => gr_set (gr_set (World.grownBy.refl w1 (some (w.heap.size + 1))) (p := ⟨w.heap.size + 1, 0, none⟩) (.inl rfl) v1) (p := ⟨w.heap.size + 1, 1, none⟩) (.inl rfl) v2
  have hkk := fun v1 v2 => gr_row hgX (hgs v1 v2) (fun g e => by injection e; omega)
  clear q0 q1
  replace hgs := hide hgs
  replace hkk := hide hkk
  go_wp2_with fail
  exact bodyPost_ret (v := .tuple #[.agg #[.slice none 0 0, .slice none 0 0], .int .i64 8]) (by simp [results, Tryz.results9, go_sem, k0, k1, kf0, kf1]) rfl ⟨none, 0, none, 0, rfl, slNil _ _ _, slNil _ _ _, hkk.out _ _⟩

set_option maxHeartbeats 4000000 in
set_option maxRecDepth 100000 in
theorem part_run (A : Option Addr) (c : Nat) (vs : List V3) (B : Option Addr) (d : Nat) (fs : List Fc) (F : Option Addr) (e0 : Nat) (L : List Int) (w : World) (hl : Sl w 0 A vs) (hfs : Sl w 0 B fs) (hL : Sl w 0 F L) (hM : meshF ⟨vs, fs⟩ = 0) (hLl : L.length ≤ 2000) (hL0 : L ≠ []) :
    Calls Tryz.prog 9 #[.agg #[.slice A vs.length c, .slice B fs.length d], .slice F L.length e0] w (SMeshE w.heap.size (partR vs fs L) (partE vs fs L) w) := by
  obtain ⟨-, hvl, hfl, -, hv⟩ := right_bd hM
  have hin := right_in hM
  obtain ⟨W, hW⟩ : ∃ W, W = (w.alloc (.cells #[.slice A vs.length c, .slice B fs.length d] 29)).alloc (.cells #[.slice none 0 0, .slice none 0 0] 29) := ⟨_, rfl⟩
  have hWs : W.heap.size = w.heap.size + 1 + 1 := by rw [hW]; simp
  have hgW : w.grownBy W none := by rw [hW]; exact (by repeat (first | exact World.grownBy.refl _ _ | assumption | refine gr_alloc ?_ _ | (apply gr_tail; assumption) | refine gr_drewN ?_ _ | refine gr_drew ?_))
  have b0 : W.cell? ⟨w.heap.size, 0, none⟩ = some (.slice A vs.length c) := by rw [hW]; go_simp
  have b1 : W.cell? ⟨w.heap.size, 1, none⟩ = some (.slice B fs.length d) := by rw [hW]; go_simp
  have q0 : Cell W (w.heap.size + 1) 0 (.slice none 0 0) := by rw [hW]; exact ⟨by go_simp, by go_simp⟩
  have q1 : Cell W (w.heap.size + 1) 1 (.slice none 0 0) := by rw [hW]; exact ⟨by go_simp, by go_simp⟩
  replace hW := hide hW.symm
  replace hWs := hide hWs
  replace q0 := hide q0
  replace q1 := hide q1
  have hltw : w.heap.size < w.heap.size + 1 := Nat.lt_succ_self _
  have hC := checkMesh_any A c vs B d fs W ((hl.mono (Nat.zero_le _)).pure hgW) ((hfs.mono (Nat.zero_le _)).pure hgW)
  rw [hM] at hC
  have hE : Hid (facesErr fs.length L = ffK fs.length L 0) := by rw [Hid]; unfold facesErr ffK; rw [if_neg hL0]; simp
  have hPE : Hid (partE vs fs L = if ffK fs.length L 0 ≠ 0 then ffK fs.length L 0 else meshF (partM vs fs L)) := by rw [Hid]; unfold partE; rw [if_neg (by simp [hM]), hE.out]
  have hPR : Hid (partR vs fs L = if ffK fs.length L 0 ≠ 0 then ⟨[], []⟩ else okM (partM vs fs L)) := by rw [Hid]; unfold partR; rw [if_neg (by simp [hM]), hE.out]
  have hIn : Hid (ffK fs.length L 0 = 0 → ∀ i ∈ L, 0 ≤ i ∧ i < fs.length) := fun h => ffF_in (by simpa [ffK] using h)
  have h00 : (L.length == 0) = false := by simpa using hL0
  have h01 : ((L.length : Int) == 0) = false := by simpa using hL0
  clear hM hE hL0
  replace hC := hide hC
  replace hin := hide hin
  have hi0 := info_parts info_bool
  go_enter Tryz.func9, Tryz.ntmps9
  go_upto_region 1 with fail
  rw [hW.out]
  go_wp2_with fail
  refine hC.out.mono ?_
  rintro e w1 ⟨rfl, hg1⟩
  clear hC
  obtain ⟨i0, hi, hz, hi1, hi2⟩ := hi0
  obtain ⟨w2, hrun, hoS, hg2⟩ := run_makeOwn (P := Tryz.prog) w1 66 4 i0 _ false Tryz.underlying66 hi hz hi1 rfl rfl .i64 .i64 fs.length (by rw [hi2]; omega) (by simp [maxLen]; omega)
  clear hi hz hi1 hi2 i0
  rw [← seenI_nil] at hoS
  have hgg := gr_trans hg1 hg2
  have b1a := hg1.k b1
  have b0b := hgg.k b0
  have b1b := hgg.k b1
  obtain ⟨gs, hgs⟩ : ∃ g, g = w1.heap.size := ⟨_, rfl⟩
  rw [← hgs] at hrun hoS
  have hgs1 : gs < w2.heap.size := (hoS.blk_lt (g := gs) rfl).2
  have hgs0 : W.heap.size ≤ gs := by rw [hgs]; exact hg1.size
  replace hgs := hide hgs
  go_upto_region 7 with fail
  clear hrun b1a hg1 hg2
  obtain ⟨go, hgo⟩ : ∃ g, g = w2.heap.size := ⟨_, rfl⟩
  obtain ⟨W3, hW3⟩ : ∃ x, x = w2.alloc (.cells #[.slice A vs.length c, .slice none 0 0] 29) := ⟨_, rfl⟩
  have hq0 := gr_alloc (World.grownBy.refl w2 none) (.cells [.slice A vs.length c, .slice none 0 0].toArray 29)
  have hO : Box W3 go 29 [.slice A vs.length c, .slice none 0 0] := by rw [hW3, hgo]; exact Box.new w2 [.slice A vs.length c, .slice none 0 0] 29
  have hg3 : W.grownBy W3 none := by rw [hW3]; exact gr_trans hgg hq0
  have hoV : Own W3 W.heap.size 4 (some ⟨gs, 0, none⟩) fs.length (seenI fs.length (L.take 0)) := by rw [hW3]; exact (hoS.pure hq0).lower hgs0
  have hgo2 : Hid (W.heap.size ≤ go) := by rw [Hid, hgo]; omega
  have hsgo : gs < go := by omega
  have hgwn : Hid (w.heap.size + 1 < go) := by have := hgo2.out; have := hWs.out; simp only [Hid]; omega
  replace hW3 := hide hW3.symm
  replace hgo := hide hgo.symm
  clear hq0 hoS
  go_upto_region 8 with fail
  rw [hW3.out, hgo.out]
  clear b0b b1b hgg hgs1
  go_wp2_with fail
  go_loopw [30] (fun i wr => ∃ (k : Nat) (B' : Option Addr) (d' : Nat), k ≤ L.length ∧ i = .int .i64 k ∧ Box wr go 29 [.slice A vs.length c, .slice B' k d'] ∧ Own wr W.heap.size 54 B' d' (pickF fs (L.take k)) ∧ Own wr W.heap.size 4 (some ⟨gs, 0, none⟩) fs.length (seenI fs.length (L.take k)) ∧ W.grownBy wr none ∧ Hid (ffK fs.length L 0 = ffK fs.length L k)) (fun i _ => L.length - (intOf i).toNat)
  case atStart => exact ⟨0, none, 0, by omega, rfl, hO, Own.nil _ _ _, hoV, hg3, rfl⟩
  case round =>
    clear hO hoV hg3
    obtain ⟨k, B', d', hk, rfl, hO, hF, hoV, hg, hX⟩ := hrel
    obtain ⟨FL, hFL⟩ : ∃ FL, FL = pickF fs (L.take k) := ⟨_, rfl⟩
    rw [← hFL] at hF
    have hFl : Hid (FL.length = k) := by rw [Hid, hFL, pickF_len, List.length_take, Nat.min_eq_left hk]
    have hgw := gr_trans hgW hg
    have c1' := hg.k b1
    have hlt0 : w.heap.size < wr.heap.size := cell_lt c1'
    by_cases hlt : k < L.length
    · obtain ⟨g, o, cx, rfl, hb0, hb1, rfl, hc⟩ := (hL.pure hgw).at_ (by decide) hlt
      have c0 : wr.cell? ⟨g, o + k, none⟩ = some (.int .i64 L[k]) := by have := hc 0 _ rfl; rwa [show Enc.sz Int = 1 from rfl, Nat.mul_one] at this
      clear hc
      have hst := hide (ffK_step (n := fs.length) hlt)
      by_cases hx0 : L[k] < 0
      · have hF8 : ffK fs.length L 0 = 8 := by rw [hX.out, hst.out, if_pos (.inl hx0)]
        rw [hF8] at hPE hPR
        replace hPE : Hid (partE vs fs L = 8) := by rw [Hid, hPE.out]; rfl
        replace hPR : Hid (partR vs fs L = ⟨[], []⟩) := by rw [Hid, hPR.out]; rfl
        generalize L[k] = x at *
        rw [hPE.out, hPR.out]
        clear hF8 hX hst
        obtain ⟨k0, kf0⟩ := q0.out.gr hg (by simp)
        obtain ⟨k1, kf1⟩ := q1.out.gr hg (by simp)
        have hgX := gr_trans hgW hg
        have hgs := fun (v1 v2 : Value) => gr_set (gr_set (World.grownBy.refl wr (some (w.heap.size + 1))) (p := ⟨w.heap.size + 1, 0, none⟩) (.inl rfl) v1) (p := ⟨w.heap.size + 1, 1, none⟩) (.inl rfl) v2
        have hkk := fun v1 v2 => gr_row hgX (hgs v1 v2) (fun g e => by injection e; omega)
        clear q0 q1
        replace hgs := hide hgs
        replace hkk := hide hkk
        go_wp2_with fail
        exact bodyPost_ret (v := .tuple #[.agg #[.slice none 0 0, .slice none 0 0], .int .i64 8]) (by simp [results, Tryz.results9, go_sem, k0, k1, kf0, kf1]) rfl ⟨none, 0, none, 0, rfl, slNil _ _ _, slNil _ _ _, hkk.out _ _⟩
      · by_cases hx1 : (fs.length : Int) ≤ L[k]
        · have hF8 : ffK fs.length L 0 = 8 := by rw [hX.out, hst.out, if_pos (.inr hx1)]
          rw [hF8] at hPE hPR
          replace hPE : Hid (partE vs fs L = 8) := by rw [Hid, hPE.out]; rfl
          replace hPR : Hid (partR vs fs L = ⟨[], []⟩) := by rw [Hid, hPR.out]; rfl
          generalize L[k] = x at *
          rw [hPE.out, hPR.out]
          clear hF8 hX hst
          obtain ⟨k0, kf0⟩ := q0.out.gr hg (by simp)
          obtain ⟨k1, kf1⟩ := q1.out.gr hg (by simp)
          have hgX := gr_trans hgW hg
          have hgs := fun (v1 v2 : Value) => gr_set (gr_set (World.grownBy.refl wr (some (w.heap.size + 1))) (p := ⟨w.heap.size + 1, 0, none⟩) (.inl rfl) v1) (p := ⟨w.heap.size + 1, 1, none⟩) (.inl rfl) v2
          have hkk := fun v1 v2 => gr_row hgX (hgs v1 v2) (fun g e => by injection e; omega)
          clear q0 q1
          replace hgs := hide hgs
          replace hkk := hide hkk
          go_wp2_with fail
          exact bodyPost_ret (v := .tuple #[.agg #[.slice none 0 0, .slice none 0 0], .int .i64 8]) (by simp [results, Tryz.results9, go_sem, k0, k1, kf0, kf1]) rfl ⟨none, 0, none, 0, rfl, slNil _ _ _, slNil _ _ _, hkk.out _ _⟩
        · obtain ⟨j, ej⟩ := Int.eq_ofNat_of_zero_le (Int.not_lt.1 hx0)
          have hj : j < fs.length := by omega
          have hlS : j < (seenI fs.length (L.take k)).length := by rw [seenI_len]; exact hj
          have s0 := hoV.cell_bool hlS
          have s1 := hoV.frozen j
          rw [seenI_get] at s0
          obtain ⟨bb, hbb⟩ : ∃ bb, memB (L.take k) (j : Int) = bb := ⟨_, rfl⟩
          rw [hbb] at s0
          have hX2 : Hid (ffK fs.length L 0 = if bb then 6 else ffK fs.length L (k + 1)) := by rw [Hid, hX.out, hst.out, if_neg (by omega), ej, hbb]
          cases bb
          · have hsn := pickF_snoc (fs := fs) hlt ej hj
            rw [← hFL] at hsn
            have hse := seenI_set (n := fs.length) hlt ej
            have hoV2 := hoV.set_bool hlS true
            rw [← hse] at hoV2
            obtain ⟨gf, of, rfl, -, hbf, hcc⟩ := hfs.fc (by omega)
            obtain ⟨x0, x1, x2⟩ := hcc j hj
            clear hcc
            rw [ej] at c0 hx0 hx1
            clear ej
            generalize fs[j] = f at *
            have hX3 : Hid (ffK fs.length L 0 = ffK fs.length L (k + 1)) := by rw [Hid, hX2.out]; rfl
            have hgst := gr_set (World.grownBy.refl wr (some gs)) (p := ⟨gs, j, none⟩) (.inl rfl) (.bool true)
            have hO2 := hO.gr hgst (by intro e; injection e; omega)
            have hF2 := hF.ne hgst (fun x hx e => hoV.ne_own hF (by decide) (x := gs) rfl (hx.trans e.symm))
            have hwgs : w.heap.size < gs := by have := hWs.out; omega
            have hgr2 := gr_set hg (p := ⟨gs, j, none⟩) (.inr hgs0) (.bool true)
            have hgw2 := gr_trans hgW hgr2
            have y0 := hgw2.k x0
            have y1 := hgw2.k x1
            have y2 := hgw2.k x2
            have y3 := hgr2.k b1
            have hsz : w.heap.size ≤ wr.heap.size := hgw.size
            clear hX hX2 hst hse hlS hbb
            replace hsn := hide hsn
            replace hFL := hide hFL
            replace hF2 := hide hF2
            replace hO2 := hide hO2
            replace hoV2 := hide hoV2
            replace hgr2 := hide hgr2
            clear hoV hF
            go_upto_region 16 with fail
            obtain ⟨wn, hwn⟩ : ∃ x, x = wr.setCell ⟨gs, j, none⟩ (.bool true) := ⟨_, rfl⟩
            rw [← hwn] at hF2 hO2 hoV2 hgr2 y0 y1 y2 y3 hgw2 ⊢
            clear hwn hgst
            have hF := hF2.out
            have hO := hO2.out
            have hoV := hoV2.out
            have hg := hgr2.out
            clear hF2 hO2 hoV2 hgr2
            have hB : ∀ wx, wn.grownBy wx none → wx.cell? ⟨go, 1, none⟩ = some (.slice B' k d') ∧ wx.cell? ⟨w.heap.size, 1, none⟩ = some (.slice (some ⟨gf, of, none⟩) fs.length d) ∧ wx.cell? ⟨gf, of + j * 3, none⟩ = some (.int .i64 f.a) ∧ wx.cell? ⟨gf, of + j * 3 + 1, none⟩ = some (.int .i64 f.b) ∧ wx.cell? ⟨gf, of + j * 3 + 2, none⟩ = some (.int .i64 f.c) := fun wx hx => ⟨hx.k (hO.c 1 rfl).1, hx.k y3, hx.k y0, hx.k y1, hx.k y2⟩
            replace hB := hide hB
            obtain ⟨lo, hlo'⟩ : ∃ lo, lo = W.heap.size := ⟨_, rfl⟩
            rw [← hlo'] at hF hoV hgo2
            have hlo : Hid (lo ≤ wn.heap.size ∧ W.heap.size ≤ lo) := ⟨by rw [hlo']; exact hg.size, by omega⟩
            clear hx0 hx1 c0 c1' s0 s1 hgw2 hgw
            replace hlo' := hide hlo'
            refine wp_region_tree (fun wx => wn.grownBy wx none) [2, 1, 2, 1, 2, 2, 1, 0, 0, 2, 0] (.bl 0 (.bl 1 (.bl 2 (.bl 3 (.bl 4 (.bl 5 (.bl 6 (.ef 7 (.ef 8 (.bl 9 (.ef 10 .done))))))))))) (by kernel_rfl) (by kernel_rfl) (gr_drew (World.grownBy.refl _ _)) ?_
            obtain ⟨w1, hw1⟩ : ∃ x, x = (wn).drew := ⟨_, rfl⟩
            rw [← hw1]
            have hgw1 : (wn).grownBy w1 none := by rw [hw1]; exact gr_drew (World.grownBy.refl _ _)
            clear hw1
            refine tree_p rfl rfl rfl rfl _ rfl (by simp) (fun K hK => ?_)
            apply Exists.intro
            refine ⟨fun wq K' hK' => ?_, ?_⟩
            · go_wp2_with fail
              exact hK'
            go_simp
            refine hK _ ?_
            clear hK K
            refine tree_b rfl rfl rfl rfl _ rfl (by simp) (fun K hK => ?_)
            apply Exists.intro
            refine ⟨fun wq hq K' hK' => ?_, ?_⟩
            · obtain ⟨c0, c1, c2, c3, c4⟩ := hB.out wq hq
              go_wp2_with fail
              exact hK'
            go_simp
            refine hK _ ?_
            clear hK K
            refine tree_p rfl rfl rfl rfl _ rfl (by simp) (fun K hK => ?_)
            apply Exists.intro
            refine ⟨fun wq K' hK' => ?_, ?_⟩
            · go_wp2_with fail
              exact hK'
            go_simp
            refine hK _ ?_
            clear hK K
            refine tree_b rfl rfl rfl rfl _ rfl (by simp) (fun K hK => ?_)
            apply Exists.intro
            refine ⟨fun wq hq K' hK' => ?_, ?_⟩
            · obtain ⟨c0, c1, c2, c3, c4⟩ := hB.out wq hq
              go_wp2_with fail
              exact hK'
            go_simp
            refine hK _ ?_
            clear hK K
            refine tree_p rfl rfl rfl rfl _ rfl (by simp) (fun K hK => ?_)
            apply Exists.intro
            refine ⟨fun wq K' hK' => ?_, ?_⟩
            · go_wp2_with fail
              exact hK'
            go_simp
            refine hK _ ?_
            clear hK K
            refine tree_p rfl rfl rfl rfl _ rfl (by simp) (fun K hK => ?_)
            apply Exists.intro
            refine ⟨fun wq K' hK' => ?_, ?_⟩
            · go_wp2_with fail
              exact hK'
            go_simp
            refine hK _ ?_
            clear hK K
            refine tree_b rfl rfl rfl rfl _ rfl (by simp) (fun K hK => ?_)
            apply Exists.intro
            refine ⟨fun wq hq K' hK' => ?_, ?_⟩
            · obtain ⟨c0, c1, c2, c3, c4⟩ := hB.out wq hq
              go_wp2_with fail
              exact hK'
            go_simp
            refine hK _ ?_
            clear hK K
            refine tree_e rfl rfl (fun K hK => ?_)
            go_wp2_with fail
            try go_simp
            refine hK _ _ (gr_alloc (gr_trans hgw1 (World.grownBy.refl _ _)) _) ?_
            clear hK K
            obtain ⟨w7, hw7⟩ : ∃ x, x = (w1).alloc (.cells [.int .i64 f.a, .int .i64 f.b, .int .i64 f.c].toArray 54) := ⟨_, rfl⟩
            have hg7 : (w1).grownBy w7 none := by rw [hw7]; exact gr_alloc (World.grownBy.refl _ _) _
            have hb7 : Box w7 (w1).heap.size 54 [.int .i64 f.a, .int .i64 f.b, .int .i64 f.c] := by rw [hw7]; exact Box.new _ _ _
            rw [← hw7]
            clear hw7
            have hs7 := hb7.sl (l := [f]) (lo := 0) ⟨_, [], by simp, rfl, rfl⟩ (Nat.zero_le _) (by simp [maxLen])
            have hq7 := gr_trans hgw1 hg7
            refine tree_e0 (by kernel_rfl) rfl rfl (fun K hK => ?_)
            have hF7 := hF.pure hq7
            have hO7 := hO.pure hq7
            obtain ⟨i0, hi, hz, hi1, hi2⟩ := info_parts info_face
            refine wp_pushAt (α := Fc) _ (.tmp 53) (.tmp 59) _ rfl lo 54 i0 _ 24 Tryz.underlying27 hi hz hi1 hi2 rfl _ _ _ FL rfl hFl.out.symm hF7 0 ⟨_, 0, none⟩ 1 1 [f] rfl rfl hs7 ?_ ?_ ?_ ?_
            · rw [hFl.out]; simp; omega
            · rw [hFl.out]; simp [maxLen]; omega
            · have := hq7.size; have := hlo.out; omega
            intro B5 d5 w8 hF8 hG8
            have hO8 := hO7.gr hG8.1 (hO7.ne_own hF7 (by decide))
            rw [show (FL ++ [f]).length = k + 1 by rw [List.length_append, hFl.out]; rfl]
            try go_simp
            refine hK _ _ trivial ?_
            clear hK K
            refine tree_p rfl rfl rfl rfl _ rfl (by simp) (fun K hK => ?_)
            apply Exists.intro
            refine ⟨fun wq K' hK' => ?_, ?_⟩
            · go_wp2_with fail
              exact hK'
            go_simp
            refine hK _ ?_
            clear hK K
            refine tree_e0 (by kernel_rfl) rfl rfl (fun K hK => ?_)
            obtain ⟨o0, p0⟩ := hO8.c 0 rfl
            obtain ⟨o1, p1⟩ := hO8.c 1 rfl
            have hO9 := hide (hO8.set_ 1 (.slice B5 (k + 1) d5) (by simp))
            have hF9 := hide (hF8.set_other (i := 1) (.slice B5 (k + 1) d5) (hO8.ne_own hF8 (by decide)))
            have hoV8 := (hoV.pure hq7).ne hG8.1 (fun x hx => (hoV.pure hq7).ne_own hF7 (by decide) hx)
            have hoV9 := hide (hoV8.set_other (i := 1) (.slice B5 (k + 1) d5) (hO8.ne_own hoV8 (by decide)))
            have hg8 : W.grownBy w8 none := gr_row (gr_trans hg hq7) hG8.1 (fun x e => by have := (hF7.blk_lt e).1; have := hlo.out; omega)
            have hg9 := hide (gr_set hg8 (p := ⟨go, 1, none⟩) (.inr (by have := hgo2.out; simp only; omega)) (.slice B5 (k + 1) d5))
            have hG9 := hide hG8
            clear hoV8 hg8 hF8 hG8
            replace hO8 := hide hO8
            go_wp2_with fail
            try go_simp
            refine hK _ _ trivial ?_
            clear hK K
            refine tree_done ?_
            go_wp2_with fail
            replace hlo' := hlo'.out
            refine ⟨⟨k + 1, B5, d5, by omega, by go_num, hO9.out, by rw [hsn.out, ← hlo']; exact hF9.out, by rw [← hlo']; exact hoV9.out, hg9.out, hX3⟩, by simp [intOf]; omega⟩
          · have hF8 : ffK fs.length L 0 = 6 := by rw [hX2.out]; rfl
            rw [hF8] at hPE hPR
            replace hPE : Hid (partE vs fs L = 6) := by rw [Hid, hPE.out]; rfl
            replace hPR : Hid (partR vs fs L = ⟨[], []⟩) := by rw [Hid, hPR.out]; rfl
            rw [ej] at c0 hx0 hx1
            rw [hPE.out, hPR.out]
            clear hF8 hX hX2 hst hlS hbb ej
            obtain ⟨k0, kf0⟩ := q0.out.gr hg (by simp)
            obtain ⟨k1, kf1⟩ := q1.out.gr hg (by simp)
            have hgX := gr_trans hgW hg
            have hgs := fun (v1 v2 : Value) => gr_set (gr_set (World.grownBy.refl wr (some (w.heap.size + 1))) (p := ⟨w.heap.size + 1, 0, none⟩) (.inl rfl) v1) (p := ⟨w.heap.size + 1, 1, none⟩) (.inl rfl) v2
            have hkk := fun v1 v2 => gr_row hgX (hgs v1 v2) (fun g e => by injection e; omega)
            clear q0 q1
            replace hgs := hide hgs
            replace hkk := hide hkk
            go_wp2_with fail
            exact bodyPost_ret (v := .tuple #[.agg #[.slice none 0 0, .slice none 0 0], .int .i64 6]) (by simp [results, Tryz.results9, go_sem, k0, k1, kf0, kf1]) rfl ⟨none, 0, none, 0, rfl, slNil _ _ _, slNil _ _ _, hkk.out _ _⟩
    · have hkn : k = L.length := by omega
      subst hkn
      have hF8 : ffK fs.length L 0 = 0 := by rw [hX.out]; exact ffK_end
      have hLi := hIn.out hF8
      rw [hF8] at hPE hPR
      replace hPE : Hid (partE vs fs L = meshF (partM vs fs L)) := by rw [Hid, hPE.out]; rfl
      replace hPR : Hid (partR vs fs L = okM (partM vs fs L)) := by rw [Hid, hPR.out]; rfl
      rw [hFL, List.take_length] at hF
      obtain ⟨o0, p0⟩ := hO.c 0 rfl
      obtain ⟨o1, p1⟩ := hO.c 1 rfl
      have hSV := hl.pure hgw
      have hSF := hF.sl.mono (Nat.zero_le _)
      have hinp := pickF_in hin.out hLi
      have hffl : (pickF fs L).length ≤ 2000 := by rw [pickF_len]; exact hLl
      clear hF8 hX hFL hFl hO hF hoV hk hLi
      obtain ⟨PF, hPF⟩ : ∃ PF, PF = pickF fs L := ⟨_, rfl⟩
      have hPM : Hid (partM vs fs L = trimM ⟨vs, PF⟩) := by rw [Hid, hPF]; rfl
      have hPl : L.length = PF.length := by rw [hPF, pickF_len]
      rw [← hPF] at hSF hinp hffl
      rw [hPl] at o1
      clear hPl hPF
      have hU := trimmed_any A c vs B' d' PF wr hSV hSF hinp hvl hffl
      obtain ⟨TM, hTM⟩ : ∃ TM, TM = trimM ⟨vs, PF⟩ := ⟨_, rfl⟩
      rw [← hTM] at hU
      replace hU := hide hU
      obtain ⟨k0, kf0⟩ := q0.out.gr hg (by simp)
      obtain ⟨k1, kf1⟩ := q1.out.gr hg (by simp)
      have hwr := gr_trans hgW hg
      have hle : w.heap.size + 1 < W.heap.size := by have := hWs.out; omega
      have hlw := hg.size
      replace hTM : Hid (partM vs fs L = TM) := by rw [Hid, hTM]; exact hPM.out
      clear hPM hSV hSF hinp
      go_wp2_with fail
      refine hU.out.mono ?_
      rintro e wu ⟨Au, cu, Bu, du, rfl, huV, huF, hgu⟩
      have hR := checked_any Au cu TM.vs Bu du TM.fs wu W.heap.size (huV.lower hlw).sl (huF.lower hlw).sl
      replace hR := hide hR
      obtain ⟨k0, kf0⟩ := Cell.gr ⟨k0, kf0⟩ hgu (by simp)
      obtain ⟨k1, kf1⟩ := Cell.gr ⟨k1, kf1⟩ hgu (by simp)
      have hwu := gr_trans hwr hgu
      clear huV huF hU
      go_wp2_with fail
      refine hR.out.mono ?_
      rintro e w9 ⟨A9, c9, B9, d9, rfl, hs9, hf9, hg9⟩
      obtain ⟨k0, kf0⟩ := Cell.gr ⟨k0, kf0⟩ hg9 (by simp)
      obtain ⟨k1, kf1⟩ := Cell.gr ⟨k1, kf1⟩ hg9 (by simp)
      have hgs := fun (v1 v2 : Value) => gr_set (gr_set (World.grownBy.refl w9 (some (w.heap.size + 1))) (p := ⟨w.heap.size + 1, 0, none⟩) (.inl rfl) v1) (p := ⟨w.heap.size + 1, 1, none⟩) (.inl rfl) v2
      have hk := fun v1 v2 => gr_row (gr_trans hwu hg9) (hgs v1 v2) (fun g e => by injection e; omega)
      replace hgs := hide hgs
      replace hk := hide hk
      clear hR
      go_wp2_with fail
      refine bodyPost_ret (v := .tuple #[.agg #[.slice A9 (okM TM).vs.length c9, .slice B9 (okM TM).fs.length d9],   .int .i64 (meshF TM)]) (by simp [results, Tryz.results9, go_sem, k0, k1, kf0, kf1]) rfl ?_
      rw [hPR.out, hPE.out, hTM.out]
      exact ⟨A9, c9, B9, d9, rfl, (hs9.gr (hgs.out _ _) (fun g e => by injection e; omega)).mono (by omega), (hf9.gr (hgs.out _ _) (fun g e => by injection e; omega)).mono (by omega), hk.out _ _⟩

theorem partGo_any (A : Option Addr) (c : Nat) (vs : List V3) (B : Option Addr) (d : Nat) (fs : List Fc) (F : Option Addr) (e0 : Nat) (L : List Int) (w : World) (hl : Sl w 0 A vs) (hfs : Sl w 0 B fs) (hL : Sl w 0 F L) (hLl : L.length ≤ 2000) :
    Calls Tryz.prog 9 #[.agg #[.slice A vs.length c, .slice B fs.length d], .slice F L.length e0] w (SMeshE w.heap.size (partR vs fs L) (partE vs fs L) w) := by
  by_cases hM : meshF ⟨vs, fs⟩ = 0
  · by_cases h0 : L = []
    · subst h0
      have := part_nil A c vs B d fs F e0 w hl hfs hM
      have e1 : partR vs fs [] = ⟨[], []⟩ := by unfold partR; rw [if_neg (by simp [hM]), if_pos (by simp [facesErr])]
      have e2 : partE vs fs [] = 8 := by unfold partE; rw [if_neg (by simp [hM]), if_pos (by simp [facesErr])]; simp [facesErr]
      rw [e1, e2]
      exact this
    · exact part_run A c vs B d fs F e0 L w hl hfs hL hM hLl h0
  · unfold partR partE
    rw [if_pos hM, if_pos hM]
    exact part_bad0 A c vs B d fs F _ e0 w hl hfs hM

end Go.Proofs.YtbpkkgeedkegcaaGreatDoor

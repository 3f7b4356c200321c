/- Contracts of functions that this seat's laws reach, each: what one call returns and what it leaves in memory; no condition beyond each theorem's own hypotheses. -/
import Derived.Test.YtbgailgclflaeaaGreatDoorMMeshCF
import Derived.Test.YtbgailgclflaeaaGreatDoorMMapInt
import Derived.Test.YtbgailgclflaeaaGreatDoorMSlices
import Derived.Test.YtbgailgclflaeaaGreatDoorMGpLib
import Derived.Test.YtbgailgclflaeaaGreatDoorMMeshBG
set_option linter.unusedVariables false
set_option linter.unusedSimpArgs false
namespace Go.Proofs.YtbgailgclflaeaaGreatDoor
open Go.RowKit Go.Bl

/-- the new numbers behind k rounds, as a map -/
def atK (vs : List V3) (U : List Bool) (k : Nat) : Int → Option Int := fun z => if 0 ≤ z ∧ z < k ∧ U.getD z.toNat false = true then some (rkI vs U z.toNat) else none
theorem atK_zero (vs : List V3) (U : List Bool) : (fun _ => none) = atK vs U 0 := by funext z; unfold atK; rw [if_neg (by omega)]
theorem atK_yes {vs : List V3} {U : List Bool} {k : Nat} (hu : k < U.length) (h : U[k] = true) : (fun z => if z = (k : Int) then some (((keepTo vs U k).length : Nat) : Int) else atK vs U k z) = atK vs U (k + 1) := by
  funext z
  unfold atK
  by_cases e : z = (k : Int)
  · subst e
    rw [if_pos rfl, if_pos ⟨by omega, by omega, by rw [Int.toNat_natCast, List.getD_eq_getElem?_getD, List.getElem?_eq_getElem hu, Option.getD_some, h]⟩]
    rfl
  · rw [if_neg e]
    by_cases h1 : 0 ≤ z ∧ z < k ∧ U.getD z.toNat false = true
    · rw [if_pos h1, if_pos ⟨h1.1, by omega, h1.2.2⟩]
    · rw [if_neg h1, if_neg (fun h2 => h1 ⟨h2.1, by omega, h2.2.2⟩)]
theorem atK_no {vs : List V3} {U : List Bool} {k : Nat} (hu : k < U.length) (h : U[k] = false) : atK vs U k = atK vs U (k + 1) := by
  funext z
  unfold atK
  by_cases e : z = (k : Int)
  · subst e
    rw [if_neg (by omega), if_neg (fun h2 => by
      have := h2.2.2
      rw [Int.toNat_natCast, List.getD_eq_getElem?_getD, List.getElem?_eq_getElem hu, Option.getD_some, h] at this
      cases this)]
  · by_cases h1 : 0 ≤ z ∧ z < k ∧ U.getD z.toNat false = true
    · rw [if_pos h1, if_pos ⟨h1.1, by omega, h1.2.2⟩]
    · rw [if_neg h1, if_neg (fun h2 => h1 ⟨h2.1, by omega, h2.2.2⟩)]
theorem atK_get {vs : List V3} {fs : List Fc} {f : Fc} (hf : f ∈ fs) {i : Nat} (hi : i < vs.length) (h : f.a = i ∨ f.b = i ∨ f.c = i) : (atK vs (useL vs.length fs) vs.length i).getD 0 = rkI vs (useL vs.length fs) i := by
  unfold atK
  rw [if_pos ⟨by omega, by omega, by rw [Int.toNat_natCast]; exact useL_hit hf hi h⟩, Int.toNat_natCast]; rfl

theorem rkI_ok (vs : List V3) (U : List Bool) (k : Nat) (h : vs.length ≤ 1000) (hk : k ≤ vs.length) : okI (((keepTo vs U k).length : Nat) : Int) := okI_of (by have := keepTo_len vs U k; omega)

end Go.Proofs.YtbgailgclflaeaaGreatDoor

namespace Go.Proofs.YtbgailgclflaeaaGreatDoor
open Go.RowKit Go.Bl

/-- the fault of indices of faces, behind some -/
def ffF (n : Nat) (seen : List Int) : List Int → Int
  | [] => 0
  | k :: r => if k < 0 ∨ (n : Int) ≤ k then 8 else if memB seen k then 6 else ffF n (seen ++ [k]) r
def facesErr (n : Nat) (L : List Int) : Int := if L = [] then 8 else ffF n [] L
def ffK (n : Nat) (L : List Int) (k : Nat) : Int := ffF n (L.take k) (L.drop k)
theorem ffK_step {n : Nat} {L : List Int} {k : Nat} (h : k < L.length) : ffK n L k = if L[k] < 0 ∨ (n : Int) ≤ L[k] then 8 else if memB (L.take k) L[k] then 6 else ffK n L (k + 1) := by
  unfold ffK
  rw [List.drop_eq_getElem_cons h, List.take_succ_eq_append_getElem h]
  rfl
theorem ffK_end {n : Nat} {L : List Int} : ffK n L L.length = 0 := by unfold ffK; rw [List.drop_length]; rfl
theorem ffF_in {n : Nat} : ∀ {L seen : List Int}, ffF n seen L = 0 → ∀ i ∈ L, 0 ≤ i ∧ i < n
  | [], _, _ => by simp
  | k :: r, seen, h => by
    unfold ffF at h
    by_cases h1 : k < 0 ∨ (n : Int) ≤ k
    · rw [if_pos h1] at h; cases h
    · rw [if_neg h1] at h
      by_cases h2 : memB seen k = true
      · rw [if_pos h2] at h; cases h
      · rw [if_neg h2] at h
        intro i hi
        rcases List.mem_cons.1 hi with rfl | hi
        · omega
        · exact ffF_in h i hi

def seenI (n : Nat) (T : List Int) : List Bool := (List.range n).map fun (i : Nat) => memB T (i : Int)
theorem seenI_len (n : Nat) (T : List Int) : (seenI n T).length = n := by simp [seenI]
theorem seenI_get {n : Nat} {T : List Int} {i : Nat} (h : i < (seenI n T).length) : (seenI n T)[i] = memB T (i : Int) := by simp [seenI]
theorem seenI_nil (n : Nat) : seenI n [] = List.replicate n false := by
  apply List.ext_getElem <;> simp [seenI, memB]
theorem memB_snoc (T : List Int) (x y : Int) : memB (T ++ [x]) y = (memB T y || decide (y = x)) := by
  unfold memB; rw [Bool.eq_iff_iff]; simp
theorem seenI_set {n : Nat} {T : List Int} {k : Nat} (h : k < T.length) {i : Nat} (hi : T[k] = (i : Int)) : seenI n (T.take (k + 1)) = (seenI n (T.take k)).set i true := by
  apply List.ext_getElem
  · simp [seenI]
  · intro j h1 h2
    rw [List.getElem_set, seenI_get, List.take_succ_eq_append_getElem h, memB_snoc, hi]
    by_cases hj : i = j
    · subst hj; simp
    · rw [if_neg hj, seenI_get]
      have : ¬ ((j : Int) = (i : Int)) := by omega
      simp [this]

end Go.Proofs.YtbgailgclflaeaaGreatDoor

namespace Go.Proofs.YtbgailgclflaeaaGreatDoor
open Go.RowKit Go.Bl

/-- the faces of indices -/
def pickF (fs : List Fc) (L : List Int) : List Fc := L.map fun i => fs.getD i.toNat ⟨0, 0, 0⟩
theorem pickF_len (fs : List Fc) (L : List Int) : (pickF fs L).length = L.length := by simp [pickF]
theorem pickF_snoc {fs : List Fc} {L : List Int} {k : Nat} (h : k < L.length) {j : Nat} (hj : L[k] = (j : Int)) (hl : j < fs.length) : pickF fs (L.take (k + 1)) = pickF fs (L.take k) ++ [fs[j]] := by
  unfold pickF
  rw [take_snoc h, List.map_append, List.map_singleton, hj, Int.toNat_natCast, List.getD_eq_getElem?_getD, List.getElem?_eq_getElem hl, Option.getD_some]
theorem pickF_in {n : Nat} {fs : List Fc} {L : List Int} (h : ∀ f ∈ fs, inF n f = true) (hL : ∀ i ∈ L, 0 ≤ i ∧ i < fs.length) : ∀ f ∈ pickF fs L, inF n f = true := by
  intro f hf
  obtain ⟨i, hi, rfl⟩ := List.mem_map.1 hf
  obtain ⟨h0, h1⟩ := hL i hi
  have : i.toNat < fs.length := by omega
  rw [List.getD_eq_getElem?_getD, List.getElem?_eq_getElem this, Option.getD_some]
  exact h _ (List.getElem_mem _)
def partM (vs : List V3) (fs : List Fc) (L : List Int) : MeshV := trimM ⟨vs, pickF fs L⟩

end Go.Proofs.YtbgailgclflaeaaGreatDoor

namespace Go.Proofs.YtbgailgclflaeaaGreatDoor
open Go.RowKit Go.Bl

def partE (vs : List V3) (fs : List Fc) (L : List Int) : Int := if meshF ⟨vs, fs⟩ ≠ 0 then meshF ⟨vs, fs⟩ else if facesErr fs.length L ≠ 0 then facesErr fs.length L else meshF (partM vs fs L)
def partR (vs : List V3) (fs : List Fc) (L : List Int) : MeshV := if meshF ⟨vs, fs⟩ ≠ 0 then ⟨[], []⟩ else if facesErr fs.length L ≠ 0 then ⟨[], []⟩ else okM (partM vs fs L)

end Go.Proofs.YtbgailgclflaeaaGreatDoor

namespace Go.Proofs.YtbgailgclflaeaaGreatDoor
open Go.RowKit Go.Bl

/-- where a place stands first -/
def fstV : List V3 → V3 → Nat
  | [], _ => 0
  | x :: l, v => if x = v then 0 else fstV l v + 1

theorem fstV_at : ∀ {vs : List V3} {v : V3} {k : Nat} (h : k < vs.length), v ∉ vs.take k → vs[k] = v → fstV vs v = k
  | [], _, k, h, _, _ => by simp at h
  | x :: l, v, 0, _, _, he => by simp at he; unfold fstV; rw [if_pos he]
  | x :: l, v, k + 1, h, hn, he => by
    simp only [List.take_succ_cons, List.mem_cons, not_or] at hn
    unfold fstV
    rw [if_neg (fun e => hn.1 e.symm), fstV_at (k := k) (by simpa using h) hn.2 (by simpa using he)]

theorem fstV_lt : ∀ {vs : List V3} {v : V3}, v ∈ vs → fstV vs v < vs.length
  | [], _, h => by simp at h
  | x :: l, v, h => by
    unfold fstV
    by_cases e : x = v
    · rw [if_pos e]; simp
    · rw [if_neg e]
      have := fstV_lt (vs := l) (v := v) (by rcases List.mem_cons.1 h with h | h; exact absurd h.symm e; exact h)
      simp; omega

def firstK (vs : List V3) (k : Nat) : V3 → Option Int := fun v => if v ∈ vs.take k then some (fstV vs v) else none

theorem firstK_zero (vs : List V3) : (fun _ => none) = firstK vs 0 := by funext v; simp [firstK]

theorem firstK_all {vs : List V3} {v : V3} (h : v ∈ vs) : (firstK vs vs.length v).getD 0 = fstV vs v := by
  unfold firstK; rw [List.take_length, if_pos h]; rfl

theorem firstK_old {vs : List V3} {k : Nat} (h : k < vs.length) (hm : vs[k] ∈ vs.take k) : firstK vs (k + 1) = firstK vs k := by
  funext v
  unfold firstK
  rw [List.take_succ_eq_append_getElem h]
  by_cases hv : v ∈ vs.take k
  · rw [if_pos (List.mem_append_left _ hv), if_pos hv]
  · rw [if_neg hv, if_neg (fun h2 => by
      rcases List.mem_append.1 h2 with h2 | h2
      · exact hv h2
      · rw [List.mem_singleton] at h2; subst h2; exact hv hm)]

theorem firstK_new {vs : List V3} {k : Nat} (h : k < vs.length) (hm : vs[k] ∉ vs.take k) : (fun z => if z = vs[k] then some (k : Int) else firstK vs k z) = firstK vs (k + 1) := by
  funext v
  unfold firstK
  rw [List.take_succ_eq_append_getElem h]
  by_cases hv : v = vs[k]
  · subst hv
    rw [if_pos rfl, if_pos (List.mem_append_right _ (List.mem_singleton.2 rfl)), fstV_at h hm rfl]
  · rw [if_neg hv]
    by_cases hv2 : v ∈ vs.take k
    · rw [if_pos hv2, if_pos (List.mem_append_left _ hv2)]
    · rw [if_neg hv2, if_neg (fun h2 => by
        rcases List.mem_append.1 h2 with h2 | h2
        · exact hv2 h2
        · exact hv (List.mem_singleton.1 h2))]

theorem firstK_some (vs : List V3) (k : Nat) (v : V3) : (firstK vs k v).isSome = decide (v ∈ vs.take k) := by unfold firstK; by_cases h : v ∈ vs.take k <;> simp [h]

set_option maxHeartbeats 1000000 in
set_option maxRecDepth 100000 in
theorem weldCl_any (gt gm b n j : Nat) (A : Option Addr) (c : Nat) (vs : List V3) (w : World) (hl : Sl w 0 A vs) (ht : w.cell? ⟨gt, 0, none⟩ = some (.map (some b))) (hm : w.cell? ⟨gm, 0, none⟩ = some (.slice A vs.length c)) (hM : MapOf vecM w b n (firstK vs vs.length)) (hj : j < vs.length) (hok : okV vs[j]) :
    Calls Tryz.prog 49 #[.int .i64 (j : Nat), .pointer (some ⟨gt, 0, none⟩), .pointer (some ⟨gm, 0, none⟩)] w fun e w' => e = .returned (.int .i64 (fstV vs vs[j])) ∧ w.grownBy w' none := by
  obtain ⟨g, o, rfl, -, hbg, hcc⟩ := hl.v3 (by omega)
  obtain ⟨x0, x1, x2⟩ := hcc j hj
  clear hcc
  have hr := firstK_all (vs := vs) (v := vs[j]) (List.getElem_mem hj)
  have hB : ∀ wx, w.grownBy wx none → wx.cell? ⟨gt, 0, none⟩ = some (.map (some b)) ∧ wx.cell? ⟨gm, 0, none⟩ = some (.slice (some ⟨g, o, none⟩) vs.length c) ∧ wx.cell? ⟨g, o + j * 3, none⟩ = some (.int .i64 vs[j].x) ∧ wx.cell? ⟨g, o + j * 3 + 1, none⟩ = some (.int .i64 vs[j].y) ∧ wx.cell? ⟨g, o + j * 3 + 2, none⟩ = some (.int .i64 vs[j].z) ∧ (Instr.lookup 102 (.map (some b)) (.agg #[.int .i64 vs[j].x, .int .i64 vs[j].y, .int .i64 vs[j].z]) false).run Tryz.prog wx = .ok (.int .i64 (fstV vs vs[j] : Nat)) wx :=
    fun wx hx => ⟨hx.k ht, hx.k hm, hx.k x0, hx.k x1, hx.k x2, look_vec (hM.kept hx (by simp)) hok hr⟩
  replace hB := hide hB
  clear hr hok x0 x1 x2 hM
  generalize vs[j] = v at *
  generalize fstV vs v = R at *
  go_enter Tryz.func49, Tryz.ntmps49
  go_upto_region 1 with fail
  refine wp_region_tree (fun wx => w.grownBy wx none) [1, 2, 1, 2, 2, 1, 1, 2] (.bl 0 (.bl 1 (.bl 2 (.bl 3 (.bl 4 (.bl 5 (.bl 6 (.bl 7 .done)))))))) (by kernel_rfl) (by kernel_rfl) (gr_drew (World.grownBy.refl _ _)) ?_
  obtain ⟨w1, hw1⟩ : ∃ x, x = (w).drew := ⟨_, rfl⟩
  rw [← hw1]
  have hgw1 : (w).grownBy w1 none := by rw [hw1]; exact gr_drew (World.grownBy.refl _ _)
  clear hw1
  refine tree_b rfl rfl rfl rfl _ rfl (by simp) (fun K hK => ?_)
  apply Exists.intro
  refine ⟨fun wq hq K' hK' => ?_, ?_⟩
  · obtain ⟨c0, c1, c2, c3, c4, c5⟩ := hB.out wq hq
    go_wp2_with fail
    exact hK'
  go_simp
  refine hK _ ?_
  clear hK K
  refine tree_p rfl rfl rfl rfl _ rfl (by simp) (fun K hK => ?_)
  apply Exists.intro
  refine ⟨fun wq K' hK' => ?_, ?_⟩
  · go_wp2_with fail
    exact hK'
  go_simp
  refine hK _ ?_
  clear hK K
  refine tree_b rfl rfl rfl rfl _ rfl (by simp) (fun K hK => ?_)
  apply Exists.intro
  refine ⟨fun wq hq K' hK' => ?_, ?_⟩
  · obtain ⟨c0, c1, c2, c3, c4, c5⟩ := hB.out wq hq
    go_wp2_with fail
    exact hK'
  go_simp
  refine hK _ ?_
  clear hK K
  refine tree_p rfl rfl rfl rfl _ rfl (by simp) (fun K hK => ?_)
  apply Exists.intro
  refine ⟨fun wq K' hK' => ?_, ?_⟩
  · go_wp2_with fail
    exact hK'
  go_simp
  refine hK _ ?_
  clear hK K
  refine tree_p rfl rfl rfl rfl _ rfl (by simp) (fun K hK => ?_)
  apply Exists.intro
  refine ⟨fun wq K' hK' => ?_, ?_⟩
  · go_wp2_with fail
    exact hK'
  go_simp
  refine hK _ ?_
  clear hK K
  refine tree_b rfl rfl rfl rfl _ rfl (by simp) (fun K hK => ?_)
  apply Exists.intro
  refine ⟨fun wq hq K' hK' => ?_, ?_⟩
  · obtain ⟨c0, c1, c2, c3, c4, c5⟩ := hB.out wq hq
    go_wp2_with fail
    exact hK'
  go_simp
  refine hK _ ?_
  clear hK K
  refine tree_b rfl rfl rfl rfl _ rfl (by simp) (fun K hK => ?_)
  apply Exists.intro
  refine ⟨fun wq hq K' hK' => ?_, ?_⟩
  · obtain ⟨c0, c1, c2, c3, c4, c5⟩ := hB.out wq hq
    go_wp2_with fail
    exact hK'
  go_simp
  refine hK _ ?_
  clear hK K
  refine tree_p rfl rfl rfl rfl _ rfl (by simp) (fun K hK => ?_)
  apply Exists.intro
  refine ⟨fun wq K' hK' => ?_, ?_⟩
  · go_wp2_with fail
    exact hK'
  go_simp
  refine hK _ ?_
  clear hK K
  refine tree_done ?_
  go_wp2_with fail
  go_ret
  exact ⟨rfl, hgw1⟩

end Go.Proofs.YtbgailgclflaeaaGreatDoor

namespace Go.Proofs.YtbgailgclflaeaaGreatDoor
open Go.RowKit Go.Bl

def weldF (vs : List V3) (f : Fc) : Fc := ⟨fstV vs (vs.getD f.a.toNat ⟨0, 0, 0⟩), fstV vs (vs.getD f.b.toNat ⟨0, 0, 0⟩), fstV vs (vs.getD f.c.toNat ⟨0, 0, 0⟩)⟩

def okFc (g : Fc) : Bool := g.a != g.b && (g.b != g.c && g.c != g.a)

def weldK (vs : List V3) (fs : List Fc) (k : Nat) : List Fc := ((fs.take k).map (weldF vs)).filter okFc

def weldM (vs : List V3) (fs : List Fc) : MeshV := trimM ⟨vs, weldK vs fs fs.length⟩

theorem weldK_zero (vs : List V3) (fs : List Fc) : weldK vs fs 0 = [] := by simp [weldK]

theorem weldK_yes {vs : List V3} {fs : List Fc} {k : Nat} (h : k < fs.length) {g : Fc} (hg : weldF vs fs[k] = g) (ho : okFc g = true) : weldK vs fs (k + 1) = weldK vs fs k ++ [g] := by
  unfold weldK; rw [take_snoc h, List.map_append, List.filter_append, List.map_singleton, hg]; simp [ho]

theorem weldK_no {vs : List V3} {fs : List Fc} {k : Nat} (h : k < fs.length) {g : Fc} (hg : weldF vs fs[k] = g) (ho : okFc g = false) : weldK vs fs (k + 1) = weldK vs fs k := by
  unfold weldK; rw [take_snoc h, List.map_append, List.filter_append, List.map_singleton, hg]; simp [ho]

theorem weldK_len (vs : List V3) (fs : List Fc) (k : Nat) : (weldK vs fs k).length ≤ k := by
  unfold weldK
  refine Nat.le_trans (List.length_filter_le _ _) ?_
  rw [List.length_map, List.length_take]; omega

theorem weldF_of {vs : List V3} {f : Fc} {ia ib ic : Nat} (ha : f.a = ia) (hb : f.b = ib) (hc : f.c = ic) (la : ia < vs.length) (lb : ib < vs.length) (lc : ic < vs.length) : weldF vs f = ⟨fstV vs vs[ia], fstV vs vs[ib], fstV vs vs[ic]⟩ := by
  unfold weldF
  rw [ha, hb, hc, Int.toNat_natCast, Int.toNat_natCast, Int.toNat_natCast]
  simp only [List.getD_eq_getElem?_getD, List.getElem?_eq_getElem la, List.getElem?_eq_getElem lb, List.getElem?_eq_getElem lc, Option.getD_some]

theorem weldK_in {vs : List V3} {fs : List Fc} (hin : ∀ f ∈ fs, inF vs.length f = true) (k : Nat) : ∀ f ∈ weldK vs fs k, inF vs.length f = true := by
  intro g hg
  unfold weldK at hg
  obtain ⟨hg, -⟩ := List.mem_filter.1 hg
  obtain ⟨f, hf, rfl⟩ := List.mem_map.1 hg
  have hfi := inF_bd (hin f (List.mem_of_mem_take hf))
  obtain ⟨ia, eia⟩ := Int.eq_ofNat_of_zero_le hfi.1.1
  obtain ⟨ib, eib⟩ := Int.eq_ofNat_of_zero_le hfi.2.1.1
  obtain ⟨ic, eic⟩ := Int.eq_ofNat_of_zero_le hfi.2.2.1
  have hia : ia < vs.length := by omega
  have hib : ib < vs.length := by omega
  have hic : ic < vs.length := by omega
  rw [weldF_of eia eib eic hia hib hic]
  have h1 := fstV_lt (List.getElem_mem hia)
  have h2 := fstV_lt (List.getElem_mem hib)
  have h3 := fstV_lt (List.getElem_mem hic)
  simp [inF, inI]
  omega

end Go.Proofs.YtbgailgclflaeaaGreatDoor

namespace Go.Proofs.YtbgailgclflaeaaGreatDoor
open Go Go.RowKit Go.Bl

abbrev Pl3 := V3 × V3 × V3

def plc (vs : List V3) (f : Fc) : Pl3 := (atV vs f.a, atV vs f.b, atV vs f.c)

def plcs (vs : List V3) (fs : List Fc) : List Pl3 := fs.map (plc vs)

def normP (p : Pl3) : V3 := crossV (lessV p.2.1 p.1) (lessV p.2.2 p.1)

def volP (p : Pl3) : Int := dotV p.1 (crossV p.2.1 p.2.2)

def sdP (p : Pl3) : List (V3 × V3) := [(p.1, p.2.1), (p.2.1, p.2.2), (p.2.2, p.1)]

def allP (l : List Pl3) : List (V3 × V3) := l.flatMap sdP

def plS (vs : List V3) (s : Sd) : V3 × V3 := (atV vs s.u, atV vs s.v)

theorem norm_plc (vs : List V3) (f : Fc) : normV vs f = normP (plc vs f) := rfl

theorem allS_pl (vs : List V3) (fs : List Fc) : (allS fs).map (plS vs) = allP (plcs vs fs) := by
  induction fs with
  | nil => rfl
  | cons f r ih =>
    show (sdsOf f ++ allS r).map (plS vs) = sdP (plc vs f) ++ allP (plcs vs r)
    rw [List.map_append, ih]; rfl

theorem inI_nat {n : Nat} {i : Int} (h : inI n i = true) : ∃ j : Nat, i = j ∧ j < n := by
  unfold inI at h
  simp at h
  exact ⟨i.toNat, by omega, by omega⟩

theorem atV_nat {vs : List V3} {j : Nat} (h : j < vs.length) : atV vs (j : Int) = vs[j] := by
  unfold atV
  rw [Int.toNat_natCast, List.getD_eq_getElem?_getD, List.getElem?_eq_getElem h, Option.getD_some]

theorem atV_mem {vs : List V3} {i : Int} (h : inI vs.length i = true) : atV vs i ∈ vs := by
  obtain ⟨j, rfl, hj⟩ := inI_nat h
  rw [atV_nat hj]; exact List.getElem_mem _

theorem inF_abcW {n : Nat} {f : Fc} (h : inF n f = true) : inI n f.a = true ∧ inI n f.b = true ∧ inI n f.c = true := by
  unfold inF at h
  simp only [Bool.and_eq_true] at h
  exact ⟨h.1.1, h.1.2, h.2⟩

theorem nodup_get {α : Type} {l : List α} (h : l.Nodup) {i j : Nat} (hi : i < l.length) (hj : j < l.length) (e : l[i] = l[j]) : i = j := by
  have hp := List.pairwise_iff_getElem.1 h
  rcases Nat.lt_trichotomy i j with hh | hh | hh
  · exact absurd e (hp i j hi hj hh)
  · exact hh
  · exact absurd e.symm (hp j i hj hi hh)

theorem atV_inj {vs : List V3} (h : vs.Nodup) {i j : Int} (hi : inI vs.length i = true) (hj : inI vs.length j = true) (e : atV vs i = atV vs j) : i = j := by
  obtain ⟨a, ha, ha2⟩ := inI_nat hi
  obtain ⟨b, hb, hb2⟩ := inI_nat hj
  rw [ha, hb] at e ⊢
  rw [atV_nat ha2, atV_nat hb2] at e
  rw [nodup_get h ha2 hb2 e]

/-- each place once, each vertex used -/
structure Tight (vs : List V3) (fs : List Fc) : Prop where
  nd : vs.Nodup
  fin : ∀ f ∈ fs, inF vs.length f = true
  all : ∀ i, i < vs.length → ∃ f ∈ fs, hasI i f = true

theorem allS_in {n : Nat} {fs : List Fc} (h : ∀ f ∈ fs, inF n f = true) : ∀ s ∈ allS fs, inI n s.u = true ∧ inI n s.v = true := by
  intro s hs
  obtain ⟨f, hf, hs⟩ := List.mem_flatMap.1 hs
  obtain ⟨h1, h2, h3⟩ := inF_abcW (h f hf)
  simp only [sdsOf, List.mem_cons, List.not_mem_nil, or_false] at hs
  rcases hs with rfl | rfl | rfl
  · exact ⟨h1, h2⟩
  · exact ⟨h2, h3⟩
  · exact ⟨h3, h1⟩

theorem nodup_map_on {α β : Type} (f : α → β) {l : List α} (hn : l.Nodup) (hf : ∀ x ∈ l, ∀ y ∈ l, f x = f y → x = y) : (l.map f).Nodup := by
  induction l with
  | nil => simp
  | cons x l ih =>
    obtain ⟨h1, h2⟩ := List.nodup_cons.1 hn
    rw [List.map_cons, List.nodup_cons]
    refine ⟨fun h => ?_, ih h2 fun a ha b hb => hf a (List.mem_cons_of_mem _ ha) b (List.mem_cons_of_mem _ hb)⟩
    obtain ⟨y, hy, e⟩ := List.mem_map.1 h
    have := hf y (List.mem_cons_of_mem _ hy) x (List.mem_cons_self ..) e
    exact h1 (this ▸ hy)

theorem nodup_of_map {α β : Type} (f : α → β) {l : List α} (h : (l.map f).Nodup) : l.Nodup := by
  unfold List.Nodup at h ⊢
  rw [List.pairwise_map] at h
  exact h.imp fun h e => h (by rw [e])

theorem Tight.inj {vs : List V3} {fs : List Fc} (h : Tight vs fs) : ∀ x ∈ allS fs, ∀ y ∈ allS fs, plS vs x = plS vs y → x = y := by
  intro x hx y hy e
  obtain ⟨x1, x2⟩ := allS_in h.fin x hx
  obtain ⟨y1, y2⟩ := allS_in h.fin y hy
  injection e with e1 e2
  have h1 := atV_inj h.nd x1 y1 e1
  have h2 := atV_inj h.nd x2 y2 e2
  cases x; cases y; simp_all

theorem Tight.once {vs : List V3} {fs : List Fc} (h : Tight vs fs) : (allS fs).Nodup ↔ (allP (plcs vs fs)).Nodup := by
  rw [← allS_pl]
  exact ⟨fun hn => nodup_map_on _ hn h.inj, nodup_of_map _⟩

theorem Tight.closed {vs : List V3} {fs : List Fc} (h : Tight vs fs) : ClosedS fs ↔ ∀ s ∈ allP (plcs vs fs), (s.2, s.1) ∈ allP (plcs vs fs) := by
  rw [← allS_pl]
  constructor
  · intro hc s hs
    obtain ⟨t, ht, rfl⟩ := List.mem_map.1 hs
    exact List.mem_map.2 ⟨rvS t, hc t ht, rfl⟩
  · intro hc s hs
    obtain ⟨t, ht, e⟩ := List.mem_map.1 (hc _ (List.mem_map.2 ⟨s, hs, rfl⟩))
    obtain ⟨s1, s2⟩ := allS_in h.fin s hs
    obtain ⟨t1, t2⟩ := allS_in h.fin t ht
    injection e with e1 e2
    have h1 := atV_inj h.nd t1 s2 e1
    have h2 := atV_inj h.nd t2 s1 e2
    have : t = rvS s := by cases t; cases s; simp_all [rvS]
    rw [← this]; exact ht

def ofP (l : List Pl3) : List V3 := l.flatMap fun p => [p.1, p.2.1, p.2.2]

theorem Tight.mem {vs : List V3} {fs : List Fc} (h : Tight vs fs) (v : V3) : v ∈ vs ↔ v ∈ ofP (plcs vs fs) := by
  constructor
  · intro hv
    obtain ⟨i, hi, rfl⟩ := List.mem_iff_getElem.1 hv
    obtain ⟨f, hf, hh⟩ := h.all i hi
    refine List.mem_flatMap.2 ⟨plc vs f, List.mem_map.2 ⟨f, hf, rfl⟩, ?_⟩
    unfold hasI at hh
    simp only [Bool.or_eq_true, decide_eq_true_eq] at hh
    simp only [plc, List.mem_cons, List.not_mem_nil, or_false]
    rcases hh with (e | e) | e
    · left; rw [e, atV_nat hi]
    · right; left; rw [e, atV_nat hi]
    · right; right; rw [e, atV_nat hi]
  · intro hv
    obtain ⟨p, hp, hv⟩ := List.mem_flatMap.1 hv
    obtain ⟨f, hf, rfl⟩ := List.mem_map.1 hp
    obtain ⟨h1, h2, h3⟩ := inF_abcW (h.fin f hf)
    simp only [plc, List.mem_cons, List.not_mem_nil, or_false] at hv
    rcases hv with rfl | rfl | rfl
    · exact atV_mem h1
    · exact atV_mem h2
    · exact atV_mem h3

theorem Tight.len {vs vs' : List V3} {fs fs' : List Fc} (h : Tight vs fs) (h' : Tight vs' fs') (e : plcs vs fs = plcs vs' fs') : vs.length = vs'.length := by
  refine ((List.perm_ext_iff_of_nodup h.nd h'.nd).2 fun v => ?_).length_eq
  rw [h.mem, h'.mem, e]

/-! trimming -/

theorem keepTo_mem (vs : List V3) (U : List Bool) : ∀ k, k ≤ vs.length → ∀ v, v ∈ keepTo vs U k ↔ ∃ i, ∃ (h : i < vs.length), i < k ∧ U.getD i false = true ∧ vs[i] = v
  | 0, _, v => by simp [keepTo]
  | k + 1, hk, v => by
    unfold keepTo
    rw [List.mem_append, keepTo_mem vs U k (by omega) v]
    by_cases hu : U.getD k false = true
    · rw [if_pos hu]
      simp only [List.getD_eq_getElem?_getD, List.getElem?_eq_getElem (show k < vs.length by omega), Option.getD_some, List.mem_singleton]
      constructor
      · rintro (⟨i, h, h1, h2, h3⟩ | rfl)
        · exact ⟨i, h, by omega, by simpa [List.getD_eq_getElem?_getD] using h2, h3⟩
        · exact ⟨k, by omega, by omega, by simpa [List.getD_eq_getElem?_getD] using hu, rfl⟩
      · rintro ⟨i, h, h1, h2, h3⟩
        by_cases e : i = k
        · subst e; exact .inr h3.symm
        · exact .inl ⟨i, h, by omega, by simpa [List.getD_eq_getElem?_getD] using h2, h3⟩
    · rw [if_neg hu]
      simp only [List.not_mem_nil, or_false]
      constructor
      · rintro ⟨i, h, h1, h2, h3⟩; exact ⟨i, h, by omega, h2, h3⟩
      · rintro ⟨i, h, h1, h2, h3⟩
        have : i ≠ k := by rintro rfl; exact hu h2
        exact ⟨i, h, by omega, h2, h3⟩

theorem keepTo_get (vs : List V3) (U : List Bool) : ∀ n, n ≤ vs.length → ∀ i, i < n → U.getD i false = true → ∃ (h : (keepTo vs U i).length < (keepTo vs U n).length) (h2 : i < vs.length), (keepTo vs U n)[(keepTo vs U i).length] = vs[i]
  | 0, _, i, hi, _ => by omega
  | n + 1, hn, i, hi, hu => by
    have hL : keepTo vs U (n + 1) = keepTo vs U n ++ (if U.getD n false then [vs.getD n default] else []) := rfl
    by_cases e : i = n
    · subst e
      rw [if_pos hu] at hL
      have hl : (keepTo vs U i).length < (keepTo vs U (i + 1)).length := by rw [hL]; simp
      refine ⟨hl, by omega, ?_⟩
      simp only [hL]
      rw [List.getElem_append_right (Nat.le_refl _)]
      simp only [Nat.sub_self, List.getElem_cons_zero, List.getD_eq_getElem?_getD, List.getElem?_eq_getElem (show i < vs.length by omega), Option.getD_some]
    · obtain ⟨h, h2, h3⟩ := keepTo_get vs U n (by omega) i (by omega) hu
      have hl : (keepTo vs U i).length < (keepTo vs U (n + 1)).length := by rw [hL, List.length_append]; omega
      refine ⟨hl, h2, ?_⟩
      simp only [hL]
      rw [List.getElem_append_left h]; exact h3

theorem keepTo_sur (vs : List V3) (U : List Bool) : ∀ n, ∀ j, j < (keepTo vs U n).length → ∃ i, i < n ∧ U.getD i false = true ∧ (keepTo vs U i).length = j
  | 0, j, hj => by simp [keepTo] at hj
  | n + 1, j, hj => by
    have hL : keepTo vs U (n + 1) = keepTo vs U n ++ (if U.getD n false then [vs.getD n default] else []) := rfl
    by_cases h : j < (keepTo vs U n).length
    · obtain ⟨i, h1, h2, h3⟩ := keepTo_sur vs U n j h
      exact ⟨i, by omega, h2, h3⟩
    · rw [hL] at hj
      by_cases hu : U.getD n false = true
      · rw [if_pos hu] at hj
        simp at hj
        exact ⟨n, by omega, hu, by omega⟩
      · rw [if_neg hu] at hj
        simp at hj
        omega

theorem keepTo_nodup (vs : List V3) (U : List Bool) (hU : ∀ i (h : i < vs.length), U.getD i false = true → vs[i] ∉ vs.take i) : ∀ k, k ≤ vs.length → (keepTo vs U k).Nodup
  | 0, _ => by simp [keepTo]
  | k + 1, hk => by
    unfold keepTo
    by_cases hu : U.getD k false = true
    · rw [if_pos hu, List.nodup_append]
      refine ⟨keepTo_nodup vs U hU k (by omega), by simp, fun a ha b hb => ?_⟩
      rw [List.mem_singleton.1 hb]
      simp only [List.getD_eq_getElem?_getD, List.getElem?_eq_getElem (show k < vs.length by omega), Option.getD_some]
      rintro rfl
      obtain ⟨i, h, h1, -, h3⟩ := (keepTo_mem vs U k (by omega) _).1 ha
      refine hU k (by omega) hu ?_
      rw [← h3]
      exact List.mem_take_iff_getElem.2 ⟨i, by omega, rfl⟩
    · rw [if_neg hu, List.append_nil]; exact keepTo_nodup vs U hU k (by omega)

theorem useL_get {n i : Nat} {fs : List Fc} (hi : i < n) : (useL n fs).getD i false = fs.any (hasI i) := by
  rw [List.getD_eq_getElem?_getD, List.getElem?_eq_getElem (by rw [useL_len]; exact hi), Option.getD_some, useL_at]

theorem useL_yes {n i : Nat} {fs : List Fc} {f : Fc} (hi : i < n) (hf : f ∈ fs) (hh : hasI i f = true) : (useL n fs).getD i false = true := by
  rw [useL_get hi]; exact List.any_eq_true.2 ⟨f, hf, hh⟩

theorem fstV_get {vs : List V3} {v : V3} (h : v ∈ vs) : ∃ h : fstV vs v < vs.length, vs[fstV vs v] = v ∧ v ∉ vs.take (fstV vs v) := by
  refine ⟨fstV_lt h, ?_⟩
  induction vs with
  | nil => simp at h
  | cons x l ih =>
    by_cases e : x = v
    · have : fstV (x :: l) v = 0 := by unfold fstV; rw [if_pos e]
      simp only [this]
      exact ⟨by simpa using e, by simp⟩
    · have h0 : fstV (x :: l) v = fstV l v + 1 := by conv => lhs; unfold fstV
                                                     rw [if_neg e]
      have hm : v ∈ l := by rcases List.mem_cons.1 h with h | h; exact absurd h.symm e; exact h
      obtain ⟨i1, i2⟩ := ih hm
      simp only [h0]
      refine ⟨by simpa using i1, ?_⟩
      rw [List.take_succ_cons, List.mem_cons, not_or]
      exact ⟨fun h => e h.symm, i2⟩

theorem weldF_in {vs : List V3} {f : Fc} (h : inF vs.length f = true) : weldF vs f = ⟨fstV vs (atV vs f.a), fstV vs (atV vs f.b), fstV vs (atV vs f.c)⟩ := rfl

theorem weldF_plc {vs : List V3} {f : Fc} (h : inF vs.length f = true) : plc vs (weldF vs f) = plc vs f := by
  obtain ⟨h1, h2, h3⟩ := inF_abcW h
  rw [weldF_in h]
  obtain ⟨a1, a2, -⟩ := fstV_get (atV_mem h1)
  obtain ⟨b1, b2, -⟩ := fstV_get (atV_mem h2)
  obtain ⟨c1, c2, -⟩ := fstV_get (atV_mem h3)
  unfold plc
  simp only [atV_nat a1, atV_nat b1, atV_nat c1, a2, b2, c2]

theorem inI_of {n j : Nat} (h : j < n) : inI n (j : Int) = true := by unfold inI; simp [h]

theorem inF_of {n a b c : Nat} (h1 : a < n) (h2 : b < n) (h3 : c < n) : inF n ⟨a, b, c⟩ = true := by unfold inF; simp [inI_of h1, inI_of h2, inI_of h3]

theorem norm_ne {p : Pl3} (h : normP p ≠ ⟨0, 0, 0⟩) : p.1 ≠ p.2.1 ∧ p.2.1 ≠ p.2.2 ∧ p.2.2 ≠ p.1 := by
  have e : ∀ v : V3, lessV v v = ⟨0, 0, 0⟩ := fun v => by simp [lessV]
  refine ⟨fun h1 => h ?_, fun h1 => h ?_, fun h1 => h ?_⟩ <;> unfold normP
  · rw [h1, e]; simp [crossV]
  · rw [h1]; simp [crossV, Int.mul_comm, Int.sub_self]
  · rw [h1, e]; simp [crossV]

theorem weldK_all {vs : List V3} {fs : List Fc} (h : ∀ f ∈ fs, inF vs.length f = true ∧ normV vs f ≠ ⟨0, 0, 0⟩) : weldK vs fs fs.length = fs.map (weldF vs) := by
  unfold weldK
  rw [List.take_length, List.filter_eq_self]
  intro g hg
  obtain ⟨f, hf, rfl⟩ := List.mem_map.1 hg
  obtain ⟨hi, hn⟩ := h f hf
  have hp := weldF_plc hi
  rw [norm_plc, ← hp] at hn
  obtain ⟨n1, n2, n3⟩ := norm_ne hn
  unfold okFc
  simp only [Bool.and_eq_true, bne_iff_ne]
  refine ⟨fun e => n1 ?_, fun e => n2 ?_, fun e => n3 ?_⟩ <;> simp only [plc, e]

theorem hasI_cases {i : Nat} {f : Fc} (h : hasI i f = true) : f.a = i ∨ f.b = i ∨ f.c = i := by
  unfold hasI at h
  simp only [Bool.or_eq_true, decide_eq_true_eq] at h
  rcases h with (h | h) | h
  · exact .inl h
  · exact .inr (.inl h)
  · exact .inr (.inr h)

theorem weld_tight {vs : List V3} {fs : List Fc} (h : ∀ f ∈ fs, inF vs.length f = true ∧ normV vs f ≠ ⟨0, 0, 0⟩) : Tight (weldM vs fs).vs (weldM vs fs).fs ∧ plcs (weldM vs fs).vs (weldM vs fs).fs = plcs vs fs ∧ (weldM vs fs).fs.length = fs.length ∧ ∀ v ∈ (weldM vs fs).vs, v ∈ vs := by
  have hK := weldK_all h
  unfold weldM trimM
  simp only [hK]
  obtain ⟨U, hU⟩ : ∃ U, U = useL vs.length (fs.map (weldF vs)) := ⟨_, rfl⟩
  rw [← hU]
  -- what a welded face's corner is
  have hcor : ∀ f ∈ fs, ∀ i : Int, (i = f.a ∨ i = f.b ∨ i = f.c) → ∃ j : Nat, (fstV vs (atV vs i)) = j ∧ ∃ hj : j < vs.length, vs[j] = atV vs i ∧ vs[j] ∉ vs.take j ∧ U.getD j false = true := by
    intro f hf i hi
    obtain ⟨h1, h2, h3⟩ := inF_abcW (h f hf).1
    have hin : inI vs.length i = true := by rcases hi with rfl | rfl | rfl <;> assumption
    obtain ⟨g1, g2, g3⟩ := fstV_get (atV_mem hin)
    refine ⟨fstV vs (atV vs i), rfl, g1, g2, by rw [g2]; exact g3, ?_⟩
    rw [hU]
    refine useL_yes g1 (List.mem_map.2 ⟨f, hf, rfl⟩) ?_
    rw [weldF_in (h f hf).1]
    unfold hasI
    rcases hi with rfl | rfl | rfl <;> simp
  have hUv : ∀ i (hi : i < vs.length), U.getD i false = true → vs[i] ∉ vs.take i := by
    intro i hi hu
    rw [hU, useL_get hi, List.any_eq_true] at hu
    obtain ⟨g, hg, hh⟩ := hu
    obtain ⟨f, hf, rfl⟩ := List.mem_map.1 hg
    rw [weldF_in (h f hf).1] at hh
    have key : ∀ x : Int, (x = f.a ∨ x = f.b ∨ x = f.c) → ((fstV vs (atV vs x) : Nat) : Int) = i → vs[i] ∉ vs.take i := by
      intro x hx e
      obtain ⟨j, e1, hj, e2, e3, -⟩ := hcor f hf x hx
      have : j = i := by rw [e1] at e; omega
      subst this; exact e3
    rcases hasI_cases hh with e | e | e
    · exact key f.a (.inl rfl) e
    · exact key f.b (.inr (.inl rfl)) e
    · exact key f.c (.inr (.inr rfl)) e
  have hat : ∀ f ∈ fs, ∀ i : Int, (i = f.a ∨ i = f.b ∨ i = f.c) → inI (keepTo vs U vs.length).length (rkI vs U (fstV vs (atV vs i))) = true ∧ atV (keepTo vs U vs.length) (rkI vs U (fstV vs (atV vs i))) = atV vs i := by
    intro f hf i hi
    obtain ⟨j, e1, hj, e2, -, e4⟩ := hcor f hf i hi
    obtain ⟨k1, k2, k3⟩ := keepTo_get vs U vs.length (Nat.le_refl _) j hj e4
    rw [e1]
    unfold rkI
    exact ⟨inI_of k1, by rw [atV_nat k1, k3, e2]⟩
  refine ⟨⟨keepTo_nodup vs U hUv vs.length (Nat.le_refl _), ?_, ?_⟩, ?_, by simp, ?_⟩
  · intro g hg
    obtain ⟨g', hg', rfl⟩ := List.mem_map.1 hg
    obtain ⟨f, hf, rfl⟩ := List.mem_map.1 hg'
    rw [weldF_in (h f hf).1]
    unfold inF renum
    simp only [Int.toNat_natCast, Bool.and_eq_true]
    exact ⟨⟨(hat f hf f.a (.inl rfl)).1, (hat f hf f.b (.inr (.inl rfl))).1⟩, (hat f hf f.c (.inr (.inr rfl))).1⟩
  · intro j hj
    obtain ⟨i, i1, i2, i3⟩ := keepTo_sur vs U vs.length j hj
    have hu := i2
    rw [hU, useL_get i1, List.any_eq_true] at hu
    obtain ⟨g, hg, hh⟩ := hu
    refine ⟨renum vs U g, List.mem_map.2 ⟨g, hg, rfl⟩, ?_⟩
    unfold hasI renum rkI
    simp only [Bool.or_eq_true, decide_eq_true_eq]
    rcases hasI_cases hh with e | e | e
    · left; left; rw [e, Int.toNat_natCast, i3]
    · left; right; rw [e, Int.toNat_natCast, i3]
    · right; rw [e, Int.toNat_natCast, i3]
  · unfold plcs
    rw [List.map_map, List.map_map]
    refine List.map_congr_left fun f hf => ?_
    simp only [Function.comp_apply]
    rw [weldF_in (h f hf).1]
    unfold renum plc
    simp only [Int.toNat_natCast]
    rw [(hat f hf f.a (.inl rfl)).2, (hat f hf f.b (.inr (.inl rfl))).2, (hat f hf f.c (.inr (.inr rfl))).2]
  · intro v hv
    obtain ⟨i, hi, -, -, rfl⟩ := (keepTo_mem vs U vs.length (Nat.le_refl _) v).1 hv
    exact List.getElem_mem _

end Go.Proofs.YtbgailgclflaeaaGreatDoor

namespace Go.Proofs.YtbgailgclflaeaaGreatDoor
open Go.RowKit Go.Bl

def weldE (vs : List V3) (fs : List Fc) : Int := if meshF ⟨vs, fs⟩ ≠ 0 then meshF ⟨vs, fs⟩ else meshF (weldM vs fs)

def weldR (vs : List V3) (fs : List Fc) : MeshV := if meshF ⟨vs, fs⟩ ≠ 0 then ⟨[], []⟩ else okM (weldM vs fs)

theorem okV_bd {v : V3} (h : Bd 100000 v) : okV v := by
  obtain ⟨⟨h1, h2⟩, ⟨h3, h4⟩, h5, h6⟩ := h
  exact ⟨okI_of (by omega), okI_of (by omega), okI_of (by omega)⟩

set_option maxHeartbeats 1000000 in
set_option maxRecDepth 100000 in
theorem welded_bad (A : Option Addr) (c : Nat) (vs : List V3) (B : Option Addr) (d : Nat) (fs : List Fc) (w : World) (hl : Sl w 0 A vs) (hfs : Sl w 0 B fs) (hM : meshF ⟨vs, fs⟩ ≠ 0) :
    Calls Tryz.prog 22 #[.agg #[.slice A vs.length c, .slice B fs.length d]] w (SMeshE w.heap.size ⟨[], []⟩ (meshF ⟨vs, fs⟩) w) := by
  obtain ⟨W, hW⟩ : ∃ W, W = (w.alloc (.cells #[.slice A vs.length c, .slice B fs.length d] 29)).alloc (.cells #[.slice none 0 0, .slice none 0 0] 29) := ⟨_, rfl⟩
  have hWs : W.heap.size = w.heap.size + 1 + 1 := by rw [hW]; simp
  have hgW : w.grownBy W none := by rw [hW]; exact (by repeat (first | exact World.grownBy.refl _ _ | assumption | refine gr_alloc ?_ _ | (apply gr_tail; assumption) | refine gr_drewN ?_ _ | refine gr_drew ?_))
  have b0 : W.cell? ⟨w.heap.size, 0, none⟩ = some (.slice A vs.length c) := by rw [hW]; go_simp
  have b1 : W.cell? ⟨w.heap.size, 1, none⟩ = some (.slice B fs.length d) := by rw [hW]; go_simp
  have q0 : Cell W (w.heap.size + 1) 0 (.slice none 0 0) := by rw [hW]; exact ⟨by go_simp, by go_simp⟩
  have q1 : Cell W (w.heap.size + 1) 1 (.slice none 0 0) := by rw [hW]; exact ⟨by go_simp, by go_simp⟩
  replace hW := hide hW.symm
  replace hWs := hide hWs
  replace q0 := hide q0
  replace q1 := hide q1
  have hltw : w.heap.size < w.heap.size + 1 := Nat.lt_succ_self _
  have hC := checkMesh_any A c vs B d fs W ((hl.mono (Nat.zero_le _)).pure hgW) ((hfs.mono (Nat.zero_le _)).pure hgW)
  generalize meshF ⟨vs, fs⟩ = E at *
  have hb : (E != 0) = true := by simpa using hM
  clear hM
  replace hC := hide hC
  go_enter Tryz.func22, Tryz.ntmps22
  go_upto_region 1 with fail
  rw [hW.out]
  go_wp2_with fail
  refine hC.out.mono ?_
  rintro e w1 ⟨rfl, hg1⟩
  clear hC
  obtain ⟨k0, kf0⟩ := q0.out.gr hg1 (by simp)
  obtain ⟨k1, kf1⟩ := q1.out.gr hg1 (by simp)
  have hgX := gr_trans hgW hg1
  have hgs := fun (v1 v2 : Value) => gr_set (gr_set (World.grownBy.refl w1 (some (w.heap.size + 1))) (p := ⟨w.heap.size + 1, 0, none⟩) (.inl rfl) v1) (p := ⟨w.heap.size + 1, 1, none⟩) (.inl rfl) v2
  have hkk := fun v1 v2 => gr_row hgX (hgs v1 v2) (fun g e => by injection e; omega)
  clear q0 q1
  replace hgs := hide hgs
  replace hkk := hide hkk
  go_wp2_with fail
  exact bodyPost_ret (v := .tuple #[.agg #[.slice none 0 0, .slice none 0 0], .int .i64 E]) (by simp [results, Tryz.results22, go_sem, k0, k1, kf0, kf1]) rfl ⟨none, 0, none, 0, rfl, slNil _ _ _, slNil _ _ _, hkk.out _ _⟩

set_option maxHeartbeats 4000000 in
set_option maxRecDepth 100000 in
theorem welded_ok (A : Option Addr) (c : Nat) (vs : List V3) (B : Option Addr) (d : Nat) (fs : List Fc) (w : World) (hl : Sl w 0 A vs) (hfs : Sl w 0 B fs) (hM : meshF ⟨vs, fs⟩ = 0) :
    Calls Tryz.prog 22 #[.agg #[.slice A vs.length c, .slice B fs.length d]] w (SMeshE w.heap.size (okM (weldM vs fs)) (meshF (weldM vs fs)) w) := by
  obtain ⟨hbd, hvl, hfl, -, hv⟩ := right_bd hM
  have hin := right_in hM
  obtain ⟨W, hW⟩ : ∃ W, W = (w.alloc (.cells #[.slice A vs.length c, .slice B fs.length d] 29)).alloc (.cells #[.slice none 0 0, .slice none 0 0] 29) := ⟨_, rfl⟩
  have hWs : W.heap.size = w.heap.size + 1 + 1 := by rw [hW]; simp
  have hgW : w.grownBy W none := by rw [hW]; exact (by repeat (first | exact World.grownBy.refl _ _ | assumption | refine gr_alloc ?_ _ | (apply gr_tail; assumption) | refine gr_drewN ?_ _ | refine gr_drew ?_))
  have b0 : W.cell? ⟨w.heap.size, 0, none⟩ = some (.slice A vs.length c) := by rw [hW]; go_simp
  have b1 : W.cell? ⟨w.heap.size, 1, none⟩ = some (.slice B fs.length d) := by rw [hW]; go_simp
  have q0 : Cell W (w.heap.size + 1) 0 (.slice none 0 0) := by rw [hW]; exact ⟨by go_simp, by go_simp⟩
  have q1 : Cell W (w.heap.size + 1) 1 (.slice none 0 0) := by rw [hW]; exact ⟨by go_simp, by go_simp⟩
  replace hW := hide hW.symm
  replace hWs := hide hWs
  replace q0 := hide q0
  replace q1 := hide q1
  have hltw : w.heap.size < w.heap.size + 1 := Nat.lt_succ_self _
  have hC := checkMesh_any A c vs B d fs W ((hl.mono (Nat.zero_le _)).pure hgW) ((hfs.mono (Nat.zero_le _)).pure hgW)
  rw [hM] at hC
  clear hM
  replace hC := hide hC
  replace hin := hide hin
  have hokv : Hid (∀ v ∈ vs, okV v) := fun v hv => okV_bd (hbd v hv)
  clear hbd
  go_enter Tryz.func22, Tryz.ntmps22
  go_upto_region 1 with fail
  rw [hW.out]
  go_wp2_with fail
  refine hC.out.mono ?_
  rintro e w1 ⟨rfl, hg1⟩
  clear hC
  have hmk := run_makeMap (P := Tryz.prog) 102 w1
  have hM0 := MapOf.made vecM w1
  obtain ⟨W2, hW2⟩ : ∃ x, x = (w1.alloc (.map #[] 0)).alloc (.cells #[.map (some w1.heap.size)] 102) := ⟨_, rfl⟩
  have hg2 : w1.grownBy W2 none := by rw [hW2]; exact (by repeat (first | exact World.grownBy.refl _ _ | assumption | refine gr_alloc ?_ _ | (apply gr_tail; assumption) | refine gr_drewN ?_ _ | refine gr_drew ?_))
  have hM2 : MapOf vecM W2 w1.heap.size 0 (fun _ => none) := by rw [hW2]; exact hM0.kept (row := none) (gr_alloc (World.grownBy.refl _ _) _) (by simp)
  have hT2 : Box W2 (w1.heap.size + 1) 102 [.map (some w1.heap.size)] := by
    have := Box.new (w1.alloc (.map #[] 0)) [.map (some w1.heap.size)] 102
    rw [hW2]
    simpa using this
  have hg12 := gr_trans hg1 hg2
  have hsz1 : W.heap.size ≤ w1.heap.size := hg1.size
  obtain ⟨gt, hgt⟩ : ∃ g, g = w1.heap.size + 1 := ⟨_, rfl⟩
  obtain ⟨gm, hgm⟩ : ∃ g, g = w1.heap.size := ⟨_, rfl⟩
  rw [← hgt, ← hgm] at hT2
  rw [← hgm] at hM2
  have hWm : W.heap.size ≤ gm := by omega
  have hmt : gm < gt := by omega
  have hW2' : Hid ((w1.alloc (.map #[] 0)).alloc (.cells #[.map (some gm)] 102) = W2) := by rw [Hid, hW2, hgm]
  have b0' := hg12.k b0
  clear hM0 hW2
  replace hgm := hide hgm.symm
  replace hgt := hide hgt.symm
  go_upto_region 5 with fail
  rw [hgt.out, hgm.out, hW2'.out]
  clear hmk hsz1
  go_wp2_with fail
  go_loopw [24] (fun i wr => ∃ k : Nat, k ≤ vs.length ∧ i = .int .i64 k ∧ MapOf vecM wr gm k (firstK vs k) ∧ Box wr gt 102 [.map (some gm)] ∧ W.grownBy wr none) (fun i _ => vs.length - (intOf i).toNat)
  case atStart => exact ⟨0, by omega, rfl, by rw [← firstK_zero]; exact hM2, hT2, hg12⟩
  case round =>
    clear hM2 hT2 hg12 b0' hg2 hg1
    obtain ⟨k, hk, rfl, hM, hT, hg⟩ := hrel
    have hgw := gr_trans hgW hg
    obtain ⟨u0, v0⟩ := hT.c 0 rfl
    have hlt1 := hT.lt
    by_cases hlt : k < vs.length
    · obtain ⟨gv, ov, rfl, -, hbv, hcc⟩ := (hl.pure hgw).v3 (by omega)
      obtain ⟨x0, x1, x2⟩ := hcc k hlt
      clear hcc
      have hov := hokv.out _ (List.getElem_mem hlt)
      have hq := gr_alloc (World.grownBy.refl wr none) (.cells #[.int .i64 vs[k].x, .int .i64 vs[k].y, .int .i64 vs[k].z] 64)
      have hMq := hM.kept hq (by simp)
      have hold := firstK_old hlt
      have hnew := firstK_new hlt
      obtain ⟨ok, hok⟩ : ∃ ok, decide (vs[k] ∈ vs.take k) = ok := ⟨_, rfl⟩
      have hL := lookOk_vec hMq hov rfl ((firstK_some vs k vs[k]).trans hok)
      generalize (firstK vs k vs[k]).getD 0 = r at *
      generalize vs[k] = v at *
      replace hold := hide hold
      replace hnew := hide hnew
      replace hMq := hide hMq
      replace hov := hide hov
      have hTq := hT.pure hq
      clear hM hT
      cases ok
      · have hn := hide (hnew.out (by simpa using hok))
        have hki : okI (k : Int) := okI_of (by omega)
        replace hki := hide hki
        clear hold hnew hok
        go_wp2_with (at_mapUpdate; refine wpList_store_M _ vecM rfl (.tmp 37) (.tmp 38) (.tmp 39) _ rfl Tryz.underlying102 gm k _ rfl hMq.out (by simp [maxLen]; omega) v (k : Int) rfl rfl hov.out hki.out ?_; intro w2 hM3 hg3)
        have hT3 := hTq.gr hg3 (by intro e; injection e; omega)
        have hM4 : MapOf vecM w2 gm (k + 1) (firstK vs (k + 1)) := by rw [← hn.out]; exact hM3
        have hg4 : W.grownBy w2 none := gr_row (gr_trans hg hq) hg3 (fun g e => by injection e; omega)
        clear hM3 hn
        go_wp2
        (go_roundw; (case rel => exact ⟨k + 1, by omega, by go_num, hM4, hT3, hg4⟩); (case measure => simp [intOf]; omega))
      · have hn := hide (hold.out (by simpa using hok))
        clear hold hnew hok
        go_wp2_with fail
        (go_roundw; (case rel => exact ⟨k + 1, by omega, by go_num, by rw [hn.out]; exact hMq.out.mono (by omega), hTq, gr_trans hg hq⟩); (case measure => simp [intOf]; omega))
    · have hkn : k = vs.length := by omega
      subst hkn
      have b0r := hg.k b0
      have hlt0 : w.heap.size < wr.heap.size := cell_lt b0r
      obtain ⟨go, hgo⟩ : ∃ g, g = wr.heap.size := ⟨_, rfl⟩
      obtain ⟨W3, hW3⟩ : ∃ x, x = wr.alloc (.cells #[.slice A vs.length c, .slice none 0 0] 29) := ⟨_, rfl⟩
      have hq0 := gr_alloc (World.grownBy.refl wr none) (.cells [.slice A vs.length c, .slice none 0 0].toArray 29)
      have hO : Box W3 go 29 [.slice A vs.length c, .slice none 0 0] := by rw [hW3, hgo]; exact Box.new wr [.slice A vs.length c, .slice none 0 0] 29
      have hg3 : W.grownBy W3 none := by rw [hW3]; exact gr_trans hg hq0
      have hM3 : MapOf vecM W3 gm vs.length (firstK vs vs.length) := by rw [hW3]; exact hM.kept hq0 (by simp)
      have hT3 : Box W3 gt 102 [.map (some gm)] := by rw [hW3]; exact hT.pure hq0
      have htgo : gt < go := by omega
      replace hW3 := hide hW3.symm
      replace hgo := hide hgo.symm
      clear hq0 hM hT hlt1 hgw
      go_upto_region 14 with fail
      rw [hW3.out, hgo.out]
      have b1' := hg3.k b1
      clear hg b0r u0 v0 hlt0
      go_wp2_with fail
      go_loopw [48] (fun i wr => ∃ (k : Nat) (B' : Option Addr) (d' : Nat), k ≤ fs.length ∧ i = .int .i64 k ∧ MapOf vecM wr gm vs.length (firstK vs vs.length) ∧ Box wr gt 102 [.map (some gm)] ∧ Box wr go 29 [.slice A vs.length c, .slice B' (weldK vs fs k).length d'] ∧ Own wr (go + 1) 32 B' d' (weldK vs fs k) ∧ W.grownBy wr none) (fun i _ => fs.length - (intOf i).toNat)
      case atStart => exact ⟨0, none, 0, by omega, rfl, hM3, hT3, by rw [weldK_zero]; exact hO, by rw [weldK_zero]; exact Own.nil _ _ _, hg3⟩
      case round =>
        clear hM3 hT3 hO hg3 b1'
        obtain ⟨k, B', d', hk, rfl, hM0, hT0, hO0, hF0, hg0⟩ := hrel
        have hgw := gr_trans hgW hg0
        by_cases hlt : k < fs.length
        · obtain ⟨gf, of, rfl, -, hbf, hcc⟩ := (hfs.pure hgw).fc (by omega)
          obtain ⟨x0, x1, x2⟩ := hcc k hlt
          clear hcc
          have hmem := List.getElem_mem hlt
          have hfi := inF_bd (hin.out _ hmem)
          obtain ⟨ia, eia⟩ := Int.eq_ofNat_of_zero_le hfi.1.1
          obtain ⟨ib, eib⟩ := Int.eq_ofNat_of_zero_le hfi.2.1.1
          obtain ⟨ic, eic⟩ := Int.eq_ofNat_of_zero_le hfi.2.2.1
          have hia : ia < vs.length := by omega
          have hib : ib < vs.length := by omega
          have hic : ic < vs.length := by omega
          have hwf := weldF_of eia eib eic hia hib hic
          rw [eia] at x0
          rw [eib] at x1
          rw [eic] at x2
          have hyes := weldK_yes (vs := vs) hlt hwf
          have hno := weldK_no (vs := vs) hlt hwf
          have hkl := weldK_len vs fs k
          have hca := fun wx (hx : wr.grownBy wx none) => weldCl_any gt w.heap.size gm vs.length ia A c vs wx (hl.pure (gr_trans hgw hx)) (hx.k (hT0.c 0 rfl).1) ((gr_trans hg0 hx).k b0) (hM0.kept hx (by simp)) hia (hokv.out _ (List.getElem_mem hia))
          have hcb := fun wx (hx : wr.grownBy wx none) => weldCl_any gt w.heap.size gm vs.length ib A c vs wx (hl.pure (gr_trans hgw hx)) (hx.k (hT0.c 0 rfl).1) ((gr_trans hg0 hx).k b0) (hM0.kept hx (by simp)) hib (hokv.out _ (List.getElem_mem hib))
          have hcc := fun wx (hx : wr.grownBy wx none) => weldCl_any gt w.heap.size gm vs.length ic A c vs wx (hl.pure (gr_trans hgw hx)) (hx.k (hT0.c 0 rfl).1) ((gr_trans hg0 hx).k b0) (hM0.kept hx (by simp)) hic (hokv.out _ (List.getElem_mem hic))
          generalize ((fstV vs vs[ia] : Nat) : Int) = ra at *
          generalize ((fstV vs vs[ib] : Nat) : Int) = rb at *
          generalize ((fstV vs vs[ic] : Nat) : Int) = rc at *
          clear hwf eia eib eic hfi hmem hia hib hic
          obtain ⟨FL, hFL⟩ : ∃ FL, FL = weldK vs fs k := ⟨_, rfl⟩
          rw [← hFL] at hO0 hF0 hyes hno hkl
          replace hFL := hide hFL
          replace hyes := hide hyes
          replace hno := hide hno
          replace hca := hide hca
          replace hcb := hide hcb
          replace hcc := hide hcc
          replace hF0 := hide hF0
          replace hO0 := hide hO0
          replace hT0 := hide hT0
          replace hM0 := hide hM0
          go_upto_region 17 with fail
          obtain ⟨gx, hgx⟩ : ∃ g, g = wr.heap.size := ⟨_, rfl⟩
          obtain ⟨wn, hwn⟩ : ∃ x, x = wr.alloc (.cells #[.int .i64 ia, .int .i64 ib, .int .i64 ic] 32) := ⟨_, rfl⟩
          have hbn : Box wn gx 32 [.int .i64 ia, .int .i64 ib, .int .i64 ic] := by rw [hwn, hgx]; exact Box.new _ _ _
          have hgn : wr.grownBy wn none := by rw [hwn]; exact gr_alloc (World.grownBy.refl _ _) _
          rw [← hwn, ← hgx]
          have hgx2 : wr.heap.size ≤ gx := by omega
          clear hwn hgx
          have hB : ∀ wx, wn.grownBy wx none → wx.cell? ⟨gx, 0, none⟩ = some (.int .i64 ia) ∧ wx.cell? ⟨gx, 1, none⟩ = some (.int .i64 ib) ∧ wx.cell? ⟨gx, 2, none⟩ = some (.int .i64 ic) := fun wx hx => ⟨hx.k (hbn.c 0 rfl).1, hx.k (hbn.c 1 rfl).1, hx.k (hbn.c 2 rfl).1⟩
          replace hB := hide hB
          clear x0 x1 x2
          refine wp_region_tree (fun wx => wn.grownBy wx none) [2, 2, 1, 0, 2, 2, 1, 0, 2, 2, 1, 0, 2, 0] (.bl 0 (.bl 1 (.bl 2 (.bl 4 (.bl 5 (.bl 6 (.bl 8 (.bl 9 (.bl 10 (.ef 3 (.ef 7 (.ef 11 (.bl 12 (.ef 13 .done)))))))))))))) (by kernel_rfl) (by kernel_rfl) (gr_drew (World.grownBy.refl _ _)) ?_
          obtain ⟨w1, hw1⟩ : ∃ x, x = (wn).drew := ⟨_, rfl⟩
          rw [← hw1]
          have hgw1 : (wn).grownBy w1 none := by rw [hw1]; exact gr_drew (World.grownBy.refl _ _)
          clear hw1
          refine tree_p rfl rfl rfl rfl _ rfl (by simp) (fun K hK => ?_)
          apply Exists.intro
          refine ⟨fun wq K' hK' => ?_, ?_⟩
          · go_wp2_with fail
            exact hK'
          go_simp
          refine hK _ ?_
          clear hK K
          refine tree_p rfl rfl rfl rfl _ rfl (by simp) (fun K hK => ?_)
          apply Exists.intro
          refine ⟨fun wq K' hK' => ?_, ?_⟩
          · go_wp2_with fail
            exact hK'
          go_simp
          refine hK _ ?_
          clear hK K
          refine tree_b rfl rfl rfl rfl _ rfl (by simp) (fun K hK => ?_)
          apply Exists.intro
          refine ⟨fun wq hq K' hK' => ?_, ?_⟩
          · obtain ⟨c0, c1, c2⟩ := hB.out wq hq
            go_wp2_with fail
            exact hK'
          go_simp
          refine hK _ ?_
          clear hK K
          refine tree_p rfl rfl rfl rfl _ rfl (by simp) (fun K hK => ?_)
          apply Exists.intro
          refine ⟨fun wq K' hK' => ?_, ?_⟩
          · go_wp2_with fail
            exact hK'
          go_simp
          refine hK _ ?_
          clear hK K
          refine tree_p rfl rfl rfl rfl _ rfl (by simp) (fun K hK => ?_)
          apply Exists.intro
          refine ⟨fun wq K' hK' => ?_, ?_⟩
          · go_wp2_with fail
            exact hK'
          go_simp
          refine hK _ ?_
          clear hK K
          refine tree_b rfl rfl rfl rfl _ rfl (by simp) (fun K hK => ?_)
          apply Exists.intro
          refine ⟨fun wq hq K' hK' => ?_, ?_⟩
          · obtain ⟨c0, c1, c2⟩ := hB.out wq hq
            go_wp2_with fail
            exact hK'
          go_simp
          refine hK _ ?_
          clear hK K
          refine tree_p rfl rfl rfl rfl _ rfl (by simp) (fun K hK => ?_)
          apply Exists.intro
          refine ⟨fun wq K' hK' => ?_, ?_⟩
          · go_wp2_with fail
            exact hK'
          go_simp
          refine hK _ ?_
          clear hK K
          refine tree_p rfl rfl rfl rfl _ rfl (by simp) (fun K hK => ?_)
          apply Exists.intro
          refine ⟨fun wq K' hK' => ?_, ?_⟩
          · go_wp2_with fail
            exact hK'
          go_simp
          refine hK _ ?_
          clear hK K
          refine tree_b rfl rfl rfl rfl _ rfl (by simp) (fun K hK => ?_)
          apply Exists.intro
          refine ⟨fun wq hq K' hK' => ?_, ?_⟩
          · obtain ⟨c0, c1, c2⟩ := hB.out wq hq
            go_wp2_with fail
            exact hK'
          go_simp
          refine hK _ ?_
          clear hK K
          refine tree_e rfl rfl (fun K hK => ?_)
          go_wp2_with fail
          refine (hca.out w1 (gr_trans hgn (gr_trans hgw1 (World.grownBy.refl _ _)))).mono ?_
          rintro e w3 ⟨rfl, hg3⟩
          go_wp2_with fail
          try go_simp
          refine hK _ _ (gr_trans (gr_trans hgw1 (World.grownBy.refl _ _)) hg3) ?_
          clear hK K
          refine tree_e rfl rfl (fun K hK => ?_)
          go_wp2_with fail
          refine (hcb.out w3 (gr_trans hgn (gr_trans hgw1 hg3))).mono ?_
          rintro e w7 ⟨rfl, hg7⟩
          go_wp2_with fail
          try go_simp
          refine hK _ _ (gr_trans (gr_trans hgw1 hg3) hg7) ?_
          clear hK K
          refine tree_e0 (by kernel_rfl) rfl rfl (fun K hK => ?_)
          go_wp2_with fail
          refine (hcc.out w7 (gr_trans hgn (gr_trans hgw1 (gr_trans hg3 hg7)))).mono ?_
          rintro e w11 ⟨rfl, hg11⟩
          go_wp2_with fail
          try go_simp
          refine hK _ _ trivial ?_
          clear hK K
          refine tree_p rfl rfl rfl rfl _ rfl (by simp) (fun K hK => ?_)
          apply Exists.intro
          refine ⟨fun wq K' hK' => ?_, ?_⟩
          · go_wp2_with fail
            exact hK'
          go_simp
          refine hK _ ?_
          clear hK K
          refine tree_e0 (by kernel_rfl) rfl rfl (fun K hK => ?_)
          have hb14 := hbn.pure (w' := w11) (gr_trans hgw1 (gr_trans (gr_trans hg3 hg7) hg11))
          obtain ⟨m0, f0⟩ := hb14.c 0 rfl
          obtain ⟨m1, f1⟩ := hb14.c 1 rfl
          obtain ⟨m2, f2⟩ := hb14.c 2 rfl
          have hgg := gr_trans hgn (gr_trans hgw1 (gr_trans (gr_trans hg3 hg7) hg11))
          go_wp2_with fail
          try go_simp
          refine hK _ _ trivial ?_
          clear hK K
          refine tree_done ?_
          obtain ⟨wg, hwg⟩ : ∃ x, x = (((w11).setCell ⟨gx, 0, none⟩ (.int .i64 ra)).setCell ⟨gx, 1, none⟩ (.int .i64 rb)).setCell ⟨gx, 2, none⟩ (.int .i64 rc) := ⟨_, rfl⟩
          rw [← hwg]
          have hbg : Box wg gx 32 [.int .i64 ra, .int .i64 rb, .int .i64 rc] := by rw [hwg]; exact ((hb14.set_ 0 _ (by simp)).set_ 1 _ (by simp)).set_ 2 _ (by simp)
          replace hgg : wr.grownBy wg none := by rw [hwg]; exact gr_set (gr_set (gr_set hgg (.inr hgx2) _) (.inr hgx2) _) (.inr hgx2) _
          clear hwg hb14 m0 m1 m2 f0 f1 f2
          obtain ⟨y0, z0⟩ := hbg.c 0 rfl
          obtain ⟨y1, z1⟩ := hbg.c 1 rfl
          obtain ⟨y2, z2⟩ := hbg.c 2 rfl
          have hO := hO0.out.pure hgg
          have hF := hF0.out.pure hgg
          have hM := hM0.out.kept hgg (by simp)
          have hT := hT0.out.pure hgg
          have hg := gr_trans hg0 hgg
          have hltb := hbg.lt
          have hlto := hO.lt
          obtain ⟨o0, p0⟩ := hO.c 0 rfl
          obtain ⟨o1, p1⟩ := hO.c 1 rfl
          replace hM := hide hM
          by_cases hok : okFc ⟨ra, rb, rc⟩ = true
          · have hsn := hide (hyes.out hok)
            simp only [okFc, Bool.and_eq_true] at hok
            obtain ⟨k1, k2, k3⟩ := hok
            have hq := gr_alloc (World.grownBy.refl wg none) (.cells #[.int .i64 ra, .int .i64 rb, .int .i64 rc] 32)
            replace hF := hide hF
            replace hT := hide hT
            clear hyes hno
            go_wp2_with (at_builtin; obtain ⟨i0, hi, hz, h1, h2⟩ := info_parts info_face; refine wpList_pushAt (α := Fc) _ rfl (.tmp 85) (.tmp 87) _ rfl (go + 1) 32 i0 _ 24 Tryz.underlying27 hi hz h1 h2 rfl _ _ _ FL rfl ?c1 (by exact (hF.out.pure hq)) 0 ⟨_, 0, none⟩ 1 1 [⟨ra, rb, rc⟩] rfl rfl (by exact (sl_oneAt _ 0 _ _ _ _ (by first | rfl | simp) (Nat.zero_le _) rfl)) ?c2 ?c3 ?c4 ?_)
            case c1 => rfl
            case c2 => simp; omega
            case c3 => simp [maxLen]; omega
            case c4 => have := hg.size; have := hq.size; omega
            intro B5 d5 w5 hF5 hG5
            have hoq := hF.out.pure hq
            have hO5 := (hO.pure hq).gr hG5.1 ((hO.pure hq).ne_own hoq (by decide))
            have hT5 := (hT.out.pure hq).gr hG5.1 ((hT.out.pure hq).ne_own hoq (by decide))
            have hM5 := (hM.out.kept hq (by simp)).kept hG5.1 (fun e => by have := (hoq.blk_lt e).1; omega)
            have hg05 : W.grownBy w5 none := gr_row (gr_trans hg hq) hG5.1 (fun x e => by have := (hoq.blk_lt e).1; omega)
            rw [← hsn.out] at hF5
            obtain ⟨o0, p0⟩ := hO5.c 0 rfl
            obtain ⟨o1, p1⟩ := hO5.c 1 rfl
            have hgs5 := gr_set (World.grownBy.refl w5 (some go)) (p := ⟨go, 1, none⟩) (.inl rfl) (.slice B5 (FL.length + 1) d5)
            have hO6 := hide (hO5.set_ 1 (.slice B5 (FL.length + 1) d5) (by simp))
            have hF6 := hide (hF5.set_other (i := 1) (.slice B5 (FL.length + 1) d5) (hO5.ne_own hF5 (by decide)))
            have hT6 := hide (hT5.gr hgs5 (by intro e; injection e; omega))
            have hM6 := hide (hM5.kept hgs5 (by intro e; injection e; omega))
            have hg06 := hide (gr_set hg05 (p := ⟨go, 1, none⟩) (.inr (by simp only; omega)) (.slice B5 (FL.length + 1) d5))
            have hln : Hid ((weldK vs fs (k + 1)).length = FL.length + 1) := by rw [Hid, hsn.out, List.length_append]; rfl
            clear hO5 hF5 hg05 hoq hG5 hsn hT5 hM5 hgs5
            go_wp2_with fail
            (go_roundw; (case rel => exact ⟨k + 1, B5, d5, by omega, by go_num, hM6.out, hT6.out, by rw [hln.out]; exact hO6.out, hF6.out, hg06.out⟩); (case measure => simp [intOf]; omega))
          · have hno2 := hide (hno.out (by simpa using hok))
            rw [← hno2.out] at hO hF
            have hbb : (ra != rb) = false ∨ ((ra != rb) = true ∧ (rb != rc) = false) ∨ ((ra != rb) = true ∧ (rb != rc) = true ∧ (rc != ra) = false) := by
              simp only [okFc] at hok
              cases h1 : (ra != rb) <;> cases h2 : (rb != rc) <;> cases h3 : (rc != ra) <;> simp_all
            clear hok hyes hno hno2
            replace hO := hide hO
            replace hF := hide hF
            replace hT := hide hT
            rcases hbb with h1 | ⟨h1, h2⟩ | ⟨h1, h2, h3⟩
            all_goals
              go_wp2_with fail
              (go_roundw; (case rel => exact ⟨k + 1, B', d', by omega, by go_num, hM.out, hT.out, hO.out, hF.out, hg⟩); (case measure => simp [intOf]; omega))
        · have hkn : k = fs.length := by omega
          subst hkn
          obtain ⟨o0, p0⟩ := hO0.c 0 rfl
          obtain ⟨o1, p1⟩ := hO0.c 1 rfl
          have hg := hg0
          have hSV := hl.pure hgw
          have hSF := hF0.sl.mono (Nat.zero_le _)
          have hinp := weldK_in (vs := vs) hin.out fs.length
          have hffl : (weldK vs fs fs.length).length ≤ 2000 := by have := weldK_len vs fs fs.length; omega
          clear hO0 hF0 hM0 hT0 hk
          obtain ⟨PF, hPF⟩ : ∃ PF, PF = weldK vs fs fs.length := ⟨_, rfl⟩
          have hPM : Hid (weldM vs fs = trimM ⟨vs, PF⟩) := by rw [Hid, hPF]; rfl
          rw [← hPF] at hSF hinp hffl o1
          clear hPF
          have hU := trimmed_any A c vs B' d' PF wr hSV hSF hinp hvl hffl
          obtain ⟨TM, hTM⟩ : ∃ TM, TM = trimM ⟨vs, PF⟩ := ⟨_, rfl⟩
          rw [← hTM] at hU
          replace hU := hide hU
          obtain ⟨k0, kf0⟩ := q0.out.gr hg (by simp)
          obtain ⟨k1, kf1⟩ := q1.out.gr hg (by simp)
          have hwr := gr_trans hgW hg
          have hle : w.heap.size + 1 < W.heap.size := by have := hWs.out; omega
          have hlw := hg.size
          replace hTM : Hid (weldM vs fs = TM) := by rw [Hid, hTM]; exact hPM.out
          clear hPM hSV hSF hinp
          go_wp2_with fail
          refine hU.out.mono ?_
          rintro e wu ⟨Au, cu, Bu, du, rfl, huV, huF, hgu⟩
          have hR := checked_any Au cu TM.vs Bu du TM.fs wu W.heap.size (huV.lower hlw).sl (huF.lower hlw).sl
          replace hR := hide hR
          obtain ⟨k0, kf0⟩ := Cell.gr ⟨k0, kf0⟩ hgu (by simp)
          obtain ⟨k1, kf1⟩ := Cell.gr ⟨k1, kf1⟩ hgu (by simp)
          have hwu := gr_trans hwr hgu
          clear huV huF hU
          go_wp2_with fail
          refine hR.out.mono ?_
          rintro e w9 ⟨A9, c9, B9, d9, rfl, hs9, hf9, hg9⟩
          obtain ⟨k0, kf0⟩ := Cell.gr ⟨k0, kf0⟩ hg9 (by simp)
          obtain ⟨k1, kf1⟩ := Cell.gr ⟨k1, kf1⟩ hg9 (by simp)
          have hgs := fun (v1 v2 : Value) => gr_set (gr_set (World.grownBy.refl w9 (some (w.heap.size + 1))) (p := ⟨w.heap.size + 1, 0, none⟩) (.inl rfl) v1) (p := ⟨w.heap.size + 1, 1, none⟩) (.inl rfl) v2
          have hk := fun v1 v2 => gr_row (gr_trans hwu hg9) (hgs v1 v2) (fun g e => by injection e; omega)
          replace hgs := hide hgs
          replace hk := hide hk
          clear hR
          go_wp2_with fail
          refine bodyPost_ret (v := .tuple #[.agg #[.slice A9 (okM TM).vs.length c9, .slice B9 (okM TM).fs.length d9],   .int .i64 (meshF TM)]) (by simp [results, Tryz.results22, go_sem, k0, k1, kf0, kf1]) rfl ?_
          rw [hTM.out]
          exact ⟨A9, c9, B9, d9, rfl, (hs9.gr (hgs.out _ _) (fun g e => by injection e; omega)).mono (by omega), (hf9.gr (hgs.out _ _) (fun g e => by injection e; omega)).mono (by omega), hk.out _ _⟩

theorem welded_any (A : Option Addr) (c : Nat) (vs : List V3) (B : Option Addr) (d : Nat) (fs : List Fc) (w : World) (hl : Sl w 0 A vs) (hfs : Sl w 0 B fs) :
    Calls Tryz.prog 22 #[.agg #[.slice A vs.length c, .slice B fs.length d]] w (SMeshE w.heap.size (weldR vs fs) (weldE vs fs) w) := by
  unfold weldR weldE
  by_cases hM : meshF ⟨vs, fs⟩ = 0
  · rw [if_neg (by simp [hM]), if_neg (by simp [hM])]
    exact welded_ok A c vs B d fs w hl hfs hM
  · rw [if_pos hM, if_pos hM]
    exact welded_bad A c vs B d fs w hl hfs hM

end Go.Proofs.YtbgailgclflaeaaGreatDoor

namespace Go.Proofs.YtbgailgclflaeaaGreatDoor
open Go Go.RowKit Go.Bl

theorem fstV_self {vs : List V3} (h : vs.Nodup) {i : Nat} (hi : i < vs.length) : fstV vs vs[i] = i := by
  refine fstV_at hi (fun hm => ?_) rfl
  obtain ⟨j, hj, e⟩ := List.mem_take_iff_getElem.1 hm
  have := nodup_get h (by omega) hi e
  omega

theorem keepTo_full {vs : List V3} {U : List Bool} (h : ∀ i, i < vs.length → U.getD i false = true) : ∀ k, k ≤ vs.length → keepTo vs U k = vs.take k
  | 0, _ => by simp [keepTo]
  | k + 1, hk => by
    unfold keepTo
    rw [keepTo_full h k (by omega), if_pos (h k (by omega)), take_snoc (by omega), List.getD_eq_getElem?_getD, List.getElem?_eq_getElem (by omega), Option.getD_some]

theorem weld_same {vs : List V3} {fs : List Fc} (hT : Tight vs fs) (hn : ∀ f ∈ fs, normV vs f ≠ ⟨0, 0, 0⟩) : weldM vs fs = ⟨vs, fs⟩ := by
  have hK := weldK_all (vs := vs) (fs := fs) fun f hf => ⟨hT.fin f hf, hn f hf⟩
  have hW : fs.map (weldF vs) = fs := by
    conv => rhs; rw [← List.map_id fs]
    refine List.map_congr_left fun f hf => ?_
    obtain ⟨h1, h2, h3⟩ := inF_abcW (hT.fin f hf)
    rw [weldF_in (hT.fin f hf)]
    obtain ⟨a, ea, ha⟩ := inI_nat h1
    obtain ⟨b, eb, hb⟩ := inI_nat h2
    obtain ⟨c, ec, hc⟩ := inI_nat h3
    rw [ea, eb, ec, atV_nat ha, atV_nat hb, atV_nat hc, fstV_self hT.nd ha, fstV_self hT.nd hb, fstV_self hT.nd hc]
    cases f; simp_all
  unfold weldM trimM
  simp only [hK, hW]
  have hU : ∀ i, i < vs.length → (useL vs.length fs).getD i false = true := fun i hi => by
    obtain ⟨f, hf, hh⟩ := hT.all i hi
    exact useL_yes hi hf hh
  rw [keepTo_full hU vs.length (Nat.le_refl _), List.take_length]
  congr 1
  conv => rhs; rw [← List.map_id fs]
  refine List.map_congr_left fun f hf => ?_
  obtain ⟨h1, h2, h3⟩ := inF_abcW (hT.fin f hf)
  obtain ⟨a, ea, ha⟩ := inI_nat h1
  obtain ⟨b, eb, hb⟩ := inI_nat h2
  obtain ⟨c, ec, hc⟩ := inI_nat h3
  have hr : ∀ i, i < vs.length → rkI vs (useL vs.length fs) i = i := fun i hi => by
    unfold rkI
    rw [keepTo_full hU i (by omega), List.length_take, Nat.min_eq_left (by omega)]
  unfold renum
  rw [ea, eb, ec, Int.toNat_natCast, Int.toNat_natCast, Int.toNat_natCast, hr a ha, hr b hb, hr c hc]
  cases f; simp_all

def pl3 (vs : List V3) (f : Fc) : List V3 := [atV vs f.a, atV vs f.b, atV vs f.c]

def looseV (vs : List V3) (fs : List Fc) : List V3 := fs.flatMap (pl3 vs)

def fc3 (k : Nat) : Fc := ⟨(3 * k : Nat), (3 * k + 1 : Nat), (3 * k + 2 : Nat)⟩

def looseF (n : Nat) : List Fc := (List.range n).map fc3

theorem looseV_len (vs : List V3) (fs : List Fc) : (looseV vs fs).length = 3 * fs.length := by
  induction fs with
  | nil => rfl
  | cons f r ih =>
    show (pl3 vs f ++ looseV vs r).length = _
    rw [List.length_append, ih]; simp [pl3]; omega

theorem looseV_snoc (vs : List V3) {fs : List Fc} {k : Nat} (h : k < fs.length) : looseV vs (fs.take (k + 1)) = looseV vs (fs.take k) ++ pl3 vs fs[k] := by
  unfold looseV
  rw [take_snoc h, List.flatMap_append, List.flatMap_cons, List.flatMap_nil, List.append_nil]

theorem looseF_snoc (k : Nat) : looseF (k + 1) = looseF k ++ [fc3 k] := by
  unfold looseF
  rw [List.range_succ, List.map_append, List.map_singleton]

theorem looseF_len (n : Nat) : (looseF n).length = n := by simp [looseF]

theorem looseV_get (vs : List V3) : ∀ (fs : List Fc) (k : Nat) (h : k < fs.length), (looseV vs fs)[3 * k]? = some (atV vs fs[k].a) ∧ (looseV vs fs)[3 * k + 1]? = some (atV vs fs[k].b) ∧ (looseV vs fs)[3 * k + 2]? = some (atV vs fs[k].c)
  | [], k, h => by simp at h
  | f :: r, 0, _ => ⟨rfl, rfl, rfl⟩
  | f :: r, k + 1, h => by
    obtain ⟨h1, h2, h3⟩ := looseV_get vs r k (by simpa using h)
    have e : looseV vs (f :: r) = atV vs f.a :: atV vs f.b :: atV vs f.c :: looseV vs r := rfl
    rw [e, show 3 * (k + 1) = 3 * k + 2 + 1 by omega, show 3 * k + 2 + 1 + 1 = (3 * k + 1) + 2 + 1 by omega, show 3 * k + 2 + 1 + 2 = (3 * k + 2) + 2 + 1 by omega]
    simp only [List.getElem?_cons_succ, List.getElem_cons_succ]
    exact ⟨h1, h2, h3⟩

theorem atV_get? {vs : List V3} {i : Nat} {v : V3} (h : vs[i]? = some v) : atV vs (i : Int) = v := by
  unfold atV
  rw [Int.toNat_natCast, List.getD_eq_getElem?_getD, h, Option.getD_some]

theorem loose_plcs (vs : List V3) (fs : List Fc) : plcs (looseV vs fs) (looseF fs.length) = plcs vs fs := by
  apply List.ext_getElem
  · simp [plcs, looseF]
  · intro k h1 h2
    have hk : k < fs.length := by simpa [plcs] using h2
    obtain ⟨g1, g2, g3⟩ := looseV_get vs fs k hk
    simp only [plcs, looseF, List.getElem_map, List.getElem_range, fc3, plc]
    rw [atV_get? g1, atV_get? g2, atV_get? g3]

theorem fc3_in {n k : Nat} (h : k < n) : inF (3 * n) (fc3 k) = true := inF_of (by omega) (by omega) (by omega)

theorem looseF_once (n : Nat) : (allS (looseF n)).Nodup ∧ ∀ s ∈ allS (looseF n), s.u < (3 * n : Nat) := by
  induction n with
  | zero => simp [looseF, allS]
  | succ n ih =>
    obtain ⟨h1, h2⟩ := ih
    have e : allS (looseF (n + 1)) = allS (looseF n) ++ sdsOf (fc3 n) := by rw [looseF_snoc, allS_append]; simp [allS]
    rw [e]
    have h3 : ∀ s ∈ sdsOf (fc3 n), ((3 * n : Nat) : Int) ≤ s.u ∧ s.u < (3 * (n + 1) : Nat) := by
      intro s hs
      simp only [sdsOf, fc3, List.mem_cons, List.not_mem_nil, or_false] at hs
      rcases hs with rfl | rfl | rfl <;> simp only <;> omega
    refine ⟨List.nodup_append.2 ⟨h1, ?_, fun a ha b hb e => ?_⟩, fun s hs => ?_⟩
    · simp only [sdsOf, fc3, List.nodup_cons, List.mem_cons, List.not_mem_nil, or_false, Sd.mk.injEq, not_or, not_false_eq_true, List.nodup_nil, and_true]
      omega
    · subst e
      have := h2 a ha
      have := (h3 a hb).1
      omega
    · rcases List.mem_append.1 hs with hs | hs
      · have := h2 s hs; omega
      · exact (h3 s hs).2

theorem faceF_iff {vs : List V3} {f : Fc} : faceF vs f = 0 ↔ inF vs.length f = true ∧ normV vs f ≠ ⟨0, 0, 0⟩ := by
  unfold faceF
  by_cases h1 : inF vs.length f = true
  · rw [if_pos h1]
    by_cases h2 : normV vs f = ⟨0, 0, 0⟩
    · rw [if_pos h2]; simp [h2]
    · rw [if_neg h2]; simp [h1, h2]
  · rw [if_neg h1]; simp [h1]
/-- the right faces of a mesh are told by their places -/
theorem norm_plcs {vs vs' : List V3} {fs fs' : List Fc} (e : plcs vs fs = plcs vs' fs') (h : ∀ f ∈ fs', normV vs' f ≠ ⟨0, 0, 0⟩) : ∀ f ∈ fs, normV vs f ≠ ⟨0, 0, 0⟩ := by
  intro f hf
  have : plc vs f ∈ plcs vs' fs' := by rw [← e]; exact List.mem_map.2 ⟨f, hf, rfl⟩
  obtain ⟨g, hg, e2⟩ := List.mem_map.1 this
  rw [norm_plc, ← e2]
  exact h g hg

theorem mem_far {vs : List V3} (h : vs.any farV = false) {v : V3} (hv : v ∈ vs) : farV v = false := by
  have := List.any_eq_false.1 h v hv
  simpa using this

theorem far_sub {vs vs' : List V3} (h : vs.any farV = false) (hs : ∀ v ∈ vs', v ∈ vs) : vs'.any farV = false :=
  List.any_eq_false.2 fun v hv => by rw [mem_far h (hs v hv)]; simp

def volS (vs : List V3) (fs : List Fc) : Int := (fs.map (partV vs)).sum

theorem volS_pl (vs : List V3) (fs : List Fc) : volS vs fs = ((plcs vs fs).map volP).sum := by
  unfold volS plcs
  rw [List.map_map]; rfl

structure WeldOk (vs : List V3) (fs : List Fc) : Prop where
  t : Tight vs fs
  ok : meshF ⟨vs, fs⟩ = 0

theorem weld_once {vs : List V3} {fs : List Fc} (hM : meshF ⟨vs, fs⟩ = 0) : weldE vs fs = meshF (weldM vs fs) ∧ (weldE vs fs = 0 ∨ weldE vs fs = 6) ∧ weldR vs fs = okM (weldM vs fs) ∧ Tight (weldM vs fs).vs (weldM vs fs).fs ∧ plcs (weldM vs fs).vs (weldM vs fs).fs = plcs vs fs ∧ (weldM vs fs).fs.length = fs.length := by
  obtain ⟨h1, h2, h3, h4, h5, h6⟩ := meshOk.1 hM
  have h7 : ∀ f ∈ fs, inF vs.length f = true ∧ normV vs f ≠ ⟨0, 0, 0⟩ := fun f hf => faceF_iff.1 (h5 f hf)
  obtain ⟨t, e, l, s⟩ := weld_tight h7
  have hE : weldE vs fs = meshF (weldM vs fs) := by unfold weldE; rw [if_neg (by simp [hM])]
  refine ⟨hE, ?_, ?_, t, e, l⟩
  · rw [hE]
    unfold meshF
    have k1 : (weldM vs fs).fs ≠ [] := by
      intro h; rw [h] at l; simp at l
      exact h1 (List.eq_nil_of_length_eq_zero l.symm)
    have k2 : (weldM vs fs).vs.length ≤ 1000 := Nat.le_trans (keepTo_len _ _ _) h2
    rw [if_neg k1, if_neg (show ¬ (1000 < (weldM vs fs).vs.length ∨ 1000 < (weldM vs fs).fs.length) by omega), if_neg (by simp only [far_sub h4 s]; decide), if_pos (facesF_all fun f hf => faceF_iff.2 ⟨t.fin f hf, norm_plcs e (fun g hg => (h7 g hg).2) f hf⟩)]
    by_cases k : (allS (weldM vs fs).fs).Nodup
    · rw [if_pos k]; exact .inl rfl
    · rw [if_neg k]; exact .inr rfl
  · unfold weldR; rw [if_neg (by simp [hM])]

theorem weld_again {vs : List V3} {fs : List Fc} (hT : Tight vs fs) (hM : meshF ⟨vs, fs⟩ = 0) : weldE vs fs = 0 ∧ weldR vs fs = ⟨vs, fs⟩ := by
  have h5 := (meshOk.1 hM).face
  have hs := weld_same hT fun f hf => (faceF_iff.1 (h5 f hf)).2
  unfold weldE weldR
  rw [if_neg (by simp [hM]), if_neg (by simp [hM]), hs]
  refine ⟨hM, ?_⟩
  unfold okM; rw [if_pos hM]

theorem weld_loose {vs : List V3} {fs : List Fc} (hT : Tight vs fs) (hM : meshF ⟨vs, fs⟩ = 0) (hl : fs.length ≤ 300) : meshF ⟨looseV vs fs, looseF fs.length⟩ = 0 ∧ ∃ xv xf, weldE (looseV vs fs) (looseF fs.length) = 0 ∧ weldR (looseV vs fs) (looseF fs.length) = ⟨xv, xf⟩ ∧ meshF ⟨xv, xf⟩ = 0 ∧ xv.length = vs.length ∧ xf.length = fs.length ∧ volS xv xf = volS vs fs ∧ (openS xf = [] ↔ openS fs = []) := by
  obtain ⟨h1, h2, h3, h4, h5, h6⟩ := meshOk.1 hM
  have hp := loose_plcs vs fs
  have h7 : ∀ f ∈ fs, inF vs.length f = true ∧ normV vs f ≠ ⟨0, 0, 0⟩ := fun f hf => faceF_iff.1 (h5 f hf)
  have hin : ∀ f ∈ looseF fs.length, inF (looseV vs fs).length f = true := fun f hf => by
    obtain ⟨k, hk, rfl⟩ := List.mem_map.1 hf
    rw [looseV_len]; exact fc3_in (by simpa using hk)
  have hL : meshF ⟨looseV vs fs, looseF fs.length⟩ = 0 := meshOk.2 ⟨fun h => h1 (List.eq_nil_of_length_eq_zero (by rw [← looseF_len fs.length, h]; rfl)), by rw [looseV_len]; omega, by rw [looseF_len]; omega, far_sub h4 fun v hv => by
      obtain ⟨f, hf, hv⟩ := List.mem_flatMap.1 hv
      obtain ⟨k1, k2, k3⟩ := inF_abcW (h7 f hf).1
      simp only [pl3, List.mem_cons, List.not_mem_nil, or_false] at hv
      rcases hv with rfl | rfl | rfl
      · exact atV_mem k1
      · exact atV_mem k2
      · exact atV_mem k3, fun f hf => faceF_iff.2 ⟨hin f hf, norm_plcs hp (fun g hg => (h7 g hg).2) f hf⟩, (looseF_once fs.length).1⟩
  obtain ⟨e1, e2, e3, t, e4, e5⟩ := weld_once hL
  refine ⟨hL, ?_⟩
  generalize weldM (looseV vs fs) (looseF fs.length) = X at *
  rw [hp] at e4
  have hX : meshF ⟨X.vs, X.fs⟩ = 0 := by
    rcases e2 with h | h
    · rw [e1] at h; exact h
    · exfalso
      have hne : meshF ⟨X.vs, X.fs⟩ = 6 := by rw [e1] at h; exact h
      have hnd : (allS X.fs).Nodup := by rw [t.once, e4]; exact hT.once.1 h6
      unfold meshF at hne
      simp only [hnd, if_true] at hne
      repeat' split at hne
      all_goals first | omega | skip
      all_goals
        rename_i q
        exact q (facesF_all fun f hf => faceF_iff.2 ⟨t.fin f hf, norm_plcs e4 (fun g hg => (h7 g hg).2) f hf⟩)
  refine ⟨X.vs, X.fs, by rw [e1]; exact hX, ?_, hX, t.len hT e4, by rw [e5, looseF_len], ?_, ?_⟩
  · rw [e3]; unfold okM; rw [if_pos hX]
  · rw [volS_pl, volS_pl, e4]
  · rw [← closed_open, ← closed_open, t.closed, hT.closed, e4]

end Go.Proofs.YtbgailgclflaeaaGreatDoor

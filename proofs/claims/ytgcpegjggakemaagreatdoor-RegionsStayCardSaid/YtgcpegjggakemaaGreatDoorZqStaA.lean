/- Contracts of functions that this seat's laws reach, each: what one call returns and what it leaves in memory; no condition beyond each theorem's own hypotheses. -/
import Derived.Test.YtgcpegjggakemaaGreatDoorZqHulA
import Derived.Test.YtgcpegjggakemaaGreatDoorZqPtCl
import Derived.Test.YtgcpegjggakemaaGreatDoorSortPt
import Derived.Test.YtgcpegjggakemaaGreatDoorSortRing
import Derived.Shelf.SlSortCmp.Whole1
import Derived.Test.YtgcpegjggakemaaGreatDoorZqRegGeo
import Derived.Test.YtgcpegjggakemaaGreatDoorZqRegSame
import Derived.Test.YtgcpegjggakemaaGreatDoorZqRegH
import Derived.Test.YtgcpegjggakemaaGreatDoorZqFlowD
import Derived.Test.YtgcpegjggakemaaGreatDoorZqCelN
import Derived.Test.YtgcpegjggakemaaGreatDoorZqFarmK
import Derived.Test.YtgcpegjggakemaaGreatDoorZqRegB
import Derived.Deep.DeepCutAuto
import Derived.Test.YtgcpegjggakemaaGreatDoorZqNestCat
set_option linter.unusedVariables false
set_option linter.unusedSimpArgs false
namespace Go.Bl
open Go

theorem Own.takeH {α : Type} [Enc α] {w : World} {lo : Nat} {e : TypeId} {A : Option Addr} {c : Nat} {l : List α} (h : Own w lo e A c l) (k : Nat) (hk : k ≤ l.length) : Own w lo e A c (l.take k) := by
  obtain ⟨hm, cs, hr, ho⟩ := h
  have hl : (l.take k).length = k := by rw [List.length_take]; omega
  have hrl := (hr.take k).len
  rw [hl] at hrl
  refine ⟨by omega, cs.take (k * Enc.sz α), hr.take k, by rw [hl]; exact hrl, ?_⟩
  rw [hl]
  rcases ho.2 with ⟨h1, h2⟩ | ⟨g, cap, cur, hv, hb, hh, hn, hc, hs, ht⟩
  · injection h1 with a b d
    exact .inl ⟨by rw [a, d, show k = 0 by omega], by omega⟩
  · injection hv with a b d
    refine .inr ⟨g, cap, cur, by rw [a, d], hb, hh, by omega, hc, hs, ?_⟩
    rw [← ht, List.take_take]
    congr 1
    exact (Nat.min_eq_left (Nat.mul_le_mul_right _ hk)).symm

theorem Sl.dropH {α : Type} [Enc α] {w : World} {lo : Nat} {g o : Nat} {l : List α} (h : Sl w lo (some ⟨g, o, none⟩) l) (k : Nat) : Sl w lo (some ⟨g, o + k * Enc.sz α, none⟩) (l.drop k) := by
  obtain ⟨hm, cs, hr, hl⟩ := h
  refine ⟨by rw [List.length_drop]; omega, _, hr.drop k, fun hne => ?_⟩
  obtain ⟨ad, e, hb, hc⟩ := hl (by rintro rfl; simp at hne)
  injection e with e
  subst e
  refine ⟨_, rfl, hb, fun j u hu => ?_⟩
  rw [List.getElem?_drop] at hu
  have := hc _ u hu
  rw [Addr.add_lit] at this ⊢
  rwa [Nat.add_assoc]

theorem Own.spareH {α : Type} [Enc α] {w : World} {lo : Nat} {e : TypeId} {g c : Nat} {l : List α} (h : Own w lo e (some ⟨g, 0, none⟩) c l) {j : Nat} (hj : j < c * Enc.sz α) : (w.cell? ⟨g, j, none⟩).isSome = true := by
  obtain ⟨hm, cs, hr, h1, h2⟩ := h
  rcases h2 with ⟨h2, _⟩ | ⟨g', cap, cur, hv, _, hh, _, _, hs, _⟩
  · simp at h2
  · injection hv with a b d
    injection a with a
    injection a with a
    subst a
    subst d
    rw [cell_of_row _ _ _ _ _ _ hh, Array.getElem?_eq_getElem (by omega)]
    rfl

theorem Own.pastH {α : Type} [Enc α] [Flat α] {w : World} {lo : Nat} {e : TypeId} {g c : Nat} {l : List α} (h : Own w lo e (some ⟨g, 0, none⟩) c l) {j : Nat} (hj : l.length * Enc.sz α ≤ j) (u : Value) : Own (w.setCell ⟨g, j, none⟩ u) lo e (some ⟨g, 0, none⟩) c l ∧ w.grownBy (w.setCell ⟨g, j, none⟩ u) (some g) := by
  obtain ⟨hm, cs, hr, ho⟩ := h
  have hl := hr.len
  obtain ⟨h1, h2⟩ := ho.stored j u
  rw [List.set_eq_of_length_le (by omega)] at h1
  exact ⟨⟨hm, cs, hr.flat, h1⟩, h2⟩

theorem Own.pastN {α : Type} [Enc α] [Flat α] {lo : Nat} {e : TypeId} {g c : Nat} {l : List α} : ∀ (vs : List Value) {w : World} {j : Nat}, Own w lo e (some ⟨g, 0, none⟩) c l → l.length * Enc.sz α ≤ j → Own (w.setCells g j vs) lo e (some ⟨g, 0, none⟩) c l ∧ w.grownBy (w.setCells g j vs) (some g)
  | [], w, _, h, _ => ⟨h, World.grownBy.refl _ _⟩
  | v :: r, w, j, h, hj => by
    have h1 := h.pastH hj v
    have h2 := Own.pastN r h1.1 (j := j + 1) (by omega)
    exact ⟨h2.1, gr_trans h1.2 h2.2⟩

end Go.Bl
namespace Go.Proofs.YtgcpegjggakemaaGreatDoor
open Go Go.RowKit Go.Bl Go.Sort Go.Lib

set_option maxRecDepth 100000 in
theorem insNilPt (w : World) (f : Value) : Calls Tryz.prog 196 #[.slice none 0 0, .int .i64 0, .int .i64 0, f] w fun e w' => e = .returned (.tuple #[]) ∧ w = w' := by
  go_enter Tryz.func196, Tryz.ntmps196
  go_wp2_with fail
  refine wp_loop_once ?_
  go_wp2_with fail
  go_end0
  exact ⟨rfl, rfl⟩

set_option maxRecDepth 100000 in
theorem pdqNilPt (w : World) (f : Value) : Calls Tryz.prog 162 #[.slice none 0 0, .int .i64 0, .int .i64 0, .int .i64 0, f] w fun e w' => e = .returned (.tuple #[]) ∧ w = w' := by
  go_enter Tryz.func162, Tryz.ntmps162
  go_wp2_with fail
  refine wp_loop_once ?_
  go_wp2_with (go_at_call 196; refine (insNilPt _ _).mono ?_; rintro e w' ⟨rfl, rfl⟩)
  first
    | (go_ret; exact ⟨rfl, rfl⟩)
    | exact bodyPost_ret (v := .tuple #[]) rfl rfl ⟨rfl, rfl⟩
    | exact bodyPost_ret (v := .tuple #[]) (by simp [results, Tryz.results162]) rfl ⟨rfl, rfl⟩

set_option maxRecDepth 100000 in
theorem sortNilPt (w : World) (f : Value) : Calls Tryz.prog 116 #[.slice none 0 0, f] w fun e w' => e = .returned (.tuple #[]) ∧ w = w' := by
  go_enter Tryz.func116, Tryz.ntmps116
  go_wp2_with fail
  refine (lenBitsS_any _).mono ?_
  rintro e w' ⟨rfl, rfl⟩
  go_wp2_with fail
  refine (pdqNilPt _ _).mono ?_
  rintro e w' ⟨rfl, rfl⟩
  go_wp2_with fail
  go_end0
  exact ⟨rfl, rfl⟩

set_option maxRecDepth 100000 in
theorem insNilRg (w : World) (f : Value) : Calls Tryz.prog 186 #[.slice none 0 0, .int .i64 0, .int .i64 0, f] w fun e w' => e = .returned (.tuple #[]) ∧ w = w' := by
  go_enter Tryz.func186, Tryz.ntmps186
  go_wp2_with fail
  refine wp_loop_once ?_
  go_wp2_with fail
  go_end0
  exact ⟨rfl, rfl⟩

set_option maxRecDepth 100000 in
theorem pdqNilRg (w : World) (f : Value) : Calls Tryz.prog 159 #[.slice none 0 0, .int .i64 0, .int .i64 0, .int .i64 0, f] w fun e w' => e = .returned (.tuple #[]) ∧ w = w' := by
  go_enter Tryz.func159, Tryz.ntmps159
  go_wp2_with fail
  refine wp_loop_once ?_
  go_wp2_with (go_at_call 186; refine (insNilRg _ _).mono ?_; rintro e w' ⟨rfl, rfl⟩)
  first
    | (go_ret; exact ⟨rfl, rfl⟩)
    | exact bodyPost_ret (v := .tuple #[]) rfl rfl ⟨rfl, rfl⟩
    | exact bodyPost_ret (v := .tuple #[]) (by simp [results, Tryz.results159]) rfl ⟨rfl, rfl⟩

set_option maxRecDepth 100000 in
theorem sortNilRg (w : World) (f : Value) : Calls Tryz.prog 111 #[.slice none 0 0, f] w fun e w' => e = .returned (.tuple #[]) ∧ w = w' := by
  go_enter Tryz.func111, Tryz.ntmps111
  go_wp2_with fail
  refine (lenBitsS_any _).mono ?_
  rintro e w' ⟨rfl, rfl⟩
  go_wp2_with fail
  refine (pdqNilRg _ _).mono ?_
  rintro e w' ⟨rfl, rfl⟩
  go_wp2_with fail
  go_end0
  exact ⟨rfl, rfl⟩

theorem isAgg_pt (w : World) : (isAgg 30).run Tryz.prog w = .ok true w := Tryz.isAgg30 w

theorem sizeOf_pt (w : World) : (Go.sizeOf 30).run Tryz.prog w = .ok 2 w := Tryz.sizeOf30 w

set_option maxHeartbeats 1000000 in
theorem sortPt_any (A : Option Addr) (c : Nat) (lo : Nat) (l : List Pt) (w : World) (ho : Own w lo 30 A c l) (hl : l.length ≤ 1000000) :
    Calls Tryz.prog 116 #[.slice A l.length c, .func (.func 110) #[] #[]] w fun e w' => e = .returned (.tuple #[]) ∧ ∃ l' : List Pt, l'.Perm l ∧ (∀ i j (hi : i < l'.length) (hj : j < l'.length), i < j → ¬ (l'[j].y < l'[i].y ∨ l'[j].y = l'[i].y ∧ l'[j].x < l'[i].x)) ∧ Own w' lo 30 A c l' ∧ w.grownBy w' (blk A) := by
  rcases Own.cases ho with ⟨rfl, rfl, rfl⟩ | ⟨g, rfl⟩
  · refine (sortNilPt w _).mono ?_
    rintro e w' ⟨rfl, rfl⟩
    exact ⟨rfl, [], List.Perm.refl _, fun i j hi => by simp at hi, ho, World.grownBy.refl _ _⟩
  · have eg : ∀ args w, (callFunc 110 args).run Tryz.prog w = .ok (.enter 110 args) w := enters_of Tryz.func110 (by kernel_rfl) rfl
    have hsz : l.toArray.size < 4611686018427387904 := by
      simp only [List.size_toArray]; omega
    have hcon := AnyQ.slices_SortFunc Tryz.sortPt 2 isAgg_pt sizeOf_pt EncL.e (fun x => EncL.len x) (fun x v hv => EncL.one x v hv) cmpPt swoPt 110 #[] g 0 c l.toArray w eg (fun m os dk _ x y => (comparePoints_any x y _).mono fun _ _ h => ⟨h.1, h.2.eq⟩) ho.holds (ho.blk_lt rfl).2 hsz
    change Calls Tryz.prog 116 _ _ _ at hcon
    refine hcon.mono ?_
    rintro e w' ⟨rfl, d', n, os, hp, hs, rfl⟩
    obtain ⟨h1, h2, h3⟩ := ho.sorted (n := n) (os := os) hp
    refine ⟨rfl, d'.toList, h1, fun i j hi hj hij => ?_, h2, h3⟩
    have hsz2 : d'.size = l.length := by simpa using (permIn_all hp).2
    have := hs i j (Nat.zero_le _) hij (by simpa [hsz2] using hj)
    rw [ltPt] at this
    simp only [Array.length_toList] at hi hj
    rw [getElem!_pos d' i hi, getElem!_pos d' j hj] at this
    simpa using this

theorem run_clearP (w : World) (ty : TypeId) (g o m c : Nat) (hm : 0 < m) (hc : ∀ j, j < m * 2 → (w.cell? ⟨g, o + j, none⟩).isSome = true) (hf : ∀ j, j < m * 2 → w.frozen? ⟨g, o + j, none⟩ = false) :
    (Builtin.clear_ #[64] ty #[.slice (some ⟨g, o, none⟩) m c]).run Tryz.prog w = .ok (.tuple #[]) (w.setCells g o (List.replicate (m * 2) (.int .i64 0))) := by
  have hv : ∀ w, (zeroValue 30).run Tryz.prog w = .ok (.agg #[.int .i64 0, .int .i64 0]) w := Tryz.zeroValue30
  have hzc : (Builtin.zeroCells (Value.agg #[.int .i64 0, .int .i64 0]).cells m).toList = List.replicate (m * 2) (.int .i64 0) := by
    have e : (Value.agg #[.int .i64 0, .int .i64 0]).cells = #[.int .i64 0, .int .i64 0] := by kernel_rfl
    rw [e]
    simp only [Builtin.zeroCells]
    apply List.ext_getElem
    · simp
    · intro i h1 h2
      have h3 : i % 2 = 0 ∨ i % 2 = 1 := by omega
      rcases h3 with h3 | h3 <;> simp [h3]
  have hst := run_storeCells_cells (P := Tryz.prog) g o (List.replicate (m * 2) (.int .i64 0)) 0 w (by simpa using hc) (by simpa using hf) (by intro v hv'; rw [List.eq_of_mem_replicate hv']; rfl)
  simp only [Nat.add_zero] at hst
  obtain ⟨k, rfl⟩ : ∃ k, m = k + 1 := ⟨m - 1, by omega⟩
  simp [Builtin.clear_, run_underlying Tryz.underlying64, hv, hzc, hst]

end Go.Proofs.YtgcpegjggakemaaGreatDoor

namespace Go.Bl
open Go Go.Sort Go.Proofs

instance : EncL RawS := ⟨fun r => [.slice r.A r.n r.c], Iff.rfl⟩

theorem sortWorld_eq {α : Type} [Inhabited α] (enc : α → Value) (w : World) (g m : Nat) (d : Array α) (os : Array Obj) : sortWorld enc w g 0 m d os = grow (putRow id (Sort.ahead w m) g 0 (d.map enc)) os := by
  unfold sortWorld putRow
  congr 2
  funext c
  unfold putCells
  apply Array.ext_getElem?
  intro k
  simp only [Array.getElem?_mapIdx, Array.size_map, Nat.sub_zero, Nat.zero_add, Nat.zero_le, true_and]
  congr 1
  funext x
  by_cases h : k < d.size
  · rw [if_pos h, if_pos h, getElem!_pos d k h, getElem!_pos (d.map enc) k (by simpa using h)]
    simp
  · rw [if_neg h, if_neg h]

theorem Own.rowPut {α : Type} [Enc α] [Flat α] [EncL α] {w : World} {lo : Nat} {e : TypeId} {g c : Nat} {l l' : List α} (h : Own w lo e (some ⟨g, 0, none⟩) c l) {F : Array Value} {n : Nat} {os : Array Obj} (hl : l'.length = l.length) (hF : F.toList = (l'.map EncL.e).flatten) :
    Own (grow (putRow id (Sort.ahead w n) g 0 F) os) lo e (some ⟨g, 0, none⟩) c l' ∧ w.grownBy (grow (putRow id (Sort.ahead w n) g 0 F) os) (some g) := by
  refine ⟨?_, grownBy_sortedV _⟩
  obtain ⟨hm, cs, hr, ho⟩ := h
  refine ⟨by rw [hl]; exact hm, _, encL_row _, ?_⟩
  rcases ho.2 with ⟨h3, _⟩ | ⟨g', cap, cur, hv, hb, hh, hn, hcm, hs, ht⟩
  · cases h3
  · cases hv
    have hz : F.size = l'.length * Enc.sz α := by
      have := (encL_row (w := w) (lo := lo) l').len
      rw [← hF] at this
      simpa using this
    refine ⟨?_, .inr ⟨g, c, _, rfl, hb, heap_sortedV _ hh, by rw [hl]; exact hn, hcm, by simp [putCells, hs], ?_⟩⟩
    · rw [← hF]; simpa using hz
    · rw [← hF, ← hz]
      exact take_putCellsV _ _ (by rw [hz, hs, hl]; exact Nat.mul_le_mul_right _ hn)

end Go.Bl
namespace Go.Proofs.YtgcpegjggakemaaGreatDoor
open Go Go.RowKit Go.Bl Go.Sort Go.Lib

set_option maxHeartbeats 2000000 in
set_option maxRecDepth 100000 in
theorem normalCmp_any (ga oa gb ob n m ca cb : Nat) (p q : Pt) (w : World) (hn : 0 < n) (hm : 0 < m)
    (a0 : w.cell? ⟨ga, oa, none⟩ = some (.int .i64 p.x)) (a1 : w.cell? ⟨ga, oa + 1, none⟩ = some (.int .i64 p.y)) (b0 : w.cell? ⟨gb, ob, none⟩ = some (.int .i64 q.x)) (b1 : w.cell? ⟨gb, ob + 1, none⟩ = some (.int .i64 q.y)) :
    Calls Tryz.prog 112 #[.slice (some ⟨ga, oa, none⟩) n ca, .slice (some ⟨gb, ob, none⟩) m cb] w fun e w' => e = .returned (.int .i64 (cmpPt p q)) ∧ Qt w w' := by
  have hC := hide fun W => comparePoints_any p q W
  have hcl := hide fun W (h : Qt w W) => (⟨h.g.k a0, h.g.k a1, h.g.k b0, h.g.k b1⟩ : _ ∧ _ ∧ _ ∧ _)
  clear a0 a1 b0 b1
  go_enter Tryz.func112, Tryz.ntmps112
  go_upto_region 1 with fail
  refine wp_region_tree (fun wx => Qt w wx) [2, 2, 1, 2, 2, 1, 0, 2] (.bl 0 (.bl 1 (.bl 2 (.bl 3 (.bl 4 (.bl 5 (.ef 6 (.bl 7 .done)))))))) (by kernel_rfl) (by kernel_rfl) (Qt.drew _) ?_
  obtain ⟨u0, hu0⟩ : ∃ x, x = (w).drew := ⟨_, rfl⟩
  rw [← hu0]
  have hqu0 : Qt w u0 := by rw [hu0]; exact Qt.drew _
  clear hu0
  refine tree_p rfl rfl rfl rfl _ rfl (by simp) (fun K hK => ?_)
  apply Exists.intro
  refine ⟨fun wq K' hK' => ?_, ?_⟩
  · go_wp2_with fail
    exact hK'
  go_simp
  refine hK _ ?_
  clear hK K
  refine tree_p rfl rfl rfl rfl _ rfl (by simp) (fun K hK => ?_)
  apply Exists.intro
  refine ⟨fun wq K' hK' => ?_, ?_⟩
  · go_wp2_with fail
    exact hK'
  go_simp
  refine hK _ ?_
  clear hK K
  refine tree_b rfl rfl rfl rfl _ rfl (by simp) (fun K hK => ?_)
  apply Exists.intro
  refine ⟨fun wq hq K' hK' => ?_, ?_⟩
  · obtain ⟨c0, c1, c2, c3⟩ := hcl.out wq hq
    go_wp2_with fail
    exact hK'
  go_simp
  refine hK _ ?_
  clear hK K
  refine tree_p rfl rfl rfl rfl _ rfl (by simp) (fun K hK => ?_)
  apply Exists.intro
  refine ⟨fun wq K' hK' => ?_, ?_⟩
  · go_wp2_with fail
    exact hK'
  go_simp
  refine hK _ ?_
  clear hK K
  refine tree_p rfl rfl rfl rfl _ rfl (by simp) (fun K hK => ?_)
  apply Exists.intro
  refine ⟨fun wq K' hK' => ?_, ?_⟩
  · go_wp2_with fail
    exact hK'
  go_simp
  refine hK _ ?_
  clear hK K
  refine tree_b rfl rfl rfl rfl _ rfl (by simp) (fun K hK => ?_)
  apply Exists.intro
  refine ⟨fun wq hq K' hK' => ?_, ?_⟩
  · obtain ⟨c0, c1, c2, c3⟩ := hcl.out wq hq
    go_wp2_with fail
    exact hK'
  go_simp
  refine hK _ ?_
  clear hK K
  refine tree_e0 (by kernel_rfl) rfl rfl (fun K hK => ?_)
  go_wp2_with fail
  refine (hC.out u0).mono ?_
  rintro e w6 ⟨rfl, hq6⟩
  go_wp2_with fail
  try go_simp
  refine hK _ _ trivial ?_
  clear hK K
  refine tree_p rfl rfl rfl rfl _ rfl (by simp) (fun K hK => ?_)
  apply Exists.intro
  refine ⟨fun wq K' hK' => ?_, ?_⟩
  · go_wp2_with fail
    exact hK'
  go_simp
  refine hK _ ?_
  clear hK K
  refine tree_done ?_
  go_wp2_with fail
  go_ret
  exact ⟨rfl, hqu0.trans hq6⟩

/-- the first corner of a ring as it lies -/
def FstAt (w : World) (g : Nat) (r : RawS) (p : Pt) : Prop := ∃ ga oa, r.A = some ⟨ga, oa, none⟩ ∧ 0 < r.n ∧ ga ≠ g ∧ ga < w.heap.size ∧ w.cell? ⟨ga, oa, none⟩ = some (.int .i64 p.x) ∧ w.cell? ⟨ga, oa + 1, none⟩ = some (.int .i64 p.y)

theorem FstAt.gr {w w' : World} {g : Nat} {r : RawS} {p : Pt} (h : FstAt w g r p) (hg : w.grownBy w' (some g)) : FstAt w' g r p := by
  obtain ⟨ga, oa, h1, h2, h3, h4, h5, h6⟩ := h
  have hb := hg.block ga h4 (fun e => h3 (by injection e))
  exact ⟨ga, oa, h1, h2, h3, Nat.lt_of_lt_of_le h4 hg.size, (World.cell?_of_block (a := ⟨ga, oa, none⟩) hb).trans h5, (World.cell?_of_block (a := ⟨ga, oa + 1, none⟩) hb).trans h6⟩

set_option maxHeartbeats 1000000 in
theorem sortRg_any (g c lo : Nat) (raws : List RawS) (w : World) (ho : Own w lo 66 (some ⟨g, 0, none⟩) c raws) (hl : raws.length ≤ 1000000) (h0 : 0 < raws.length) (P : Nat → Pt) (hP : ∀ i (h : i < raws.length), FstAt w g raws[i] (P i)) :
    Calls Tryz.prog 111 #[.slice (some ⟨g, 0, none⟩) raws.length c, .func (.func 112) #[] #[]] w fun e w' => e = .returned (.tuple #[]) ∧ ∃ raws' : List RawS, raws'.Perm raws ∧ Own w' lo 66 (some ⟨g, 0, none⟩) c raws' ∧ w.grownBy w' (some g) := by
  have eg : ∀ args w, (callFunc 112 args).run Tryz.prog w = .ok (.enter 112 args) w := enters_of Tryz.func112 (by kernel_rfl) rfl
  haveI : Inhabited (Fin raws.length) := ⟨⟨0, h0⟩⟩
  let enc : Fin raws.length → Value := fun i => .slice raws[i].A raws[i].n raws[i].c
  let cf : Fin raws.length → Fin raws.length → Int := fun i j => cmpPt (P i) (P j)
  have hO : SWO (ltOf cf) := ⟨fun x => swoPt.irrefl _, fun x y z => swoPt.trans _ _ _, fun x y z => swoPt.ntrans _ _ _⟩
  have hfr : ∀ m (d : Array (Fin raws.length)) os, w.grownBy (sortWorld enc w g 0 m d os) (some g) := fun m d os => by rw [sortWorld_eq]; exact grownBy_sortedV _
  let d0 : Array (Fin raws.length) := (List.finRange raws.length).toArray
  have hd0 : d0.size = raws.length := by simp [d0]
  have hH : Holds enc w g 0 d0 := fun j hj => by
    have hj2 : j < raws.length := by rw [← hd0]; exact hj
    obtain ⟨c1, hr, hc⟩ := ho.cell_at (by decide) hj2
    have hr' : c1 = [.slice raws[j].A raws[j].n raws[j].c] := hr
    subst hr'
    have e : d0[j]! = ⟨j, hj2⟩ := by rw [getElem!_pos d0 j hj]; simp [d0]
    rw [e, Nat.zero_add]
    have h1 := hc 0 _ rfl
    rw [show Enc.sz RawS = 1 from rfl, Nat.mul_one] at h1
    exact ⟨h1, ho.frozen j⟩
  have hcmp : CmpLays1 Tryz.prog 112 #[] enc cf g 0 d0.size w := fun m os dk _ x y => by
    obtain ⟨ga, oa, a1, a2, -, -, a5, a6⟩ := (hP x x.2).gr (hfr m dk os)
    obtain ⟨gb, ob, b1, b2, -, -, b5, b6⟩ := (hP y y.2).gr (hfr m dk os)
    have h := normalCmp_any ga oa gb ob raws[x].n raws[y].n raws[x].c raws[y].c (P x) (P y) (sortWorld enc w g 0 m dk os) a2 b2 a5 a6 b5 b6
    rw [← a1, ← b1] at h
    exact h.mono fun _ _ h => ⟨h.1, h.2.eq⟩
  have hcon := Any.slices_SortFunc Tryz.sortRing enc (fun x => rfl) cf hO 112 #[] g 0 c d0 w eg hcmp hH (ho.blk_lt rfl).2 (by rw [hd0]; omega)
  rw [hd0] at hcon
  change Calls Tryz.prog 111 _ _ _ at hcon
  refine hcon.mono ?_
  rintro e w' ⟨rfl, d', n, os, hp, -, rfl⟩
  have hp2 : PermIn 0 d0.size d0 d' := by rw [hd0]; exact hp
  obtain ⟨h1, h2⟩ := permIn_all hp2
  have hmap : (List.finRange raws.length).map (fun i => raws[i]) = raws := by
    apply List.ext_getElem
    · simp
    · intro i h1 h2
      simp
  have hpr : (d'.toList.map fun i => raws[i]).Perm raws := by
    have h3 := h1.map (fun i : Fin raws.length => raws[i])
    have h4 : d0.toList.map (fun i : Fin raws.length => raws[i]) = raws := hmap
    rwa [h4] at h3
  have hF : (d'.map enc).toList = ((d'.toList.map fun i => raws[i]).map EncL.e).flatten := by
    rw [Array.toList_map]
    generalize d'.toList = L
    induction L with
    | nil => rfl
    | cons x L ih => simp only [List.map_cons, List.flatten_cons, ih]; rfl
  rw [sortWorld_eq]
  obtain ⟨h5, h6⟩ := ho.rowPut (n := n) (os := os) hpr.length_eq hF
  exact ⟨rfl, _, hpr, h5, h6⟩

end Go.Proofs.YtgcpegjggakemaaGreatDoor

namespace Go.Proofs.YtgcpegjggakemaaGreatDoor
open Go Go.RowKit Go.Bl

set_option maxHeartbeats 4000000 in
set_option maxRecDepth 100000 in
theorem compactPt_any (g c lo : Nat) (l : List Pt) (w : World) (ho : Own w lo 30 (some ⟨g, 0, none⟩) c l) (hn : l.length ≤ 1000000) :
    Calls Tryz.prog 117 #[.slice (some ⟨g, 0, none⟩) l.length c] w fun e w' => ∃ l' : List Pt, e = .returned (.slice (some ⟨g, 0, none⟩) l'.length c) ∧ Own w' lo 30 (some ⟨g, 0, none⟩) c l' ∧ l'.length ≤ l.length ∧ (∀ p ∈ l', p ∈ l) ∧ w.grownBy w' (some g) := by
  have hcap := ho.cap
  go_enter Tryz.func117, Tryz.ntmps117
  by_cases h2 : l.length < 2
  · go_wp2_with fail
    go_ret
    exact ⟨l, rfl, ho, Nat.le_refl _, fun p h => h, World.grownBy.refl _ _⟩
  · have hw0 := World.grownBy.refl w none
    go_wp2_with fail
    go_loopw [3] (fun i wr => ∃ k : Nat, 1 ≤ k ∧ k ≤ l.length ∧ i = .int .i64 k ∧ w.grownBy wr none) (fun i _ => l.length - (intOf i).toNat)
    case atStart => exact ⟨1, by omega, by omega, rfl, hw0⟩
    case round =>
      clear hw0
      obtain ⟨k, hk1, hk, rfl, hgr⟩ := hrel
      have hor := ho.pure hgr
      by_cases hlt : k < l.length
      · have hml : k - 1 < l.length := by omega
        have hcl := hide fun W (h : wr.grownBy W none) => (⟨(hor.pure h).cell_pt (i := k) hlt, (hor.pure h).cell_pt (i := k - 1) hml⟩ : _ ∧ _)
        generalize l[k] = P at *
        generalize l[k - 1] = Q at *
        clear hor
        go_wp2_with fail
        refine wp_region_fix 9 ((fun wx => wr.grownBy wx none)) (by kernel_rfl) (by kernel_rfl) (gr_drew (World.grownBy.refl _ _)) ?_
        simp only [List.take_succ_cons, List.take_zero, List.drop_succ_cons, List.drop_zero]
        iterate 9 ((refine fix_b (fun K hK => ?_); apply Exists.intro; refine ⟨fun wx hC K' hK' => ?_, ?_⟩; (focus (replace hK' := hide hK'; (obtain ⟨⟨a0, a1⟩, b0, b1⟩ := hcl.out _ hC); go_wp2_with fail; exact hK'.out _ hC)); go_simp; refine hK _ ?_; clear hK K))
        refine fix_nil ?_
        intro wz hC
        replace hgr := gr_trans hgr hC
        clear hC hcl
        obtain ⟨px, py⟩ := P
        obtain ⟨qx, qy⟩ := Q
        by_cases hx : px = qx
        · subst hx
          by_cases hy : py = qy
          · subst hy
            go_wp2_with fail
            have hg2 := gr_any (r := some g) hgr
            have ho2 := ho.pure hgr
            go_loopw [3, 5] (fun i j wr => ∃ (a b : Nat) (l' : List Pt), 1 ≤ a ∧ 1 ≤ b ∧ a + 1 ≤ k + b ∧ k + b ≤ l.length ∧ i = .int .i64 a ∧ j = .int .i64 b ∧ Hid (l'.length = l.length) ∧ Hid (∀ p ∈ l', p ∈ l) ∧ Own wr lo 30 (some ⟨g, 0, none⟩) c l' ∧ w.grownBy wr (some g)) (fun _ j _ => l.length - (intOf j).toNat)
            case atStart => exact ⟨k, 1, l, by omega, by omega, by omega, by omega, rfl, rfl, rfl, fun p h => h, ho2, hg2⟩
            case round =>
              clear hg2 ho2 hgr
              obtain ⟨a, b, l', ha, hb, hab, hkb, rfl, rfl, hlen, hsub, hor, hgr⟩ := hrel
              by_cases hlb : k + b < l.length
              · have h1 : k + b < l'.length := by rw [hlen.out]; exact hlb
                have h2' : k + b - 1 < l'.length := by rw [hlen.out]; omega
                have e1 : k * 2 + b * 2 = (k + b) * 2 := by omega
                have e2 : k * 2 + (b - 1) * 2 = (k + b - 1) * 2 := by omega
                have hcl := hide fun W (h : wr.grownBy W none) => (⟨(hor.pure h).cell_pt (i := k + b) h1, (hor.pure h).cell_pt (i := k + b - 1) h2'⟩ : _ ∧ _)
                have hmem : Hid (l'[k + b] ∈ l) := hsub.out _ (List.getElem_mem h1)
                generalize l'[k + b] = P at *
                generalize l'[k + b - 1] = Q at *
                rw [← e1, ← e2] at hcl
                have hbk : b < l.length - k := by omega
                have hal : a < l'.length := by rw [hlen.out]; omega
                clear e1 e2 h1 h2'
                go_wp2_with fail
                refine wp_region_fix 9 ((fun wx => wr.grownBy wx none)) (by kernel_rfl) (by kernel_rfl) (gr_drew (World.grownBy.refl _ _)) ?_
                simp only [List.take_succ_cons, List.take_zero, List.drop_succ_cons, List.drop_zero]
                iterate 9 ((refine fix_b (fun K hK => ?_); apply Exists.intro; refine ⟨fun wx hC K' hK' => ?_, ?_⟩; (focus (replace hK' := hide hK'; (obtain ⟨⟨a0, a1⟩, b0, b1⟩ := hcl.out _ hC); go_wp2_with fail; exact hK'.out _ hC)); go_simp; refine hK _ ?_; clear hK K))
                refine fix_nil ?_
                intro wz hC
                replace hgr := gr_trans hgr (gr_any hC)
                replace hor := hor.pure hC
                obtain ⟨⟨a0, a1⟩, -⟩ := hcl.out _ hC
                clear hC hcl
                obtain ⟨d0, d1⟩ := hor.cell_pt hal
                have f0 := hor.frozen (a * 2)
                have f1 := hor.frozen (a * 2 + 1)
                have hst := hor.set_pt hal P
                have hgs := gr_set (gr_set hgr (p := ⟨g, a * 2, none⟩) (.inl rfl) (.int .i64 P.x)) (p := ⟨g, a * 2 + 1, none⟩) (.inl rfl) (.int .i64 P.y)
                have hsub2 : Hid (∀ p ∈ l'.set a P, p ∈ l) := fun p hp => by
                  rcases List.mem_or_eq_of_mem_set hp with h | h
                  · exact hsub.out p h
                  · rw [h]; exact hmem.out
                have hlen2 : Hid ((l'.set a P).length = l.length) := by rw [Hid, List.length_set]; exact hlen.out
                obtain ⟨px, py⟩ := P
                obtain ⟨qx, qy⟩ := Q
                by_cases hx : px = qx
                · subst hx
                  by_cases hy : py = qy
                  · subst hy
                    go_wp2_with fail
                    (go_roundw; (case rel => exact ⟨a, b + 1, l', by omega, by omega, by omega, by omega, rfl, by go_num, hlen, hsub, hor, hgr⟩); (case measure => simp [intOf]; omega))
                  · go_wp2_with fail
                    (go_roundw; (case rel => exact ⟨a + 1, b + 1, _, by omega, by omega, by omega, by omega, by go_num, by go_num, hlen2, hsub2, hst, hgs⟩); (case measure => simp [intOf]; omega))
                · go_wp2_with fail
                  (go_roundw; (case rel => exact ⟨a + 1, b + 1, _, by omega, by omega, by omega, by omega, by go_num, by go_num, hlen2, hsub2, hst, hgs⟩); (case measure => simp [intOf]; omega))
              · have hbk : ¬ b < l.length - k := by omega
                have hcapl := ho.cap
                have hal : a < l.length := by omega
                have htk := hor.takeH a (by rw [hlen.out]; omega)
                have htl : (l'.take a).length = a := by rw [List.length_take, hlen.out]; omega
                have hcl : ∀ ty, (Builtin.clear_ #[64] ty #[.slice (some ⟨g, a * 2, none⟩) (l.length - a) (c - a)]).run Tryz.prog wr = .ok (.tuple #[]) (wr.setCells g (a * 2) (List.replicate ((l.length - a) * 2) (.int .i64 0))) := fun ty =>
                  run_clearP wr ty g (a * 2) (l.length - a) (c - a) (by omega) (fun j hj => hor.spareH (by rw [show Enc.sz Pt = 2 from rfl]; omega)) (fun j _ => hor.frozen _)
                have hpn := htk.pastN (List.replicate ((l.length - a) * 2) (.int .i64 0)) (j := a * 2) (by rw [htl, show Enc.sz Pt = 2 from rfl]; exact Nat.le_refl _)
                have hsub2 : Hid (∀ p ∈ l'.take a, p ∈ l) := fun p hp => hsub.out p (List.mem_of_mem_take hp)
                have hgz := gr_trans hgr hpn.2
                replace htl := hide htl
                replace hpn := hide hpn.1
                clear hor htk
                go_wp2_with fail
                go_ret
                exact ⟨l'.take a, by rw [htl.out]; rfl, hpn.out, by rw [htl.out]; omega, hsub2.out, hgz⟩
          · go_wp2_with fail
            (go_roundw; (case rel => exact ⟨k + 1, by omega, by omega, by go_num, hgr⟩); (case measure => simp [intOf]; omega))
        · go_wp2_with fail
          (go_roundw; (case rel => exact ⟨k + 1, by omega, by omega, by go_num, hgr⟩); (case measure => simp [intOf]; omega))
      · go_wp2_with fail
        go_ret
        exact ⟨l, by congr 2, ho.pure hgr, Nat.le_refl _, fun p h => h, gr_any hgr⟩

end Go.Proofs.YtgcpegjggakemaaGreatDoor

namespace Go.Proofs.YtgcpegjggakemaaGreatDoor
open Go Go.RowKit Go.Bl

def lenV : Value → Nat
  | .slice _ n _ => n
  | _ => 0

set_option maxHeartbeats 1000000 in
set_option maxRecDepth 100000 in
theorem half_any (A : Option Addr) (c : Nat) (l : List Pt) (w : World) (hl : Sl w 0 A l) (h0 : 0 < l.length) (hn : l.length ≤ 1000000) (hbd : ∀ p ∈ l, bdP p) :
    Calls Tryz.prog 118 #[.slice A l.length c] w fun e w' => ∃ (A' : Option Addr) (c' : Nat) (out : List Pt), e = .returned (.slice A' out.length c') ∧ Own w' w.heap.size 30 A' c' out ∧ 0 < out.length ∧ out.length ≤ l.length ∧ (∀ p ∈ out, p ∈ l) ∧ w.grownBy w' none := by
  obtain ⟨j0, hj, hjz, j1, j2⟩ := info_parts info_pt
  obtain ⟨g, o, rfl, -, hgl, hc⟩ := hl.pt h0
  have hcl := hide fun k (hk : k < l.length) W (h : w.grownBy W none) => (⟨h.k (hc k hk).1, h.k (hc k hk).2⟩ : _ ∧ _)
  have hmem := hide fun k (hk : k < l.length) => List.getElem_mem hk
  replace hbd := hide hbd
  clear hc hl
  go_enter Tryz.func118, Tryz.ntmps118
  go_wp2_with fail
  go_loopw [3, 8] (fun s i wr => ∃ (k : Nat) (out : List Pt) (A2 : Option Addr) (c2 : Nat), k ≤ l.length ∧ i = .int .i64 k ∧ s = .slice A2 out.length c2 ∧ out.length ≤ k ∧ (0 < k → 0 < out.length) ∧ Hid (∀ p ∈ out, p ∈ l) ∧ Own wr w.heap.size 30 A2 c2 out ∧ w.grownBy wr none) (fun _ i _ => l.length - (intOf i).toNat)
  case atStart => exact ⟨0, [], none, 0, by omega, rfl, rfl, by simp, by simp, by simp [Hid], Own.nil _ _ _, World.grownBy.refl _ _⟩
  case round =>
    obtain ⟨k, out, A2, c2, hk, rfl, rfl, hok, h0k, hsub, hor, hgr⟩ := hrel
    by_cases hlt : k < l.length
    · obtain ⟨q0, q1⟩ := hcl.out k hlt wr hgr
      have hqm := hide (hmem.out k hlt)
      have hqb := hbd.out _ hqm.out
      generalize l[k] = q at *
      replace hqb := hide hqb
      clear h0k
      go_upto_region 5 with fail
      obtain ⟨w5, hw5⟩ : ∃ x, x = (wr).alloc (.cells [.int .i64 q.x, .int .i64 q.y].toArray 30) := ⟨_, rfl⟩
      have hg5 : (wr).grownBy w5 none := by rw [hw5]; exact gr_alloc (World.grownBy.refl _ _) _
      have hb5 : Box w5 (wr).heap.size 30 [.int .i64 q.x, .int .i64 q.y] := by rw [hw5]; exact Box.new _ _ _
      have hxs5 := hb5.lt
      rw [← hw5]
      clear hw5
      obtain ⟨x5, hx5⟩ : ∃ x, x = (wr).heap.size := ⟨_, rfl⟩
      rw [← hx5] at hb5 hxs5 ⊢
      have hxl5 : (wr).heap.size ≤ x5 := by omega
      clear hx5
      have hbq := hb5
      replace hor := hor.pure hg5
      replace hgr := hgr.t hg5
      clear hb5 hg5 hxs5 hxl5 q0 q1
      obtain ⟨wo, rfl⟩ : ∃ x, x = w5 := ⟨w5, rfl⟩
      have hself := World.grownBy.refl wo none
      go_loopw [3] (fun s wr => ∃ (out : List Pt) (A2 : Option Addr) (c2 : Nat), s = .slice A2 out.length c2 ∧ out.length ≤ k ∧ Hid (∀ p ∈ out, p ∈ l) ∧ Own wr w.heap.size 30 A2 c2 out ∧ wo.grownBy wr none) (fun s _ => lenV s)
      case atStart => exact ⟨out, A2, c2, rfl, hok, hsub, hor, hself⟩
      case round =>
        clear hself hor hsub hok
        obtain ⟨out, A2, c2, rfl, hok, hsub, hor, hgo⟩ := hrel
        replace hbq := hbq.pure hgo
        replace hgr := hgr.t hgo
        by_cases h1 : 1 < out.length
        · obtain ⟨g2, rfl, -⟩ := hor.shape (by omega)
          have i1 : out.length - 2 < out.length := by omega
          have i2 : out.length - 1 < out.length := by omega
          have hcc := hide fun W (h : wr.grownBy W none) => (⟨(hor.pure h).cell_pt i1, (hor.pure h).cell_pt i2, (hbq.pure h).c 0 rfl, (hbq.pure h).c 1 rfl⟩ : _ ∧ _ ∧ _ ∧ _)
          have hT := hide fun W => turn_any out[out.length - 2] out[out.length - 1] q W (hbd.out _ (hsub.out _ (List.getElem_mem i1))) (hbd.out _ (hsub.out _ (List.getElem_mem i2))) hqb.out
          have hol : out.length ≤ 1000000 := by omega
          have h1i : (1 : Int) < out.length := by omega
          have hcap := hor.cap
          generalize out[out.length - 2] = P at *
          generalize out[out.length - 1] = Q at *
          generalize turnP P Q q = T at *
          go_upto_region 5 with fail
          refine wp_region_tree (fun wx => wr.grownBy wx none) [2, 2, 2, 2, 2, 2, 2, 2, 2, 1, 2, 2, 2, 2, 2, 1, 1, 0, 2, 2] (.bl 0 (.bl 1 (.bl 2 (.bl 3 (.bl 4 (.bl 5 (.bl 6 (.bl 7 (.bl 8 (.bl 9 (.bl 10 (.bl 11 (.bl 12 (.bl 13 (.bl 14 (.bl 15 (.bl 16 (.ef 17 (.bl 18 (.bl 19 .done)))))))))))))))))))) (by kernel_rfl) (by kernel_rfl) (gr_drew (World.grownBy.refl _ _)) ?_
          obtain ⟨u0, hu0⟩ : ∃ x, x = (wr).drew := ⟨_, rfl⟩
          rw [← hu0]
          have hgu0 : (wr).grownBy u0 none := by rw [hu0]; exact gr_drew (World.grownBy.refl _ _)
          clear hu0
          refine tree_p rfl rfl rfl rfl _ rfl (by simp) (fun K hK => ?_)
          apply Exists.intro
          refine ⟨fun wq K' hK' => ?_, ?_⟩
          · go_wp2_with fail
            exact hK'
          go_simp
          refine hK _ ?_
          clear hK K
          refine tree_p rfl rfl rfl rfl _ rfl (by simp) (fun K hK => ?_)
          apply Exists.intro
          refine ⟨fun wq K' hK' => ?_, ?_⟩
          · go_wp2_with fail
            exact hK'
          go_simp
          refine hK _ ?_
          clear hK K
          refine tree_p rfl rfl rfl rfl _ rfl (by simp) (fun K hK => ?_)
          apply Exists.intro
          refine ⟨fun wq K' hK' => ?_, ?_⟩
          · go_wp2_with fail
            exact hK'
          go_simp
          refine hK _ ?_
          clear hK K
          refine tree_p rfl rfl rfl rfl _ rfl (by simp) (fun K hK => ?_)
          apply Exists.intro
          refine ⟨fun wq K' hK' => ?_, ?_⟩
          · go_wp2_with fail
            exact hK'
          go_simp
          refine hK _ ?_
          clear hK K
          refine tree_p rfl rfl rfl rfl _ rfl (by simp) (fun K hK => ?_)
          apply Exists.intro
          refine ⟨fun wq K' hK' => ?_, ?_⟩
          · go_wp2_with fail
            exact hK'
          go_simp
          refine hK _ ?_
          clear hK K
          refine tree_p rfl rfl rfl rfl _ rfl (by simp) (fun K hK => ?_)
          apply Exists.intro
          refine ⟨fun wq K' hK' => ?_, ?_⟩
          · go_wp2_with fail
            exact hK'
          go_simp
          refine hK _ ?_
          clear hK K
          refine tree_p rfl rfl rfl rfl _ rfl (by simp) (fun K hK => ?_)
          apply Exists.intro
          refine ⟨fun wq K' hK' => ?_, ?_⟩
          · go_wp2_with fail
            exact hK'
          go_simp
          refine hK _ ?_
          clear hK K
          refine tree_p rfl rfl rfl rfl _ rfl (by simp) (fun K hK => ?_)
          apply Exists.intro
          refine ⟨fun wq K' hK' => ?_, ?_⟩
          · go_wp2_with fail
            exact hK'
          go_simp
          refine hK _ ?_
          clear hK K
          refine tree_p rfl rfl rfl rfl _ rfl (by simp) (fun K hK => ?_)
          apply Exists.intro
          refine ⟨fun wq K' hK' => ?_, ?_⟩
          · go_wp2_with fail
            exact hK'
          go_simp
          refine hK _ ?_
          clear hK K
          refine tree_b rfl rfl rfl rfl _ rfl (by simp) (fun K hK => ?_)
          apply Exists.intro
          refine ⟨fun wq hq K' hK' => ?_, ?_⟩
          · obtain ⟨⟨d0, d1⟩, ⟨d2, d3⟩, ⟨d4, -⟩, d5, -⟩ := hcc.out wq hq
            go_wp2_with fail
            exact hK'
          go_simp
          refine hK _ ?_
          clear hK K
          refine tree_p rfl rfl rfl rfl _ rfl (by simp) (fun K hK => ?_)
          apply Exists.intro
          refine ⟨fun wq K' hK' => ?_, ?_⟩
          · go_wp2_with fail
            exact hK'
          go_simp
          refine hK _ ?_
          clear hK K
          refine tree_p rfl rfl rfl rfl _ rfl (by simp) (fun K hK => ?_)
          apply Exists.intro
          refine ⟨fun wq K' hK' => ?_, ?_⟩
          · go_wp2_with fail
            exact hK'
          go_simp
          refine hK _ ?_
          clear hK K
          refine tree_p rfl rfl rfl rfl _ rfl (by simp) (fun K hK => ?_)
          apply Exists.intro
          refine ⟨fun wq K' hK' => ?_, ?_⟩
          · go_wp2_with fail
            exact hK'
          go_simp
          refine hK _ ?_
          clear hK K
          refine tree_p rfl rfl rfl rfl _ rfl (by simp) (fun K hK => ?_)
          apply Exists.intro
          refine ⟨fun wq K' hK' => ?_, ?_⟩
          · go_wp2_with fail
            exact hK'
          go_simp
          refine hK _ ?_
          clear hK K
          refine tree_p rfl rfl rfl rfl _ rfl (by simp) (fun K hK => ?_)
          apply Exists.intro
          refine ⟨fun wq K' hK' => ?_, ?_⟩
          · go_wp2_with fail
            exact hK'
          go_simp
          refine hK _ ?_
          clear hK K
          refine tree_b rfl rfl rfl rfl _ rfl (by simp) (fun K hK => ?_)
          apply Exists.intro
          refine ⟨fun wq hq K' hK' => ?_, ?_⟩
          · obtain ⟨⟨d0, d1⟩, ⟨d2, d3⟩, ⟨d4, -⟩, d5, -⟩ := hcc.out wq hq
            go_wp2_with fail
            exact hK'
          go_simp
          refine hK _ ?_
          clear hK K
          refine tree_b rfl rfl rfl rfl _ rfl (by simp) (fun K hK => ?_)
          apply Exists.intro
          refine ⟨fun wq hq K' hK' => ?_, ?_⟩
          · obtain ⟨⟨d0, d1⟩, ⟨d2, d3⟩, ⟨d4, -⟩, d5, -⟩ := hcc.out wq hq
            go_wp2_with fail
            exact hK'
          go_simp
          refine hK _ ?_
          clear hK K
          refine tree_e0 (by kernel_rfl) rfl rfl (fun K hK => ?_)
          go_wp2_with fail
          refine (hT.out u0).mono ?_
          rintro e w17 ⟨rfl, hg17⟩
          go_wp2_with fail
          try go_simp
          refine hK _ _ trivial ?_
          clear hK K
          refine tree_p rfl rfl rfl rfl _ rfl (by simp) (fun K hK => ?_)
          apply Exists.intro
          refine ⟨fun wq K' hK' => ?_, ?_⟩
          · go_wp2_with fail
            exact hK'
          go_simp
          refine hK _ ?_
          clear hK K
          refine tree_p rfl rfl rfl rfl _ rfl (by simp) (fun K hK => ?_)
          apply Exists.intro
          refine ⟨fun wq K' hK' => ?_, ?_⟩
          · go_wp2_with fail
            exact hK'
          go_simp
          refine hK _ ?_
          clear hK K
          refine tree_done ?_
          have hgz := gr_trans hgu0 hg17
          clear hcc hT
          by_cases hT0 : T ≤ 0
          · have htk := (hor.pure hgz).takeH (out.length - 1) (by omega)
            have htl : Hid ((out.take (out.length - 1)).length = out.length - 1) := by rw [Hid, List.length_take]; omega
            have hgoz := hgo.t hgz
            go_wp2_with fail
            (go_roundw; (case rel => exact ⟨out.take (out.length - 1), _, c2, by rw [htl.out], by rw [htl.out]; omega, fun p hp => hsub.out p (List.mem_of_mem_take hp), htk, hgoz⟩); (case measure => simp [lenV]; omega))
          · have hb : ¬ T ≤ 0 := hT0
            go_upto_region 7 with fail
            obtain ⟨b0, -⟩ := (hbq.pure hgz).c 0 rfl
            obtain ⟨b1, -⟩ := (hbq.pure hgz).c 1 rfl
            replace hor := hor.pure hgz
            replace hgr := hgr.t hgz
            have hszw := hgr.size
            clear hgz
            go_wp2_with (at_builtin; refine wpList_push (α := Pt) _ rfl (.tmp 37) (.tmp 39) _ rfl w.heap.size 30 j0 _ 16 Tryz.underlying64 hj hjz j1 j2 rfl _ _ _ out rfl (rfl) (by exact hor.pure (gr_alloc (World.grownBy.refl _ _) _)) 0 ⟨_, 0, none⟩ 1 1 [q] rfl rfl (by exact sl_oneAt _ 0 [.int .i64 q.x, .int .i64 q.y] _ _ _ (by first | rfl | simp) (Nat.zero_le _) rfl) ?d2 ?d3 ?d4 ?_)
            case d2 => first | omega | (simp; omega)
            case d3 => first | (simp [maxLen]; omega) | (unfold maxLen; omega)
            case d4 => first | omega | (simp; omega)
            intro A6 c6 w6 hO6 hU6
            have hgy := hU6.gr (Nat.le_refl _) (hgr.t (gr_alloc (World.grownBy.refl _ _) (.cells #[.int .i64 q.x, .int .i64 q.y] 30)))
            have hsub2 : Hid (∀ p ∈ out ++ [q], p ∈ l) := fun p hp => by
              rcases List.mem_append.1 hp with h | h
              · exact hsub.out p h
              · rw [List.mem_singleton.1 h]; exact hqm.out
            go_wp2_with fail
            (go_roundw; (case rel => exact ⟨k + 1, out ++ [q], A6, c6, by omega, by go_num, by first | (rw [List.length_append]; rfl) | (rw [List.length_append, hn1.out]; rfl), by simp; omega, by simp, hsub2, hO6, hgy⟩); (case measure => simp [intOf]; omega))
        · rcases (show out.length = 0 ∨ out.length = 1 by omega) with hn1 | hn1
          all_goals
            rw [hn1]
            clear h1
            replace hn1 := hide hn1
            go_upto_region 5 with fail
            refine wp_region_tree (fun wx => wr.grownBy wx none) [2, 2, 2, 2, 2, 2, 2, 2, 2, 1, 2, 2, 2, 2, 2, 1, 1, 0, 2, 2] (.bl 0 (.bl 1 (.bl 2 (.bl 3 (.bl 4 (.bl 5 (.bl 6 (.bl 7 (.bl 8 (.bl 9 (.bl 10 (.bl 11 (.bl 12 (.bl 13 (.bl 14 (.bl 15 (.bl 16 (.ef 17 (.bl 18 (.bl 19 .done)))))))))))))))))))) (by kernel_rfl) (by kernel_rfl) (gr_drew (World.grownBy.refl _ _)) ?_
            obtain ⟨u0, hu0⟩ : ∃ x, x = (wr).drew := ⟨_, rfl⟩
            rw [← hu0]
            have hgu0 : (wr).grownBy u0 none := by rw [hu0]; exact gr_drew (World.grownBy.refl _ _)
            clear hu0
            refine tree_p rfl rfl rfl rfl _ rfl (by simp) (fun K hK => ?_)
            apply Exists.intro
            refine ⟨fun wq K' hK' => ?_, ?_⟩
            · go_wp2_with fail
              exact hK'
            go_simp
            refine hK _ ?_
            clear hK K
            refine tree_p rfl rfl rfl rfl _ rfl (by simp) (fun K hK => ?_)
            apply Exists.intro
            refine ⟨fun wq K' hK' => ?_, ?_⟩
            · go_wp2_with fail
              exact hK'
            go_simp
            refine hK _ ?_
            clear hK K
            refine tree_p rfl rfl rfl rfl _ rfl (by simp) (fun K hK => ?_)
            apply Exists.intro
            refine ⟨fun wq K' hK' => ?_, ?_⟩
            · go_wp2_with fail
              exact hK'
            go_simp
            refine hK _ ?_
            clear hK K
            refine tree_p rfl rfl rfl rfl _ rfl (by simp) (fun K hK => ?_)
            apply Exists.intro
            refine ⟨fun wq K' hK' => ?_, ?_⟩
            · go_wp2_with fail
              exact hK'
            go_simp
            refine hK _ ?_
            clear hK K
            refine tree_skip rfl rfl ?_
            try go_simp
            refine tree_skip rfl rfl ?_
            try go_simp
            refine tree_skip rfl rfl ?_
            try go_simp
            refine tree_skip rfl rfl ?_
            try go_simp
            refine tree_skip rfl rfl ?_
            try go_simp
            refine tree_skip rfl rfl ?_
            try go_simp
            refine tree_skip rfl rfl ?_
            try go_simp
            refine tree_skip rfl rfl ?_
            try go_simp
            refine tree_skip rfl rfl ?_
            try go_simp
            refine tree_skip rfl rfl ?_
            try go_simp
            refine tree_skip rfl rfl ?_
            try go_simp
            refine tree_skip rfl rfl ?_
            try go_simp
            refine tree_skip rfl rfl ?_
            try go_simp
            refine tree_eskip0 (by kernel_rfl) rfl rfl ?_
            try go_simp
            refine tree_skip rfl rfl ?_
            try go_simp
            refine tree_p rfl rfl rfl rfl _ rfl (by simp) (fun K hK => ?_)
            apply Exists.intro
            refine ⟨fun wq K' hK' => ?_, ?_⟩
            · go_wp2_with fail
              exact hK'
            go_simp
            refine hK _ ?_
            clear hK K
            refine tree_done ?_
            have hgz := hgu0
            go_upto_region 7 with fail
            have hn2 := hn1.out
            obtain ⟨b0, -⟩ := (hbq.pure hgz).c 0 rfl
            obtain ⟨b1, -⟩ := (hbq.pure hgz).c 1 rfl
            replace hor := hor.pure hgz
            replace hgr := hgr.t hgz
            have hszw := hgr.size
            clear hgz
            go_wp2_with (at_builtin; refine wpList_push (α := Pt) _ rfl (.tmp 37) (.tmp 39) _ rfl w.heap.size 30 j0 _ 16 Tryz.underlying64 hj hjz j1 j2 rfl _ _ _ out rfl (hn1.out.symm) (by exact hor.pure (gr_alloc (World.grownBy.refl _ _) _)) 0 ⟨_, 0, none⟩ 1 1 [q] rfl rfl (by exact sl_oneAt _ 0 [.int .i64 q.x, .int .i64 q.y] _ _ _ (by first | rfl | simp) (Nat.zero_le _) rfl) ?d2 ?d3 ?d4 ?_)
            case d2 => first | omega | (simp; omega)
            case d3 => first | (simp [maxLen]; omega) | (unfold maxLen; omega)
            case d4 => first | omega | (simp; omega)
            intro A6 c6 w6 hO6 hU6
            have hgy := hU6.gr (Nat.le_refl _) (hgr.t (gr_alloc (World.grownBy.refl _ _) (.cells #[.int .i64 q.x, .int .i64 q.y] 30)))
            have hsub2 : Hid (∀ p ∈ out ++ [q], p ∈ l) := fun p hp => by
              rcases List.mem_append.1 hp with h | h
              · exact hsub.out p h
              · rw [List.mem_singleton.1 h]; exact hqm.out
            go_wp2_with fail
            (go_roundw; (case rel => exact ⟨k + 1, out ++ [q], A6, c6, by omega, by go_num, by first | (rw [List.length_append]; rfl) | (rw [List.length_append, hn1.out]; rfl), by simp; omega, by simp, hsub2, hO6, hgy⟩); (case measure => simp [intOf]; omega))
    · have hkn : 0 < k := by omega
      have h0k2 := h0k hkn
      go_wp2_with fail
      go_ret
      exact ⟨A2, c2, out, rfl, hor, h0k2, by omega, hsub.out, hgr⟩

end Go.Proofs.YtgcpegjggakemaaGreatDoor

namespace Go.Proofs.YtgcpegjggakemaaGreatDoor
open Go Go.RowKit Go.Bl

theorem sl_two (w : World) (lo : Nat) (t : TypeId) (A B : Option Addr) (a b : List Pt) (na nb ca cb : Nat) (hna : na = a.length) (hnb : nb = b.length) (ha : na ≤ ca) (hb : nb ≤ cb) (hA : Sl w lo A a) (hB : Sl w lo B b) (hlo : lo ≤ w.heap.size) :
    Sl (w.alloc (.cells #[.slice A na ca, .slice B nb cb] t)) lo (some ⟨w.heap.size, 0, none⟩) [a, b] := by
  subst hna hnb
  have hg := gr_alloc (World.grownBy.refl w none) (.cells #[.slice A a.length ca, .slice B b.length cb] t)
  exact sl_lit w lo [.slice A a.length ca, .slice B b.length cb] t [a, b] hlo (by simp [maxLen]) ⟨_, _, rfl, ⟨A, ca, rfl, ha, hA.pure hg⟩, _, [], rfl, ⟨B, cb, rfl, hb, hB.pure hg⟩, rfl⟩

theorem bd_of_far {p : Pt} (h : farP p = false) : bdP p := by
  simp only [farP, outB, Bool.or_eq_false_iff, decide_eq_false_iff_not] at h
  unfold bdP; omega

theorem compactAll_any (A : Option Addr) (c lo : Nat) (l : List Pt) (w : World) (ho : Own w lo 30 A c l) (hn : l.length ≤ 1000000) :
    Calls Tryz.prog 117 #[.slice A l.length c] w fun e w' => ∃ l' : List Pt, e = .returned (.slice A l'.length c) ∧ Own w' lo 30 A c l' ∧ l'.length ≤ l.length ∧ (∀ p ∈ l', p ∈ l) ∧ w.grownBy w' (blk A) := by
  rcases Own.cases ho with ⟨rfl, rfl, rfl⟩ | ⟨g, rfl⟩
  · go_enter Tryz.func117, Tryz.ntmps117
    go_wp2_with fail
    go_ret
    exact ⟨[], rfl, ho, by simp, fun p h => h, World.grownBy.refl _ _⟩
  · exact compactPt_any g c lo l w ho hn

def HullOut (w : World) (e : Ending) (w' : World) : Prop :=
  (∃ E : Int, E ≠ 0 ∧ e = .returned (.tuple #[.slice none 0 0, .int .i64 E]) ∧ w.grownBy w' none) ∨ ∃ (A' : Option Addr) (c' : Nat) (out : List Pt), e = .returned (.tuple #[.slice A' out.length c', .int .i64 0]) ∧ Own w' w.heap.size 30 A' c' out ∧ w.grownBy w' none

set_option maxHeartbeats 4000000 in
set_option maxRecDepth 100000 in
theorem hull_any (A : Option Addr) (n c : Nat) (l : List Pt) (w : World) (hl : Sl w 0 A l) (hln : l.length = n) (hn : n ≤ 1000000) :
    Calls Tryz.prog 44 #[.slice A n c] w (HullOut w) := by
  have hCf := hide fun W (h : w.grownBy W none) => containsFar_any A c l W (hl.pure h)
  have hCl := hide fun W (h : w.grownBy W none) => clonePt_any A c l W (hl.pure h) (by omega)
  rw [hln] at hCf hCl
  replace hln := hide hln
  have hg0 := World.grownBy.refl w none
  go_enter Tryz.func44, Tryz.ntmps44
  by_cases hbig : 1000 < n
  · have hbi : (1000 : Int) < n := by omega
    go_wp2_with fail
    exact bodyPost_ret (v := .tuple #[.slice none 0 0, .int .i64 2]) (by simp [results, Tryz.results44, go_sem]) rfl (.inl ⟨2, by decide, rfl, hg0⟩)
  · go_wp2_with fail
    refine (hCf.out w hg0).mono ?_
    rintro e w1 ⟨rfl, hg1⟩
    have hfar : Hid (l.any farP = false → ∀ p ∈ l, bdP p) := fun h p hp => bd_of_far (by
      rcases hq : farP p with _ | _
      · rfl
      · rw [List.any_eq_true.2 ⟨p, hp, hq⟩] at h; exact absurd h (by simp))
    generalize l.any farP = far at *
    clear hCf
    cases far
    · have hbd := hide (hfar.out rfl)
      clear hfar
      go_wp2_with fail
      refine (hCl.out w1 hg1).mono ?_
      rintro e w2 ⟨A2, c2, rfl, hO2, hg2⟩
      replace hO2 := hO2.lower hg1.size
      have hgw := hg1.t hg2
      clear hCl hg0 hg1 hg2 hl
      have hS := hide (sortPt_any A2 c2 _ l w2 hO2 (by rw [hln.out]; exact hn))
      rw [hln.out] at hS
      go_wp2_with fail
      refine hS.out.mono ?_
      rintro e w3 ⟨rfl, l3, hp3, -, hO3, hg3⟩
      have hgw3 := gr_row hgw hg3 (fun g e => (hO2.blk_lt e).1)
      have hl3 := hp3.length_eq.trans hln.out
      have hbd3 : Hid (∀ p ∈ l3, bdP p) := fun p hp => hbd.out p (hp3.subset hp)
      have hC := hide (compactAll_any A2 c2 _ l3 w3 hO3 (by omega))
      rw [hl3] at hC
      replace hl3 := hide hl3
      clear hS hp3 hg3 hO2 hgw hbd
      go_wp2_with fail
      refine hC.out.mono ?_
      rintro e w4 ⟨m, rfl, hO4, hlm, hsm, hg4⟩
      have hgw4 := gr_row hgw3 hg4 (fun g e => (hO3.blk_lt e).1)
      have hbdm : Hid (∀ p ∈ m, bdP p) := fun p hp => hbd3.out p (hsm p hp)
      replace hlm : m.length ≤ 1000 := by have := hl3.out; omega
      clear hC hg4 hO3 hgw3 hbd3 hl3 hsm
      by_cases h3 : m.length < 3
      · go_wp2_with fail
        exact bodyPost_ret (v := .tuple #[.slice none 0 0, .int .i64 3]) (by simp [results, Tryz.results44, go_sem]) rfl (.inl ⟨3, by decide, rfl, hgw4⟩)
      · obtain ⟨g2, rfl, hgl2, hgr2⟩ := hO4.shape (by omega)
        have hH := hide (half_any (some ⟨g2, 0, none⟩) c2 m w4 (hO4.sl.mono (Nat.zero_le _)) (by omega) (by omega) hbdm.out)
        go_wp2_with fail
        refine hH.out.mono ?_
        rintro e w5 ⟨A5, c5, up, rfl, hO5, hup, hul, -, hg5⟩
        have hgw5 := hgw4.t hg5
        replace hO4 := hO4.pure hg5
        have hR := hide (reversePt_any _ g2 c2 m w5 hO4 (by omega) (by omega))
        clear hH hg5 hgw4
        go_wp2_with fail
        refine hR.out.mono ?_
        rintro e w6 ⟨⟨v, rfl⟩, hO6, hg6⟩
        have hO5b := hO5.keep hg6 (fun g e => by injection e with e; omega)
        have hgw6 := gr_new hgw5 hg6 hgl2
        have hlr : m.reverse.length = m.length := List.length_reverse
        have hH2 := hide (half_any _ c2 m.reverse w6 (hO6.sl.mono (Nat.zero_le _)) (by rw [hlr]; omega) (by rw [hlr]; omega) (fun p hp => hbdm.out p (List.mem_reverse.1 hp)))
        rw [hlr] at hH2
        clear hR hg6 hgw5 hlr hO5 hO4 hO6
        go_wp2_with fail
        refine hH2.out.mono ?_
        rintro e w7 ⟨A7, c7, dn, rfl, hO7, hdn, hdl, -, hg7⟩
        have hgw7 := hgw6.t hg7
        replace hO5b := hO5b.pure hg7
        clear hH2 hg7 hgw6 hbdm
        obtain ⟨g5, rfl, -, -⟩ := hO5b.shape (by omega)
        obtain ⟨g7, rfl, -, -⟩ := hO7.shape (by omega)
        have hcap5 := hO5b.cap
        have hcap7 := hO7.cap
        have hU := hide fun W (h : w7.grownBy W none) => ((hO5b.takeH (up.length - 1) (by omega)).pure h).sl.mono (Nat.zero_le _)
        have hD := hide fun W (h : w7.grownBy W none) => ((hO7.takeH (dn.length - 1) (by omega)).pure h).sl.mono (Nat.zero_le _)
        have hUl : Hid (up.length - 1 = (up.take (up.length - 1)).length) := by rw [Hid, List.length_take]; omega
        have hDl : Hid (dn.length - 1 = (dn.take (dn.length - 1)).length) := by rw [Hid, List.length_take]; omega
        have hdl2 : dn.length ≤ 1000 := by omega
        have hul2 : up.length ≤ 1000 := by omega
        have hsum : Hid ((flatK [up.take (up.length - 1), dn.take (dn.length - 1)] 2).length ≤ 1000000) := by
          rw [Hid, flatK_all (Nat.le_refl 2)]
          simp only [List.flatten_cons, List.flatten_nil, List.append_nil, List.length_append]
          rw [← hUl.out, ← hDl.out]
          omega
        have hszw := hgw7.size
        clear hO5b hO7 h3 hlm hul hdl hgl2 hgr2
        go_upto_region 13 with fail
        refine wp_region_tree (fun wx => w7.grownBy wx none) [2, 2, 2, 2, 2, 2, 2, 2, 2, 2, 0, 0, 2] (.bl 0 (.bl 1 (.bl 2 (.bl 3 (.bl 4 (.bl 5 (.bl 6 (.bl 7 (.bl 8 (.bl 9 (.ef 10 (.ef 11 (.bl 12 .done))))))))))))) (by kernel_rfl) (by kernel_rfl) (gr_drew (World.grownBy.refl _ _)) ?_
        obtain ⟨u0, hu0⟩ : ∃ x, x = (w7).drew := ⟨_, rfl⟩
        rw [← hu0]
        have hgu0 : (w7).grownBy u0 none := by rw [hu0]; exact gr_drew (World.grownBy.refl _ _)
        clear hu0
        refine tree_p rfl rfl rfl rfl _ rfl (by simp) (fun K hK => ?_)
        apply Exists.intro
        refine ⟨fun wq K' hK' => ?_, ?_⟩
        · go_wp2_with fail
          exact hK'
        go_simp
        refine hK _ ?_
        clear hK K
        refine tree_p rfl rfl rfl rfl _ rfl (by simp) (fun K hK => ?_)
        apply Exists.intro
        refine ⟨fun wq K' hK' => ?_, ?_⟩
        · go_wp2_with fail
          exact hK'
        go_simp
        refine hK _ ?_
        clear hK K
        refine tree_p rfl rfl rfl rfl _ rfl (by simp) (fun K hK => ?_)
        apply Exists.intro
        refine ⟨fun wq K' hK' => ?_, ?_⟩
        · go_wp2_with fail
          exact hK'
        go_simp
        refine hK _ ?_
        clear hK K
        refine tree_p rfl rfl rfl rfl _ rfl (by simp) (fun K hK => ?_)
        apply Exists.intro
        refine ⟨fun wq K' hK' => ?_, ?_⟩
        · go_wp2_with fail
          exact hK'
        go_simp
        refine hK _ ?_
        clear hK K
        refine tree_p rfl rfl rfl rfl _ rfl (by simp) (fun K hK => ?_)
        apply Exists.intro
        refine ⟨fun wq K' hK' => ?_, ?_⟩
        · go_wp2_with fail
          exact hK'
        go_simp
        refine hK _ ?_
        clear hK K
        refine tree_p rfl rfl rfl rfl _ rfl (by simp) (fun K hK => ?_)
        apply Exists.intro
        refine ⟨fun wq K' hK' => ?_, ?_⟩
        · go_wp2_with fail
          exact hK'
        go_simp
        refine hK _ ?_
        clear hK K
        refine tree_p rfl rfl rfl rfl _ rfl (by simp) (fun K hK => ?_)
        apply Exists.intro
        refine ⟨fun wq K' hK' => ?_, ?_⟩
        · go_wp2_with fail
          exact hK'
        go_simp
        refine hK _ ?_
        clear hK K
        refine tree_p rfl rfl rfl rfl _ rfl (by simp) (fun K hK => ?_)
        apply Exists.intro
        refine ⟨fun wq K' hK' => ?_, ?_⟩
        · go_wp2_with fail
          exact hK'
        go_simp
        refine hK _ ?_
        clear hK K
        refine tree_p rfl rfl rfl rfl _ rfl (by simp) (fun K hK => ?_)
        apply Exists.intro
        refine ⟨fun wq K' hK' => ?_, ?_⟩
        · go_wp2_with fail
          exact hK'
        go_simp
        refine hK _ ?_
        clear hK K
        refine tree_p rfl rfl rfl rfl _ rfl (by simp) (fun K hK => ?_)
        apply Exists.intro
        refine ⟨fun wq K' hK' => ?_, ?_⟩
        · go_wp2_with fail
          exact hK'
        go_simp
        refine hK _ ?_
        clear hK K
        refine tree_e0 (by kernel_rfl) rfl rfl (fun K hK => ?_)
        go_wp2_with fail
        try go_simp
        refine hK _ _ trivial ?_
        clear hK K
        refine tree_e0 (by kernel_rfl) rfl rfl (fun K hK => ?_)
        go_wp2_with fail
        refine (concatPts_any (some ⟨u0.heap.size, 0, none⟩) 2 [up.take (up.length - 1), dn.take (dn.length - 1)] _ (sl_two u0 0 64 (some ⟨g5, 0, none⟩) (some ⟨g7, 0, none⟩) _ _ (up.length - 1) (dn.length - 1) c5 c7 hUl.out hDl.out (by omega) (by omega) (hU.out u0 hgu0) (hD.out u0 hgu0) (Nat.zero_le _)) hsum.out).mono ?_
        rintro e w11 ⟨A11, c11, rfl, hO11, hg11⟩
        have hgA := gr_trans (gr_alloc hgu0 _) hg11
        go_wp2_with fail
        try go_simp
        refine hK _ _ trivial ?_
        clear hK K
        refine tree_p rfl rfl rfl rfl _ rfl (by simp) (fun K hK => ?_)
        apply Exists.intro
        refine ⟨fun wq K' hK' => ?_, ?_⟩
        · go_wp2_with fail
          exact hK'
        go_simp
        refine hK _ ?_
        clear hK K
        refine tree_done ?_
        have hgz := hgw7.t hgA
        have hO := hO11.lower (hgw7.t (gr_alloc hgu0 _)).size
        have hfl := hsum.out
        clear hO11 hsum hU hD hUl hDl
        generalize flatK [up.take (up.length - 1), dn.take (dn.length - 1)] 2 = out at *
        by_cases h3o : out.length < 3
        · go_wp2_with fail
          exact bodyPost_ret (v := .tuple #[.slice none 0 0, .int .i64 3]) (by simp [results, Tryz.results44, go_sem]) rfl (.inl ⟨3, by decide, rfl, hgz⟩)
        · go_wp2_with fail
          exact bodyPost_ret (v := .tuple #[.slice A11 out.length c11, .int .i64 0]) (by simp [results, Tryz.results44, go_sem]) rfl (.inr ⟨A11, c11, out, rfl, hO, hgz⟩)
    · go_wp2_with fail
      exact bodyPost_ret (v := .tuple #[.slice none 0 0, .int .i64 1]) (by simp [results, Tryz.results44, go_sem]) rfl (.inl ⟨1, by decide, rfl, hg1⟩)

end Go.Proofs.YtgcpegjggakemaaGreatDoor

namespace Go.Proofs.YtgcpegjggakemaaGreatDoor
open Go Go.RowKit Go.Bl

/-- a ring as it lies in a row: of new memory, may be written, of a right length -/
def RgOk (w : World) (lo : Nat) (A : Option Addr) (r : RawS) : Prop := ∃ l, NOkR w lo A r l ∧ 3 ≤ l.length ∧ l.length ≤ 500

theorem RgOk.gr {w w' : World} {lo : Nat} {A : Option Addr} {r : RawS} {q : Option Nat} (h : RgOk w lo A r) (hg : w.grownBy w' q) (hq : ∀ g, blk r.A = some g → q ≠ some g) : RgOk w' lo A r := by
  obtain ⟨l, h1, h2⟩ := h
  exact ⟨l, h1.gr hg hq, h2⟩

theorem RgOk.pure {w w' : World} {lo : Nat} {A : Option Addr} {r : RawS} (h : RgOk w lo A r) (hg : w.grownBy w' none) : RgOk w' lo A r := h.gr hg (fun g _ e => by cases e)

theorem RgOk.ne {w : World} {lo : Nat} {A : Option Addr} {r : RawS} (h : RgOk w lo A r) : ∀ g, blk r.A = some g → blk A ≠ some g := by
  obtain ⟨l, h1, -⟩ := h
  exact h1.1.2

theorem RgOk.lower {w : World} {lo lo' : Nat} {A : Option Addr} {r : RawS} (h : RgOk w lo A r) (hl : lo' ≤ lo) : RgOk w lo' A r := by
  obtain ⟨l, ⟨⟨⟨h1, h2, h3, h4⟩, h5⟩, h6⟩, h7⟩ := h
  exact ⟨l, ⟨⟨⟨h1, h2, h3.mono hl, fun g hb => ⟨Nat.le_trans hl (h4 g hb).1, (h4 g hb).2⟩⟩, h5⟩, h6⟩, h7⟩

theorem RgOk.grew {w w' : World} {lo : Nat} {A A' : Option Addr} {r : RawS} (h : RgOk w lo A r) (hG : Grew A A' w w') : RgOk w' lo A' r := by
  obtain ⟨l, hx, h2⟩ := h
  refine ⟨l, ⟨⟨NestOf.gr hx.1.1 hG.1 fun g hb => hx.1.2 g hb, fun g hb => ?_⟩, ThawR.gr hx.2 (fun g e => (NestOf.lt hx.1.1 (g := g) e).2) hG.1 (fun g hb => hx.1.2 g hb)⟩, h2⟩
  rcases hG.2 with h | h
  · rw [h]; exact hx.1.2 g hb
  · rw [h]; have := (NestOf.lt hx.1.1 (g := g) hb).2; intro e; injection e; omega

theorem RgOk.fst {w : World} {lo g : Nat} {r : RawS} (h : RgOk w lo (some ⟨g, 0, none⟩) r) : ∃ p, FstAt w g r p := by
  obtain ⟨l, ⟨⟨⟨h1, h2, h3, h4⟩, h5⟩, h6⟩, h7, -⟩ := h
  obtain ⟨ga, oa, e, -, hgl, hc⟩ := h3.pt (by omega)
  have hb : blk r.A = some ga := by rw [show r.A = some ⟨ga, oa, none⟩ from e]; rfl
  have c := hc 0 (by omega)
  rw [Nat.zero_mul, Nat.add_zero] at c
  exact ⟨l[0], ga, oa, e, by rw [h1]; omega, fun e2 => h5 ga hb (by rw [e2]; rfl), hgl, c.1, c.2⟩

set_option maxHeartbeats 4000000 in
set_option maxRecDepth 100000 in
theorem normal_any (A : Option Addr) (c : Nat) (rs : List (List Pt)) (w : World) (hl : Sl w 0 A rs) (hF : regF rs = 0) (hs : (flatK rs rs.length).length ≤ 1000000) :
    Calls Tryz.prog 41 #[.slice A rs.length c] w fun e w' => ∃ (A' : Option Addr) (c' : Nat) (raws : List RawS), e = .returned (.tuple #[.slice A' raws.length c', .int .i64 0]) ∧ Own w' w.heap.size 66 A' c' raws ∧ (∀ r ∈ raws, RgOk w' w.heap.size A' r) ∧ raws.length ≤ 100 ∧ w.grownBy w' none := by
  have hC := hide (checkRegion_any A c rs w hl hs)
  rw [hF] at hC
  have hok := rok_of hF
  have hfew := hok.few
  have hDp := hide fun W (h : w.grownBy W none) => depths_any A c rs W (hl.pure h) hok
  replace hok := hide hok
  clear hF
  obtain ⟨i0, hi, hz, h1, h2⟩ := info_parts info_ring
  replace hi := hide hi
  replace hz := hide hz
  replace h1 := hide h1
  replace h2 := hide h2
  go_enter Tryz.func41, Tryz.ntmps41
  go_wp2_with fail
  refine hC.out.mono ?_
  rintro e w1 ⟨rfl, hg1⟩
  clear hC
  go_wp2_with fail
  refine (hDp.out w1 hg1).mono ?_
  rintro e w2 ⟨gd, rfl, hOd, hg2⟩
  have hgw2 := hg1.t hg2
  clear hDp hg1 hg2
  have hself := World.grownBy.refl w2 none
  go_wp2_with fail
  go_loopw [5, 18] (fun o i wr => ∃ (k : Nat) (raws : List RawS) (A2 : Option Addr) (c2 : Nat), k ≤ rs.length ∧ i = .int .i64 k ∧ o = .slice A2 raws.length c2 ∧ Hid (raws.length = k) ∧ Own wr w2.heap.size 66 A2 c2 raws ∧ Hid (∀ r ∈ raws, RgOk wr w2.heap.size A2 r) ∧ Hid (k = 0 → A2 = none ∧ c2 = 0) ∧ w2.grownBy wr none) (fun _ i _ => rs.length - (intOf i).toNat)
  case atStart => exact ⟨0, [], none, 0, Nat.zero_le _, rfl, rfl, rfl, Own.nil _ _ _, by simp [Hid], fun _ => ⟨rfl, rfl⟩, hself⟩
  case round =>
    clear hself
    obtain ⟨k, raws, A2, c2, hk, rfl, rfl, hrl, hor, hall, hk0, hgr⟩ := hrel
    by_cases hlt : k < rs.length
    · have hOdr := hOd.pure hgr
      have hdl : k < (dptsF rs).length := by rw [dptsF, dptsK_len]; exact hlt
      have cd := hOdr.cell_int hdl
      have hDb : 0 ≤ (dptsF rs)[k] ∧ (dptsF rs)[k] ≤ 100 := by
        have e : (dptsF rs)[k] = dptF rs k := by simp [dptsF, dptsK, hlt]
        rw [e]
        have := dptK_bd rs k rs.length
        unfold dptF
        omega
      generalize (dptsF rs)[k] = D at *
      obtain ⟨g, o, Bk, dk, rfl, hb1, c0, -, hsl⟩ := sl_inner' (hl.pure (hgw2.t hgr)) hlt
      have hlen := hok.out.len _ (List.getElem_mem hlt)
      have hbd := hide (hok.out.bd _ (List.getElem_mem hlt))
      generalize rs[k] = r at *
      have hCl := hide (cloneRg_any Bk dk r wr (hsl.mono (Nat.zero_le _)) (by omega))
      clear hdl hOdr hsl
      go_wp2_with fail
      refine hCl.out.mono ?_
      rintro e w4 ⟨A4, c4, rfl, hO4, hg4⟩
      clear hCl cd c0
      have hDo := hide (doubled_any A4 c4 r w4 (hO4.sl.mono (Nat.zero_le _)) (by omega) (by omega) hbd.out)
      go_wp2_with fail
      refine hDo.out.mono ?_
      rintro e w5 ⟨rfl, hg5⟩
      generalize dblF r = X at *
      have hO5 := hO4.pure hg5
      have hg45 := hg4.t hg5
      clear hDo hO4 hg4 hg5
      obtain ⟨g4, rfl, hgl4, -⟩ := hO5.shape (by omega)
      have hRv := hide (reverseRing_any _ g4 c4 r w5 hO5 (by omega) (by omega))
      go_upto_if 34 with fail
      generalize (!(decide (0 < X) == (D % 2 == 0))) = T
      go_cut [] (fun wx => ∃ m : List Pt, Hid (m.length = r.length) ∧ Own wx wr.heap.size 30 (some ⟨g4, 0, none⟩) c4 m ∧ wr.grownBy wx none)
      case first =>
        cases T
        · go_wp2_with fail
          go_meet
          exact ⟨r, rfl, hO5, hg45⟩
        · go_wp2_with fail
          refine hRv.out.mono ?_
          rintro e w6 ⟨⟨v, rfl⟩, hO6, hg6⟩
          go_wp2_with fail
          go_meet
          exact ⟨r.reverse, List.length_reverse, hO6, gr_new hg45 hg6 hgl4⟩
      case rest =>
      clear hRv hO5 hg45 hbd
      obtain ⟨m, hml, hOm, hgc⟩ := hcut
      generalize hwq : wc = w6 at *
      clear hwq
      have hMi := hide (minFunc_any (some ⟨g4, 0, none⟩) c4 m w6 (hOm.sl.mono (Nat.zero_le _)) (by have := hml.out; omega))
      rw [hml.out] at hMi
      go_wp2_with fail
      refine hMi.out.mono ?_
      rintro e w7 ⟨p, rfl, hpm, hg7⟩
      have hIx := hide (indexIn_any (some ⟨g4, 0, none⟩) c4 m p w7 ((hOm.pure hg7).sl.mono (Nat.zero_le _)) hpm)
      rw [hml.out] at hIx
      clear hMi hpm
      go_wp2_with fail
      refine hIx.out.mono ?_
      rintro e w8 ⟨j, rfl, hj, hg8⟩
      have hOj := hOm.pure (hg7.t hg8)
      have hgj := hgc.t (hg7.t hg8)
      clear hIx hOm hgc hg7 hg8
      have hcp := hOj.cap
      rw [hml.out] at hcp
      have hjm : j < m.length := by rw [hml.out]; exact hj
      have hDr : Hid (∀ W, w8.grownBy W none → Sl W 0 (some ⟨g4, j * 2, none⟩) (m.drop j)) := fun W h => by
        have h2 : Sl W _ (some ⟨g4, 0 + j * 2, none⟩) (m.drop j) := (hOj.pure h).sl.dropH j
        rw [Nat.zero_add] at h2
        exact h2.mono (Nat.zero_le _)
      have hTk : Hid (∀ W, w8.grownBy W none → Sl W 0 (some ⟨g4, 0, none⟩) (m.take j)) := fun W h => ((hOj.pure h).takeH j (by omega)).sl.mono (Nat.zero_le _)
      have hDl : Hid (r.length - j = (m.drop j).length) := by rw [Hid, List.length_drop, hml.out]
      have hTl : Hid (j = (m.take j).length) := by rw [Hid, List.length_take]; omega
      have hZl : Hid ((flatK [m.drop j, m.take j] 2).length = r.length) := by
        rw [Hid, flatK_all (Nat.le_refl 2)]
        simp only [List.flatten_cons, List.flatten_nil, List.append_nil, List.length_append]
        rw [← hDl.out, ← hTl.out]
        omega
      have hor8 := hor.pure hgj
      have hgr8 := hgr.t hgj
      have hall8 : Hid (∀ r ∈ raws, RgOk w8 w2.heap.size A2 r) := fun r hr => (hall.out r hr).pure hgj
      have hrk : raws.length ≤ 100 := by rw [hrl.out]; omega
      clear hor hgr hall hOj hgj hjm hgl4
      go_upto_region 12 with fail
      refine wp_region_tree (fun wx => w8.grownBy wx none) [2, 2, 2, 2, 2, 2, 2, 0, 0, 0, 0, 2] (.bl 0 (.bl 1 (.bl 2 (.bl 3 (.bl 4 (.bl 5 (.bl 6 (.ef 7 (.ef 8 (.ef 9 (.ef 10 (.bl 11 .done)))))))))))) (by kernel_rfl) (by kernel_rfl) (gr_drew (World.grownBy.refl _ _)) ?_
      obtain ⟨u0, hu0⟩ : ∃ x, x = (w8).drew := ⟨_, rfl⟩
      rw [← hu0]
      have hgu0 : (w8).grownBy u0 none := by rw [hu0]; exact gr_drew (World.grownBy.refl _ _)
      clear hu0
      refine tree_p rfl rfl rfl rfl _ rfl (by simp) (fun K hK => ?_)
      apply Exists.intro
      refine ⟨fun wq K' hK' => ?_, ?_⟩
      · go_wp2_with fail
        exact hK'
      go_simp
      refine hK _ ?_
      clear hK K
      refine tree_p rfl rfl rfl rfl _ rfl (by simp) (fun K hK => ?_)
      apply Exists.intro
      refine ⟨fun wq K' hK' => ?_, ?_⟩
      · go_wp2_with fail
        exact hK'
      go_simp
      refine hK _ ?_
      clear hK K
      refine tree_p rfl rfl rfl rfl _ rfl (by simp) (fun K hK => ?_)
      apply Exists.intro
      refine ⟨fun wq K' hK' => ?_, ?_⟩
      · go_wp2_with fail
        exact hK'
      go_simp
      refine hK _ ?_
      clear hK K
      refine tree_p rfl rfl rfl rfl _ rfl (by simp) (fun K hK => ?_)
      apply Exists.intro
      refine ⟨fun wq K' hK' => ?_, ?_⟩
      · go_wp2_with fail
        exact hK'
      go_simp
      refine hK _ ?_
      clear hK K
      refine tree_p rfl rfl rfl rfl _ rfl (by simp) (fun K hK => ?_)
      apply Exists.intro
      refine ⟨fun wq K' hK' => ?_, ?_⟩
      · go_wp2_with fail
        exact hK'
      go_simp
      refine hK _ ?_
      clear hK K
      refine tree_p rfl rfl rfl rfl _ rfl (by simp) (fun K hK => ?_)
      apply Exists.intro
      refine ⟨fun wq K' hK' => ?_, ?_⟩
      · go_wp2_with fail
        exact hK'
      go_simp
      refine hK _ ?_
      clear hK K
      refine tree_p rfl rfl rfl rfl _ rfl (by simp) (fun K hK => ?_)
      apply Exists.intro
      refine ⟨fun wq K' hK' => ?_, ?_⟩
      · go_wp2_with fail
        exact hK'
      go_simp
      refine hK _ ?_
      clear hK K
      refine tree_e0 (by kernel_rfl) rfl rfl (fun K hK => ?_)
      go_wp2_with fail
      try go_simp
      refine hK _ _ trivial ?_
      clear hK K
      refine tree_e0 (by kernel_rfl) rfl rfl (fun K hK => ?_)
      go_wp2_with fail
      refine (concatRings_any (some ⟨u0.heap.size, 0, none⟩) 2 [m.drop j, m.take j] _ (sl_two u0 0 66 (some ⟨g4, j * 2, none⟩) (some ⟨g4, 0, none⟩) _ _ (r.length - j) j (c4 - j) c4 hDl.out hTl.out (by omega) (by omega) (hDr.out u0 hgu0) (hTk.out u0 hgu0) (Nat.zero_le _)) (by show (flatK [m.drop j, m.take j] 2).length ≤ 1000000; rw [hZl.out]; omega)).mono ?_
      rintro e v8 ⟨A8, c8, rfl, hO8, hg8⟩
      go_wp2_with fail
      try go_simp
      refine hK _ _ trivial ?_
      clear hK K
      have hgA := gr_trans (gr_alloc hgu0 _) hg8
      have hlo8 := (gr_alloc hgu0 (.cells #[.slice (some ⟨g4, j * 2, none⟩) (r.length - j) (c4 - j), .slice (some ⟨g4, 0, none⟩) j c4] 66)).size
      replace hO8 := hO8.lower hlo8
      have hZ2 := hZl.out
      change (flatK [m.drop j, m.take j] [m.drop j, m.take j].length).length = r.length at hZ2
      generalize flatK [m.drop j, m.take j] [m.drop j, m.take j].length = Z at *
      clear hg8 hlo8 hDr hTk hDl hTl
      refine tree_e0 (by kernel_rfl) rfl rfl (fun K hK => ?_)
      go_wp2_with fail
      try go_simp
      refine hK _ _ trivial ?_
      clear hK K
      have hne : ∀ g, blk A8 = some g → blk A2 ≠ some g := fun g h e => by
        have h1 := (hO8.blk_lt h).1
        have h2 := (hor8.blk_lt e).2
        omega
      have hgr9 := hgr8.t hgA
      have hor9 := hor8.pure hgA
      have hall9 : Hid (∀ r ∈ raws, RgOk v8 w2.heap.size A2 r) := fun r hr => (hall8.out r hr).pure hgA
      have hnew : RgOk v8 w2.heap.size A2 ⟨A8, r.length, c8⟩ := ⟨Z, ⟨⟨⟨hZ2.symm, (by show r.length ≤ c8; rw [← hZ2]; exact hO8.cap), hO8.sl.mono hgr8.size, fun g h => ⟨Nat.le_trans hgr8.size (hO8.blk_lt h).1, (hO8.blk_lt h).2⟩⟩, hne⟩, ThawR.own hO8⟩, by omega, by omega⟩
      obtain ⟨v9, hv9⟩ : ∃ x, x = (v8).alloc (.cells #[.slice A8 r.length c8] 66) := ⟨_, rfl⟩
      have hg9a : (v8).grownBy v9 none := by rw [hv9]; exact gr_alloc (World.grownBy.refl _ _) _
      have hS9 : Sl v9 0 (some ⟨(v8).heap.size, 0, none⟩) [(⟨A8, r.length, c8⟩ : RawS)] := by rw [hv9]; exact sl_oneAt _ 0 [.slice A8 r.length c8] _ _ _ (by first | rfl | simp) (Nat.zero_le _) rfl
      rw [← hv9]
      clear hv9
      replace hor9 := hor9.pure hg9a
      replace hgr9 := hgr9.t hg9a
      replace hall9 : Hid (∀ r ∈ raws, RgOk v9 w2.heap.size A2 r) := fun r hr => (hall9.out r hr).pure hg9a
      replace hnew := hnew.pure hg9a
      clear hg9a
      refine tree_e0 (by kernel_rfl) rfl rfl (fun K hK => ?_)
      refine wp_pushAt (α := RawS) _ (.tmp 41) (.tmp 50) _ rfl w2.heap.size 66 i0 _ 24 Tryz.underlying26 hi.out hz.out h1.out h2.out rfl _ _ _ raws rfl rfl (by exact hor9) 0 ⟨_, 0, none⟩ 1 1 [⟨A8, r.length, c8⟩] rfl rfl (by exact hS9) ?d2 ?d3 ?d4 ?_
      case d2 => simp; omega
      case d3 => simp [maxLen]; omega
      case d4 => exact hgr9.size
      intro A10 c10 v10 hO10 hG10
      simp only [Act.put, List.setIfInBounds_toArray, List.set_cons_zero, List.set_cons_succ]
      try go_simp
      refine hK _ _ trivial ?_
      clear hK K
      refine tree_p rfl rfl rfl rfl _ rfl (by simp) (fun K hK => ?_)
      apply Exists.intro
      refine ⟨fun wq K' hK' => ?_, ?_⟩
      · go_wp2_with fail
        exact hK'
      go_simp
      refine hK _ ?_
      clear hK K
      refine tree_done ?_
      have hgz := gr_row hgr9 hG10.1 (fun x e => (hor9.blk_lt e).1)
      have hallz : Hid (∀ q ∈ raws ++ [(⟨A8, r.length, c8⟩ : RawS)], RgOk v10 w2.heap.size A10 q) := fun q hr => by
        rcases List.mem_append.1 hr with h | h
        · exact (hall9.out q h).grew hG10
        · rw [List.mem_singleton.1 h]; exact hnew.grew hG10
      have hrz : Hid ((raws ++ [(⟨A8, r.length, c8⟩ : RawS)]).length = k + 1) := by rw [Hid, List.length_append, hrl.out]; rfl
      go_wp2_with fail
      (go_roundw; (case rel => exact ⟨k + 1, raws ++ [⟨A8, r.length, c8⟩], A10, c10, by omega, by go_num, by rw [List.length_append]; rfl, hrz, hO10, hallz, fun h => absurd h (by omega), hgz⟩); (case measure => simp [intOf]; omega))
    · have hrk : raws.length ≤ 100 := by rw [hrl.out]; omega
      have hgz := hgw2.t hgr
      have hszw := hgw2.size
      by_cases h0 : k = 0
      · obtain ⟨rfl, rfl⟩ := hk0.out h0
        have hr0 : raws = [] := List.eq_nil_of_length_eq_zero (by rw [hrl.out]; exact h0)
        subst hr0
        have hS := hide (sortNilRg wr (.func (.func 112) #[] #[]))
        clear hi hz h1 h2
        go_wp2_with fail
        refine hS.out.mono ?_
        rintro e w9 ⟨rfl, hw9⟩
        have hgz9 : w.grownBy w9 none := hw9 ▸ hgz
        go_wp2_with fail
        exact bodyPost_ret (v := .tuple #[.slice none 0 0, .int .i64 0]) (by simp [results, Tryz.results41, go_sem]) rfl ⟨none, 0, [], rfl, Own.nil _ _ _, by simp, by simp, hgz9⟩
      · have h0r : 0 < raws.length := by rw [hrl.out]; omega
        obtain ⟨g2, rfl, hg2l, -⟩ := hor.shape h0r
        have hP : ∀ i, ∃ p, ∀ h : i < raws.length, FstAt wr g2 raws[i] p := fun i => by
          by_cases h : i < raws.length
          · obtain ⟨p, hp⟩ := (hall.out _ (List.getElem_mem h)).fst
            exact ⟨p, fun _ => hp⟩
          · exact ⟨⟨0, 0⟩, fun h2 => absurd h2 h⟩
        let P : Nat → Pt := fun i => Classical.choose (hP i)
        have hS := hide (sortRg_any g2 c2 _ raws wr hor (by omega) h0r P (fun i h => Classical.choose_spec (hP i) h))
        clear hi hz h1 h2
        clear hP P
        go_wp2_with fail
        refine hS.out.mono ?_
        rintro e w9 ⟨rfl, raws', hpr, hO9, hg9⟩
        have hall9 : Hid (∀ r ∈ raws', RgOk w9 w.heap.size (some ⟨g2, 0, none⟩) r) := fun r hr =>
          ((hall.out r (hpr.subset hr)).gr hg9 (fun g hb e => (hall.out r (hpr.subset hr)).ne g hb (by rw [← e]; rfl))).lower hszw
        have hlr : raws.length = raws'.length := hpr.length_eq.symm
        replace hlr := hide hlr
        have hgy := gr_new hgz hg9 (by omega)
        clear hS
        go_wp2_with fail
        exact bodyPost_ret (v := .tuple #[.slice (some ⟨g2, 0, none⟩) raws.length c2, .int .i64 0]) (by simp [results, Tryz.results41, go_sem]) rfl ⟨_, c2, raws', by rw [hlr.out], hO9.lower hszw, hall9.out, by rw [← hlr.out]; exact hrk, hgy⟩

end Go.Proofs.YtgcpegjggakemaaGreatDoor

namespace Go.Bl
open Go
/-- n cells, st apart, that hold values of a class and may be written; their block is one of lo .. hi -/
def SpV (C : Value → Prop) (st : Nat) (w : World) (lo hi : Nat) (A : Option Addr) (n : Nat) : Prop := ∀ j, j < n → ∃ g o v, A = some ⟨g, o, none⟩ ∧ lo ≤ g ∧ g < hi ∧ C v ∧ Cell w g (o + j * st) v

theorem SpV.gr {C : Value → Prop} {st : Nat} {w w' : World} {lo hi : Nat} {A : Option Addr} {n : Nat} {q : Option Nat} (h : SpV C st w lo hi A n) (hg : w.grownBy w' q) (hq : ∀ g, q = some g → hi ≤ g ∨ g < lo) : SpV C st w' lo hi A n := fun j hj => by
  obtain ⟨g, o, v, h1, h2, h3, h4, h5⟩ := h j hj
  exact ⟨g, o, v, h1, h2, h3, h4, h5.gr hg (fun e => by have := hq g e; omega)⟩

theorem SpV.mono {C : Value → Prop} {st : Nat} {w : World} {lo hi lo' hi' : Nat} {A : Option Addr} {n : Nat} (h : SpV C st w lo hi A n) (h1 : lo' ≤ lo) (h2 : hi ≤ hi') : SpV C st w lo' hi' A n := fun j hj => by
  obtain ⟨g, o, v, e1, e2, e3, e4⟩ := h j hj
  exact ⟨g, o, v, e1, Nat.le_trans h1 e2, Nat.lt_of_lt_of_le e3 h2, e4⟩

theorem SpV.pure {C : Value → Prop} {st : Nat} {w w' : World} {lo hi : Nat} {A : Option Addr} {n : Nat} (h : SpV C st w lo hi A n) (hg : w.grownBy w' none) : SpV C st w' lo hi A n := h.gr hg (fun _ e => by cases e)

theorem SpV.set {C : Value → Prop} {st : Nat} {w : World} {lo hi : Nat} {A : Option Addr} {n : Nat} (h : SpV C st w lo hi A n) (g' i : Nat) (u : Value) (hu : C u) (h1 : u.oneCell' = true) : SpV C st (w.setCell ⟨g', i, none⟩ u) lo hi A n := fun j hj => by
  obtain ⟨g, o, v, e1, e2, e3, e4, e5⟩ := h j hj
  by_cases e : g' = g ∧ i = o + j * st
  · obtain ⟨rfl, rfl⟩ := e
    exact ⟨g', o, u, e1, e2, e3, hu, e5.set_ _⟩
  · refine ⟨g, o, v, e1, e2, e3, e4, ?_⟩
    by_cases e6 : g' = g
    · subst e6
      exact e5.set_ne _ (fun e7 => e ⟨rfl, e7⟩)
    · exact e5.gr (gr_set (World.grownBy.refl w (some g')) (p := ⟨g', i, none⟩) (.inl rfl) _) (fun e7 => e6 (by injection e7))

def IsI (v : Value) : Prop := ∃ x : Int, v = .int .i64 x

def IsS (v : Value) : Prop := ∃ x : ByteArray, v = .string x

section
variable {P : Program} {α : Type} [Enc α] [Flat α]

theorem run_pushAny (w : World) (lo : Nat) (t ty e : TypeId) (i : TypeInfo) (z : Value) (bytes : Nat) (ht : P.underlying t = some (.slice e)) (hi : P.info? e = some i) (hz : i.zero = some z)
    (hsize : i.size = Enc.sz α) (hby : i.bytes = bytes) (hzs : z.cells.size = Enc.sz α) (hz0 : 0 < Enc.sz α)
    (A : Option Addr) (c : Nat) (l : List α) (hown : Own w lo e A c l) (lo2 : Nat) (X : Option Addr) (cc : Nat) (l2 : List α) (hsl : Sl w lo2 X l2)
    (hbytes : (l.length + l2.length) * bytes ≤ 140737488355328) (h63 : l.length + l2.length ≤ maxLen) (hbase : lo ≤ w.heap.size) :
    ∃ A' c' w', (Builtin.append_ #[t, t] ty #[.slice A l.length c, .slice X l2.length cc]).run P w = .ok (.slice A' (l ++ l2).length c') w' ∧ Own w' lo e A' c' (l ++ l2) ∧ Grew A A' w w' := by
  rcases Nat.eq_zero_or_pos l2.length with h0 | h0
  · obtain rfl := List.eq_nil_of_length_eq_zero h0
    refine ⟨A, c, w, ?_, by rw [List.append_nil]; exact hown, World.grownBy.refl _ _, .inl rfl⟩
    rw [List.append_nil]
    exact run_append_zero w t ty e i ht hi A X l.length c cc hown.cap
  · obtain ⟨g, o, cx, rfl, -⟩ := hsl.at_ hz0 h0
    exact run_pushAt w lo t ty e i z bytes ht hi hz hsize hby hzs A c l hown lo2 _ cc l2 hsl hbytes h63 hbase

theorem wp_pushAny {o : Oper} {a : Act} {K : Act → World → Prop} {Q : Exit → Act → World → Prop} (w : World) (s x : Operand) (t : TypeId)
    (ho : o.op = .call { callee := .builtin .append, args := #[s, x], argTypes := #[t, t] })
    (lo : Nat) (e : TypeId) (i : TypeInfo) (z : Value) (bytes : Nat) (ht : P.underlying t = some (.slice e)) (hi : P.info? e = some i) (hz : i.zero = some z)
    (hsize : i.size = Enc.sz α) (hby : i.bytes = bytes) (hzs : z.cells.size = Enc.sz α) (hz0 : 0 < Enc.sz α)
    (A : Option Addr) (n c : Nat) (l : List α) (hs : a.eval s = .slice A n c) (hn : n = l.length) (hown : Own w lo e A c l)
    (lo2 : Nat) (X : Option Addr) (m cc : Nat) (l2 : List α) (hx : a.eval x = .slice X m cc) (hm : m = l2.length) (hsl : Sl w lo2 X l2)
    (hbytes : (l.length + l2.length) * bytes ≤ 140737488355328) (h63 : l.length + l2.length ≤ maxLen) (hbase : lo ≤ w.heap.size)
    (h : ∀ A' c' w', Own w' lo e A' c' (l ++ l2) → Grew A A' w w' → K (a.put o.dst (.slice A' (l ++ l2).length c')) w') : o.wp P a w K Q := by
  subst hn
  subst hm
  obtain ⟨A', c', w', hrun, h2, h3⟩ := run_pushAny (P := P) w lo t o.type e i z bytes ht hi hz hsize hby hzs hz0 A c l hown lo2 X cc l2 hsl hbytes h63 hbase
  unfold Oper.wp execOp
  simp only [ho, resolve, invoke, builtin, Sem.run_bind, Sem.run_pure, Result.andThen_ok, List.map_toArray, List.map_cons, List.map_nil, hs, hx, hrun]
  exact h A' c' w' h2 h3

theorem wpList_pushAny {ops : Array Oper} {rest : List Oper} {o : Oper} {a : Act} {Q : Exit → Act → World → Prop} (w : World) (hgd : o.guard = none) (s x : Operand) (t : TypeId)
    (ho : o.op = .call { callee := .builtin .append, args := #[s, x], argTypes := #[t, t] })
    (lo : Nat) (e : TypeId) (i : TypeInfo) (z : Value) (bytes : Nat) (ht : P.underlying t = some (.slice e)) (hi : P.info? e = some i) (hz : i.zero = some z)
    (hsize : i.size = Enc.sz α) (hby : i.bytes = bytes) (hzs : z.cells.size = Enc.sz α) (hz0 : 0 < Enc.sz α)
    (A : Option Addr) (n c : Nat) (l : List α) (hs : a.eval s = .slice A n c) (hn : n = l.length) (hown : Own w lo e A c l)
    (lo2 : Nat) (X : Option Addr) (m cc : Nat) (l2 : List α) (hx : a.eval x = .slice X m cc) (hm : m = l2.length) (hsl : Sl w lo2 X l2)
    (hbytes : (l.length + l2.length) * bytes ≤ 140737488355328) (h63 : l.length + l2.length ≤ maxLen) (hbase : lo ≤ w.heap.size)
    (h : ∀ A' c' w', Own w' lo e A' c' (l ++ l2) → Grew A A' w w' → wpList P ops Q rest (a.put o.dst (.slice A' (l ++ l2).length c')) w') : wpList P ops Q (o :: rest) a w :=
  wpList_plain hgd fun _ hK => wp_pushAny w s x t ho lo e i z bytes ht hi hz hsize hby hzs hz0 A n c l hs hn hown lo2 X m cc l2 hx hm hsl hbytes h63 hbase fun A' c' w' h2 h3 => hK _ _ (h A' c' w' h2 h3)
end

end Go.Bl
namespace Go.Proofs.YtgcpegjggakemaaGreatDoor
open Go Go.RowKit Go.Bl

theorem RgOk.sp {w : World} {lo : Nat} {A : Option Addr} {r : RawS} (h : RgOk w lo A r) : SpV IsI 2 w lo w.heap.size r.A r.n := fun j hj => by
  obtain ⟨x, ⟨⟨⟨h1, h2, h4, h5⟩, h6⟩, h7⟩, -⟩ := h
  have hj2 : j < x.length := by rw [← h1]; exact hj
  obtain ⟨g, o, cx, e, hb0, hb1, rfl, hc⟩ := h4.at_ (by decide) hj2
  have hb : blk r.A = some g := by rw [show r.A = some ⟨g, o, none⟩ from e]; rfl
  exact ⟨g, o, _, e, hb0, hb1, ⟨_, rfl⟩, hc 0 _ rfl, h7 g hb _⟩

theorem RgOk.le {w : World} {lo : Nat} {A : Option Addr} {r : RawS} (h : RgOk w lo A r) : r.n ≤ 500 := by
  obtain ⟨x, ⟨⟨⟨h1, -⟩, -⟩, -⟩, -, h3⟩ := h
  rw [h1]; exact h3

theorem Own.spS {w : World} {lo : Nat} {e : TypeId} {A : Option Addr} {c : Nat} {l : List ByteArray} (h : Own w lo e A c l) : SpV IsS 1 w lo w.heap.size A l.length := fun j hj => by
  obtain ⟨g, rfl, h1, h2⟩ := h.shape (by omega)
  obtain ⟨c1, hr, hc⟩ := h.cell_at (by decide) hj
  have hr' : c1 = [.string l[j]] := hr
  subst hr'
  have h3 := hc 0 _ rfl
  rw [show Enc.sz ByteArray = 1 from rfl, Nat.add_zero] at h3
  exact ⟨g, 0, _, rfl, h1, h2, ⟨_, rfl⟩, by rw [Nat.zero_add]; exact h3, by rw [Nat.zero_add]; exact h.frozen _⟩

set_option maxHeartbeats 400000 in
theorem cloneStrs_any (A : Option Addr) (n c : Nat) (l : List ByteArray) (w : World) (hl : Sl w 0 A l) (hln : l.length = n) (hlen : n ≤ 1000000) :
    Calls Tryz.prog 40 #[.slice A n c] w fun e w' => ∃ A' c', e = .returned (.slice A' n c') ∧ Own w' w.heap.size 9 A' c' l ∧ w.grownBy w' none := by
  subst hln
  obtain ⟨i0, hi, hz, h1, h2⟩ := info_parts info_strC
  have hq := fun W => Lib.run_eql_slice_nil (P := Tryz.prog) W 32 9 A l.length c 0 0 Tryz.underlying32
  rcases A with _ | ad
  · have hl0 : l = [] := by
      rcases Nat.eq_zero_or_pos l.length with h | h
      · exact List.eq_nil_of_length_eq_zero h
      · obtain ⟨g, o, cx, e, _⟩ := hl.at_ (by decide) h
        cases e
    subst hl0
    simp only [List.length_nil] at hq
    go_enter Tryz.func40, Tryz.ntmps40
    go_wp2_with fail
    go_ret
    exact ⟨none, 0, rfl, Own.nil _ _ _, World.grownBy.refl _ _⟩
  · go_enter Tryz.func40, Tryz.ntmps40
    go_wp2_with (at_builtin; refine wpList_push (α := ByteArray) _ rfl (.tmp 5) (.tmp 6) _ rfl w.heap.size 9 i0 _ 16 Tryz.underlying32 hi hz h1 h2 rfl _ _ _ [] rfl rfl (by exact Own.empty _ _ _ (Nat.le_refl _)) 0 ad _ c l rfl rfl (by exact hl.pure (gr_alloc (World.grownBy.refl _ _) _)) ?c2 ?c3 ?c4 ?_)
    case c2 => simp; omega
    case c3 => simp [maxLen]; omega
    case c4 => simp
    intro A2 c2 w2 hown hup
    go_wp2
    go_ret
    exact ⟨A2, c2, rfl, hown, hup.gr (Nat.le_refl _) (gr_alloc (World.grownBy.refl _ _) _)⟩

end Go.Proofs.YtgcpegjggakemaaGreatDoor

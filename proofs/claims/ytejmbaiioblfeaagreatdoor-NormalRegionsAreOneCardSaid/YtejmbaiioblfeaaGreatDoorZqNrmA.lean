/- Contracts of functions that this seat's laws reach, each: what one call returns and what it leaves in memory; no condition beyond each theorem's own hypotheses. -/
import Derived.Test.YtejmbaiioblfeaaGreatDoorZqHulD
import Derived.Test.YtejmbaiioblfeaaGreatDoorZqRegSame
set_option linter.unusedVariables false
set_option linter.unusedSimpArgs false
namespace Go.Bl
open Go Go.Sort Go.Proofs

instance : EncL RawS := ⟨fun r => [.slice r.A r.n r.c], Iff.rfl⟩

theorem sortWorld_eq {α : Type} [Inhabited α] (enc : α → Value) (w : World) (g m : Nat) (d : Array α) (os : Array Obj) : sortWorld enc w g 0 m d os = grow (putRow id (Sort.ahead w m) g 0 (d.map enc)) os := by
  unfold sortWorld putRow
  congr 2
  funext c
  unfold putCells
  apply Array.ext_getElem?
  intro k
  simp only [Array.getElem?_mapIdx, Array.size_map, Nat.sub_zero, Nat.zero_add, Nat.zero_le, true_and]
  congr 1
  funext x
  by_cases h : k < d.size
  · rw [if_pos h, if_pos h, getElem!_pos d k h, getElem!_pos (d.map enc) k (by simpa using h)]
    simp
  · rw [if_neg h, if_neg h]

theorem Own.rowPut {α : Type} [Enc α] [Flat α] [EncL α] {w : World} {lo : Nat} {e : TypeId} {g c : Nat} {l l' : List α} (h : Own w lo e (some ⟨g, 0, none⟩) c l) {F : Array Value} {n : Nat} {os : Array Obj} (hl : l'.length = l.length) (hF : F.toList = (l'.map EncL.e).flatten) :
    Own (grow (putRow id (Sort.ahead w n) g 0 F) os) lo e (some ⟨g, 0, none⟩) c l' ∧ w.grownBy (grow (putRow id (Sort.ahead w n) g 0 F) os) (some g) := by
  refine ⟨?_, grownBy_sortedV _⟩
  obtain ⟨hm, cs, hr, ho⟩ := h
  refine ⟨by rw [hl]; exact hm, _, encL_row _, ?_⟩
  rcases ho.2 with ⟨h3, _⟩ | ⟨g', cap, cur, hv, hb, hh, hn, hcm, hs, ht⟩
  · cases h3
  · cases hv
    have hz : F.size = l'.length * Enc.sz α := by
      have := (encL_row (w := w) (lo := lo) l').len
      rw [← hF] at this
      simpa using this
    refine ⟨?_, .inr ⟨g, c, _, rfl, hb, heap_sortedV _ hh, by rw [hl]; exact hn, hcm, by simp [putCells, hs], ?_⟩⟩
    · rw [← hF]; simpa using hz
    · rw [← hF, ← hz]
      exact take_putCellsV _ _ (by rw [hz, hs, hl]; exact Nat.mul_le_mul_right _ hn)

end Go.Bl
namespace Go.Proofs.YtejmbaiioblfeaaGreatDoor
open Go Go.RowKit Go.Bl Go.Sort Go.Lib

set_option maxHeartbeats 2000000 in
set_option maxRecDepth 100000 in
theorem normalCmp_any (ga oa gb ob n m ca cb : Nat) (p q : Pt) (w : World) (hn : 0 < n) (hm : 0 < m)
    (a0 : w.cell? ⟨ga, oa, none⟩ = some (.int .i64 p.x)) (a1 : w.cell? ⟨ga, oa + 1, none⟩ = some (.int .i64 p.y)) (b0 : w.cell? ⟨gb, ob, none⟩ = some (.int .i64 q.x)) (b1 : w.cell? ⟨gb, ob + 1, none⟩ = some (.int .i64 q.y)) :
    Calls Tryz.prog 38 #[.slice (some ⟨ga, oa, none⟩) n ca, .slice (some ⟨gb, ob, none⟩) m cb] w fun e w' => e = .returned (.int .i64 (cmpPt p q)) ∧ Qt w w' := by
  have hC := hide fun W => comparePoints_any p q W
  have hcl := hide fun W (h : Qt w W) => (⟨h.g.k a0, h.g.k a1, h.g.k b0, h.g.k b1⟩ : _ ∧ _ ∧ _ ∧ _)
  clear a0 a1 b0 b1
  go_enter Tryz.func38, Tryz.ntmps38
  go_upto_region 1 with fail
  refine wp_region_tree (fun wx => Qt w wx) [2, 2, 1, 2, 2, 1, 0, 2] (.bl 0 (.bl 1 (.bl 2 (.bl 3 (.bl 4 (.bl 5 (.ef 6 (.bl 7 .done)))))))) (by kernel_rfl) (by kernel_rfl) (Qt.drew _) ?_
  obtain ⟨u0, hu0⟩ : ∃ x, x = (w).drew := ⟨_, rfl⟩
  rw [← hu0]
  have hqu0 : Qt w u0 := by rw [hu0]; exact Qt.drew _
  clear hu0
  refine tree_p rfl rfl rfl rfl _ rfl (by simp) (fun K hK => ?_)
  apply Exists.intro
  refine ⟨fun wq K' hK' => ?_, ?_⟩
  · go_wp2_with fail
    exact hK'
  go_simp
  refine hK _ ?_
  clear hK K
  refine tree_p rfl rfl rfl rfl _ rfl (by simp) (fun K hK => ?_)
  apply Exists.intro
  refine ⟨fun wq K' hK' => ?_, ?_⟩
  · go_wp2_with fail
    exact hK'
  go_simp
  refine hK _ ?_
  clear hK K
  refine tree_b rfl rfl rfl rfl _ rfl (by simp) (fun K hK => ?_)
  apply Exists.intro
  refine ⟨fun wq hq K' hK' => ?_, ?_⟩
  · obtain ⟨c0, c1, c2, c3⟩ := hcl.out wq hq
    go_wp2_with fail
    exact hK'
  go_simp
  refine hK _ ?_
  clear hK K
  refine tree_p rfl rfl rfl rfl _ rfl (by simp) (fun K hK => ?_)
  apply Exists.intro
  refine ⟨fun wq K' hK' => ?_, ?_⟩
  · go_wp2_with fail
    exact hK'
  go_simp
  refine hK _ ?_
  clear hK K
  refine tree_p rfl rfl rfl rfl _ rfl (by simp) (fun K hK => ?_)
  apply Exists.intro
  refine ⟨fun wq K' hK' => ?_, ?_⟩
  · go_wp2_with fail
    exact hK'
  go_simp
  refine hK _ ?_
  clear hK K
  refine tree_b rfl rfl rfl rfl _ rfl (by simp) (fun K hK => ?_)
  apply Exists.intro
  refine ⟨fun wq hq K' hK' => ?_, ?_⟩
  · obtain ⟨c0, c1, c2, c3⟩ := hcl.out wq hq
    go_wp2_with fail
    exact hK'
  go_simp
  refine hK _ ?_
  clear hK K
  refine tree_e0 (by kernel_rfl) rfl rfl (fun K hK => ?_)
  go_wp2_with fail
  refine (hC.out u0).mono ?_
  rintro e w6 ⟨rfl, hq6⟩
  go_wp2_with fail
  try go_simp
  refine hK _ _ trivial ?_
  clear hK K
  refine tree_p rfl rfl rfl rfl _ rfl (by simp) (fun K hK => ?_)
  apply Exists.intro
  refine ⟨fun wq K' hK' => ?_, ?_⟩
  · go_wp2_with fail
    exact hK'
  go_simp
  refine hK _ ?_
  clear hK K
  refine tree_done ?_
  go_wp2_with fail
  go_ret
  exact ⟨rfl, hqu0.trans hq6⟩

/-- the first corner of a ring as it lies -/
def FstAt (w : World) (g : Nat) (r : RawS) (p : Pt) : Prop := ∃ ga oa, r.A = some ⟨ga, oa, none⟩ ∧ 0 < r.n ∧ ga ≠ g ∧ ga < w.heap.size ∧ w.cell? ⟨ga, oa, none⟩ = some (.int .i64 p.x) ∧ w.cell? ⟨ga, oa + 1, none⟩ = some (.int .i64 p.y)

theorem FstAt.gr {w w' : World} {g : Nat} {r : RawS} {p : Pt} (h : FstAt w g r p) (hg : w.grownBy w' (some g)) : FstAt w' g r p := by
  obtain ⟨ga, oa, h1, h2, h3, h4, h5, h6⟩ := h
  have hb := hg.block ga h4 (fun e => h3 (by injection e))
  exact ⟨ga, oa, h1, h2, h3, Nat.lt_of_lt_of_le h4 hg.size, (World.cell?_of_block (a := ⟨ga, oa, none⟩) hb).trans h5, (World.cell?_of_block (a := ⟨ga, oa + 1, none⟩) hb).trans h6⟩

end Go.Proofs.YtejmbaiioblfeaaGreatDoor

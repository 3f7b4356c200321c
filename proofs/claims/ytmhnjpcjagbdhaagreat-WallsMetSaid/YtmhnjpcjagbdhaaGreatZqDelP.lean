/- Contracts of functions that this seat's laws reach, each: what one call returns and what it leaves in memory; no condition beyond each theorem's own hypotheses. -/
import Derived.Test.YtmhnjpcjagbdhaaGreatZqKit3
import Derived.Test.YtmhnjpcjagbdhaaGreatZqPathE
import Derived.Deep.RegionLaw
import Derived.Lib.SliceRun
set_option linter.unusedVariables false
set_option linter.unusedSimpArgs false
namespace Go.Proofs.YtmhnjpcjagbdhaaGreat
open Go Go.RowKit Go.Bl

theorem run_clear_two {P : Program} (w : World) (t e ty : TypeId) (z a b : Value) (ht : P.underlying t = some (.slice e)) (hv : ∀ w, (zeroValue e).run P w = .ok z w) (hz : z.cells = #[a, b]) (h1 : a.oneCell' = true) (h2 : b.oneCell' = true) (g o c : Nat)
    (hc : (w.cell? ⟨g, o, none⟩).isSome = true ∧ (w.cell? ⟨g, o + 1, none⟩).isSome = true) (hf : w.frozen? ⟨g, o, none⟩ = false ∧ w.frozen? ⟨g, o + 1, none⟩ = false) :
    (Builtin.clear_ #[t] ty #[.slice (some ⟨g, o, none⟩) 1 c]).run P w = .ok (.tuple #[]) (w.setCells g o [a, b]) := by
  have hzc : (Builtin.zeroCells z.cells 1).toList = [a, b] := by
    rw [hz]
    apply List.ext_getElem
    · simp [Builtin.zeroCells]
    · intro i q1 q2
      have q3 : i = 0 ∨ i = 1 := by simp only [List.length_cons, List.length_nil] at q2; omega
      rcases q3 with rfl | rfl <;> simp [Builtin.zeroCells]
  have two : ∀ j, j < 2 → j = 0 ∨ j = 1 := fun j hj => by omega
  have c1 : ∀ j, j < [a, b].length → (w.cell? ⟨g, o + 0 + j, none⟩).isSome = true := by
    intro j hj
    rcases two j hj with rfl | rfl
    · exact hc.1
    · exact hc.2
  have c2 : ∀ j, j < [a, b].length → w.frozen? ⟨g, o + 0 + j, none⟩ = false := by
    intro j hj
    rcases two j hj with rfl | rfl
    · exact hf.1
    · exact hf.2
  have c3 : ∀ v ∈ [a, b], v.oneCell' = true := by
    intro v hv'
    simp only [List.mem_cons, List.not_mem_nil, or_false] at hv'
    rcases hv' with rfl | rfl
    · exact h1
    · exact h2
  have hst := run_storeCells_cells (P := P) g o [a, b] 0 w c1 c2 c3
  simp only [Nat.add_zero] at hst
  simp [Builtin.clear_, run_underlying ht, hv, hzc, hst]

theorem zero_path (w : World) : (zeroValue 62).run Tryz.prog w = .ok (.agg #[.slice none 0 0, .bool false]) w := Tryz.zeroValue62 w

set_option maxHeartbeats 4000000 in
set_option maxRecDepth 100000 in
theorem delPath_any (g c : Nat) (l : List RawP) (n j lo : Nat) (w : World) (h : Own w lo 62 (some ⟨g, 0, none⟩) c l) (hn : l.length = n) (hj : j < n) (hc : c ≤ 9223372036854775807) :
    Calls Tryz.prog 56 #[.slice (some ⟨g, 0, none⟩) n c, .int .i64 j, .int .i64 (j + 1)] w fun e w' => e = .returned (.slice (some ⟨g, 0, none⟩) (n - 1 : Nat) c) ∧ Own w' lo 62 (some ⟨g, 0, none⟩) c (l.eraseIdx j) ∧ w.grownBy w' (some g) := by
  have hcap := h.cap
  have hnc : n ≤ c := by omega
  have hjn1 : (0 : Int) ≤ (j : Int) + 1 := by omega
  have hjn2 : (j : Int) + 1 ≤ (n : Int) := by omega
  have hj1 : j ≤ c := by omega
  have hj2 : j + 1 ≤ c := by omega
  have hb : ((j : Int) == (j : Int) + 1) = false := by simp; omega
  have hn2 := hide hn
  obtain ⟨i0, hi, hz, hi1, hi2⟩ := info_parts info_path
  obtain ⟨A2, hA2, hsrc⟩ : ∃ A2 : Addr, (if c = j + 1 then some (⟨g, 0, none⟩ : Addr) else some ⟨g, (j + 1) * 2, none⟩) = some A2 ∧ Hid (∀ t u, (rawCells (l.drop (j + 1)))[t]? = some u → w.drew.cell? (A2.add t) = some u) := by
    by_cases hq : c = j + 1
    · refine ⟨⟨g, 0, none⟩, by simp [hq], fun t u hu => ?_⟩
      have h0 : (rawCells (l.drop (j + 1))).length = 0 := by rw [rawCells_len, List.length_drop]; omega
      rw [List.length_eq_zero_iff.1 h0] at hu
      simp at hu
    · refine ⟨⟨g, (j + 1) * 2, none⟩, by simp [hq], fun t u hu => ?_⟩
      have := h.raw_drop (j + 1) t u hu
      rw [Addr.add_lit]
      exact this
  have s1 : Hid ((rawCells (l.drop (j + 1))).length = (n - (j + 1)) * 2) := by rw [Hid, rawCells_len, List.length_drop, hn]
  have s2 : Hid (∀ u ∈ rawCells (l.drop (j + 1)), u.oneCell' = true) := rawCells_one _
  have hd := h.pure (gr_drew (World.grownBy.refl w none))
  have s3 : Hid (∀ t, t < (rawCells (l.drop (j + 1))).length → (w.drew.cell? ⟨g, 0 + j * 2 + t, none⟩).isSome = true ∧ w.drew.frozen? ⟨g, 0 + j * 2 + t, none⟩ = false) := by
    intro t ht
    rw [s1.out] at ht
    refine ⟨?_, hd.frozen _⟩
    have := hd.raw_drop j t _ (List.getElem?_eq_getElem (by rw [rawCells_len, List.length_drop]; omega))
    rw [Nat.zero_add, this]; rfl
  have hO1 := Own.sets (l.drop (j + 1)) hd (k := j) (by rw [List.length_drop]; omega)
  have hg1 := gr_setCells (World.grownBy.refl w.drew (some g)) (rawCells (l.drop (j + 1))) (j * 2)
  obtain ⟨W1, hW1⟩ : ∃ W1, W1 = w.drew.setCells g (j * 2) (rawCells (l.drop (j + 1))) := ⟨_, rfl⟩
  rw [← hW1] at hO1 hg1
  have hW : Hid (W1 = w.drew.setCells g (0 + j * 2) (rawCells (l.drop (j + 1)))) := by rw [Nat.zero_add]; exact hW1
  obtain ⟨L1, hL1⟩ : ∃ L1, L1 = l.take j ++ l.drop (j + 1) ++ l.drop (j + (l.drop (j + 1)).length) := ⟨_, rfl⟩
  rw [← hL1] at hO1
  have hLn : L1.length = n := by rw [hL1]; simp [List.length_drop, List.length_take]; omega
  have hLt : L1.take (n - 1) = l.eraseIdx j := by
    rw [erase_parts l j (by omega), hL1, List.take_append_of_le_length (by simp [List.length_drop, List.length_take]; omega), List.take_of_length_le (by simp [List.length_drop, List.length_take]; omega)]
  have hO2 := Own.sets [⟨none, 0, 0, false⟩] hO1 (k := n - 1) (by simp; omega)
  have hg2 := gr_setCells hg1 (rawCells [⟨none, 0, 0, false⟩]) ((n - 1) * 2)
  have hO3 := hO2.cut (m := n - 1) (by simp; omega)
  rw [List.append_assoc, List.take_append_of_le_length (by rw [List.length_take]; omega), List.take_of_length_le (by rw [List.length_take]; omega), hLt] at hO3
  obtain ⟨x0, k0⟩ : ∃ x, W1.cell? ⟨g, (n - 1) * 2, none⟩ = some x := ⟨_, (hO1.cell_rawp (i := n - 1) (by omega)).1⟩
  obtain ⟨x1, k1⟩ : ∃ x, W1.cell? ⟨g, (n - 1) * 2 + 1, none⟩ = some x := ⟨_, (hO1.cell_rawp (i := n - 1) (by omega)).2⟩
  have f0 := hO1.frozen ((n - 1) * 2)
  have f1 := hO1.frozen ((n - 1) * 2 + 1)
  clear hO1 hO2 hW1 hd hL1 hLt hLn h hn hg1
  have hO3 := hide hO3
  have hg2 := hide (gr_trans (gr_drew (World.grownBy.refl w (some g))) hg2)
  go_enter Tryz.func56, Tryz.ntmps56
  go_wp2_with fail
  go_region_law (refine step_append_room rfl (.tmp 22) (.tmp 25) 31 rfl 62 i0 2 Tryz.underlying31 hi hi1 g 0 j c (by simp [Act.eval, Act.put]) A2 (n - (j + 1)) (c - (j + 1)) (rawCells (l.drop (j + 1))) (by simp [Act.eval, Act.put]) s1.out hsrc.out s2.out (by omega) s3.out ?_; rw [← hW.out])
  go_wp2_with fail
  have hm : j + (n - (j + 1)) = n - 1 := by omega
  have hm1 : n - (n - 1) = 1 := by omega
  rw [hm, hm1]
  have hcl : ∀ ty cc, (Builtin.clear_ #[31] ty #[.slice (some ⟨g, (n - 1) * 2, none⟩) 1 cc]).run Tryz.prog W1 = .ok (.tuple #[]) (W1.setCells g ((n - 1) * 2) (rawCells [⟨none, 0, 0, false⟩])) := fun ty cc => run_clear_two W1 _ _ ty _ (.slice none 0 0) (.bool false) Tryz.underlying31 zero_path rfl rfl rfl g _ cc ⟨by rw [k0]; rfl, by rw [k1]; rfl⟩ ⟨f0, f1⟩
  rw [hcl]
  obtain ⟨W2, hW2⟩ : ∃ W2, W2 = W1.setCells g ((n - 1) * 2) (rawCells [⟨none, 0, 0, false⟩]) := ⟨_, rfl⟩
  rw [← hW2] at hO3 hg2 ⊢
  clear hcl hW2 k0 k1 f0 f1 hW hsrc s1 s2 s3
  go_wp2_with fail
  go_ret
  exact ⟨rfl, hO3.out, hg2.out⟩

end Go.Proofs.YtmhnjpcjagbdhaaGreat

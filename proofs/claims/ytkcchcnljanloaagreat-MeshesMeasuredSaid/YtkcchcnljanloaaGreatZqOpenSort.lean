/- Contracts of functions that this seat's laws reach, each: what one call returns and what it leaves in memory; no condition beyond each theorem's own hypotheses. -/
import Derived.Test.YtkcchcnljanloaaGreatZqSortK
import Derived.Test.YtkcchcnljanloaaGreatSortASide
import Derived.Test.YtkcchcnljanloaaGreatShelf
import Derived.Test.YtkcchcnljanloaaGreatZqTree
import Derived.Test.YtkcchcnljanloaaGreatZqFlowA
import Derived.Test.YtkcchcnljanloaaGreatZqGpLib
import Derived.Test.YtkcchcnljanloaaGreatZqMeshE
import Derived.Deep.DeepCutAuto
set_option linter.unusedVariables false
set_option linter.unusedSimpArgs false
namespace Go.Proofs.YtkcchcnljanloaaGreat
open Go Go.RowKit Go.Bl Go.Sort Go.Lib

set_option maxHeartbeats 400000 in
theorem orInt_any (A : Option Addr) (n c : Nat) (l : List Int) (w : World) (hl : Sl w 0 A l) (hn : n = l.length) :
    Calls Tryz.prog 47 #[.slice A n c] w fun e w' => e = .returned (.int .i64 (orL l)) ∧ w = w' := by
  have hm := hl.1
  unfold maxLen at hm
  subst hn
  go_enter Tryz.func47, Tryz.ntmps47
  go_wp2
  go_loop [8] (fun i => ∃ k : Nat, k ≤ l.length ∧ i = .int .i64 k ∧ Hid (orL (l.drop k) = orL l)) (fun i => l.length - (intOf i).toNat)
  case atStart => exact ⟨0, Nat.zero_le _, rfl, rfl⟩
  case round =>
    obtain ⟨k, hk, rfl, hd⟩ := hrel
    by_cases hlt : k < l.length
    · obtain ⟨g, o, cx, rfl, hb0, hb1, rfl, hc⟩ := hl.at_ (by decide) hlt
      have c0 : w.cell? ⟨g, o + k, none⟩ = some (.int .i64 l[k]) := by have := hc 0 _ rfl; rwa [show Enc.sz Int = 1 from rfl, Nat.mul_one] at this
      clear hc
      by_cases hz : l[k] = 0
      · have HS : Hid (orL (l.drop (k + 1)) = orL l) := by have := hd.out; rw [orL_drop hlt, if_neg (by simp [hz])] at this; exact this
        have hb : (l[k] != 0) = false := by simp [hz]
        clear hz
        go_wp2
        go_round
        case rel => exact ⟨k + 1, by omega, by go_num, HS⟩
        case measure => simp [intOf]; omega
      · have HS : Hid (l[k] = orL l) := by have := hd.out; rw [orL_drop hlt, if_pos hz] at this; exact this
        have hb : (l[k] != 0) = true := by simp [hz]
        clear hz
        go_wp2
        go_ret
        exact ⟨ret_int HS.out, rfl⟩
    · have HS : Hid (0 = orL l) := by have := hd.out; rw [List.drop_of_length_le (by omega)] at this; exact this
      go_wp2
      go_ret
      exact ⟨ret_int HS.out, rfl⟩

def cmpS (x y : Sd) : Int := orL [compareInt x.u y.u, compareInt x.v y.v]

theorem cmpS_eq (x y : Sd) : cmpS x y = if x.u < y.u then -1 else if y.u < x.u then 1 else if x.v < y.v then -1 else if y.v < x.v then 1 else 0 := by
  unfold cmpS compareInt orL
  by_cases h1 : x.u < y.u
  · simp [h1]
  · by_cases h2 : y.u < x.u
    · simp [h1, h2]
    · by_cases h3 : x.v < y.v
      · simp [h1, h2, h3, orL]
      · by_cases h4 : y.v < x.v <;> simp [h1, h2, h3, h4, orL]

theorem ltS (x y : Sd) : ltOf cmpS x y = decide (x.u < y.u ∨ x.u = y.u ∧ x.v < y.v) := by
  unfold ltOf
  rw [cmpS_eq, decide_eq_decide]
  by_cases h1 : x.u < y.u
  · simp [h1]
  · by_cases h2 : y.u < x.u
    · simp [h1, h2]; omega
    · by_cases h3 : x.v < y.v
      · simp [h1, h2, h3]; omega
      · by_cases h4 : y.v < x.v <;> simp [h1, h2, h3, h4]

theorem swoS : SWO (ltOf cmpS) where
  irrefl x := by rw [ltS]; simp
  trans x y z h1 h2 := by rw [ltS] at *; simp at *; omega
  ntrans x y z h1 h2 := by rw [ltS] at *; simp at *; omega

instance : EncL Sd := ⟨fun p => [.int .i64 p.u, .int .i64 p.v], Iff.rfl⟩

theorem isAgg_aside (w : World) : (isAgg 63).run Tryz.prog w = .ok true w := Tryz.isAgg63 w

theorem sizeOf_aside (w : World) : (Go.sizeOf 63).run Tryz.prog w = .ok 2 w := Tryz.sizeOf63 w

set_option maxHeartbeats 1000000 in
set_option maxRecDepth 100000 in
theorem cmpSides_any (x y : Sd) (W : World) : Calls Tryz.prog 63 #[.agg #[.int .i64 x.u, .int .i64 x.v], .agg #[.int .i64 y.u, .int .i64 y.v]] W fun e w' => e = .returned (.int .i64 (cmpS x y)) ∧ ∃ q os', w' = grow (W.drewN q) os' := by
  have hc1 := hide fun W' => Tryz.cmp_Compare_int x.u y.u W'
  have hc2 := hide fun W' => Tryz.cmp_Compare_int x.v y.v W'
  have hV : Hid (cmpS x y = orL [compareInt x.u y.u, compareInt x.v y.v]) := rfl
  generalize cmpS x y = z at *
  generalize compareInt x.u y.u = r1 at *
  generalize compareInt x.v y.v = r2 at *
  obtain ⟨W1, hW1⟩ : ∃ W1, W1 = (W.alloc (.cells #[.int .i64 x.u, .int .i64 x.v] 63)).alloc (.cells #[.int .i64 y.u, .int .i64 y.v] 63) := ⟨_, rfl⟩
  have b0 : W1.cell? ⟨W.heap.size, 0, none⟩ = some (.int .i64 x.u) := by rw [hW1]; go_simp
  have b1 : W1.cell? ⟨W.heap.size, 1, none⟩ = some (.int .i64 x.v) := by rw [hW1]; go_simp
  have b2 : W1.cell? ⟨W.heap.size + 1, 0, none⟩ = some (.int .i64 y.u) := by rw [hW1]; go_simp
  have b3 : W1.cell? ⟨W.heap.size + 1, 1, none⟩ = some (.int .i64 y.v) := by rw [hW1]; go_simp
  have hG : Hid (∃ os, W1 = grow W os) := ⟨_, by rw [hW1, alloc_eq_grow, alloc_eq_grow, grow_grow]⟩
  replace hW1 := hide hW1.symm
  have hB := hide (And.intro b0 (And.intro b1 (And.intro b2 b3)))
  clear b0 b1 b2 b3
  go_enter Tryz.func63, Tryz.ntmps63
  go_upto_region 1 with fail
  rw [hW1.out]
  clear hW1
  refine wp_region_tree (fun wx => wx.cell? ⟨W.heap.size, 0, none⟩ = some (.int .i64 x.u) ∧ wx.cell? ⟨W.heap.size, 1, none⟩ = some (.int .i64 x.v) ∧ wx.cell? ⟨W.heap.size + 1, 0, none⟩ = some (.int .i64 y.u) ∧ wx.cell? ⟨W.heap.size + 1, 1, none⟩ = some (.int .i64 y.v)) [2, 1, 2, 1, 0, 2, 1, 2, 1, 0, 0, 0, 2] (.bl 0 (.bl 1 (.bl 2 (.bl 3 (.bl 5 (.bl 6 (.bl 7 (.bl 8 (.ef 4 (.ef 9 (.ef 10 (.ef 11 (.bl 12 .done))))))))))))) (by kernel_rfl) (by kernel_rfl) (hB.out) ?_
  refine tree_p rfl rfl rfl rfl _ rfl (by simp) (fun K hK => ?_)
  apply Exists.intro
  refine ⟨fun wq K' hK' => ?_, ?_⟩
  · go_wp2_with fail
    exact hK'
  go_simp
  refine hK _ ?_
  clear hK K
  refine tree_b rfl rfl rfl rfl _ rfl (by simp) (fun K hK => ?_)
  apply Exists.intro
  refine ⟨fun wq hq K' hK' => ?_, ?_⟩
  · obtain ⟨c0, c1, c2, c3⟩ := hq
    go_wp2_with fail
    exact hK'
  go_simp
  refine hK _ ?_
  clear hK K
  refine tree_p rfl rfl rfl rfl _ rfl (by simp) (fun K hK => ?_)
  apply Exists.intro
  refine ⟨fun wq K' hK' => ?_, ?_⟩
  · go_wp2_with fail
    exact hK'
  go_simp
  refine hK _ ?_
  clear hK K
  refine tree_b rfl rfl rfl rfl _ rfl (by simp) (fun K hK => ?_)
  apply Exists.intro
  refine ⟨fun wq hq K' hK' => ?_, ?_⟩
  · obtain ⟨c0, c1, c2, c3⟩ := hq
    go_wp2_with fail
    exact hK'
  go_simp
  refine hK _ ?_
  clear hK K
  refine tree_p rfl rfl rfl rfl _ rfl (by simp) (fun K hK => ?_)
  apply Exists.intro
  refine ⟨fun wq K' hK' => ?_, ?_⟩
  · go_wp2_with fail
    exact hK'
  go_simp
  refine hK _ ?_
  clear hK K
  refine tree_b rfl rfl rfl rfl _ rfl (by simp) (fun K hK => ?_)
  apply Exists.intro
  refine ⟨fun wq hq K' hK' => ?_, ?_⟩
  · obtain ⟨c0, c1, c2, c3⟩ := hq
    go_wp2_with fail
    exact hK'
  go_simp
  refine hK _ ?_
  clear hK K
  refine tree_p rfl rfl rfl rfl _ rfl (by simp) (fun K hK => ?_)
  apply Exists.intro
  refine ⟨fun wq K' hK' => ?_, ?_⟩
  · go_wp2_with fail
    exact hK'
  go_simp
  refine hK _ ?_
  clear hK K
  refine tree_b rfl rfl rfl rfl _ rfl (by simp) (fun K hK => ?_)
  apply Exists.intro
  refine ⟨fun wq hq K' hK' => ?_, ?_⟩
  · obtain ⟨c0, c1, c2, c3⟩ := hq
    go_wp2_with fail
    exact hK'
  go_simp
  refine hK _ ?_
  clear hK K
  refine tree_e rfl rfl (fun K hK => ?_)
  go_wp2_with fail
  refine (hc1.out _).mono ?_
  rintro e w4 ⟨rfl, rfl⟩
  go_wp2_with fail
  try go_simp
  refine hK _ _ (hB.out) ?_
  clear hK K
  refine tree_e0 (by kernel_rfl) rfl rfl (fun K hK => ?_)
  go_wp2_with fail
  refine (hc2.out _).mono ?_
  rintro e w9 ⟨rfl, rfl⟩
  go_wp2_with fail
  try go_simp
  refine hK _ _ trivial ?_
  clear hK K
  refine tree_e0 (by kernel_rfl) rfl rfl (fun K hK => ?_)
  go_wp2_with fail
  try go_simp
  refine hK _ _ trivial ?_
  clear hK K
  refine tree_e0 (by kernel_rfl) rfl rfl (fun K hK => ?_)
  go_wp2_with fail
  refine (orInt_any _ _ _ [r1, r2] _ ((sl_intsAt W1 0 3 [r1, r2] _ (by first | rfl | simp) (Nat.zero_le _) (by simp [maxLen])).pure (gr_drew (World.grownBy.refl _ _))) rfl).mono ?_
  rintro e w11 ⟨rfl, rfl⟩
  go_wp2_with fail
  try go_simp
  refine hK _ _ trivial ?_
  clear hK K
  refine tree_p rfl rfl rfl rfl _ rfl (by simp) (fun K hK => ?_)
  apply Exists.intro
  refine ⟨fun wq K' hK' => ?_, ?_⟩
  · go_wp2_with fail
    exact hK'
  go_simp
  refine hK _ ?_
  clear hK K
  refine tree_done ?_
  go_wp2_with fail
  go_ret
  obtain ⟨os, rfl⟩ := hG.out
  exact ⟨ret_int hV.out.symm, 1, _, by rw [alloc_eq_grow, grow_grow, drew_grow]; rfl⟩

set_option maxHeartbeats 1000000 in
set_option maxRecDepth 100000 in
theorem cmpSidesR_any (x y : Sd) (W : World) : Calls Tryz.prog 46 #[.agg #[.int .i64 x.u, .int .i64 x.v], .agg #[.int .i64 y.u, .int .i64 y.v]] W fun e w' => e = .returned (.int .i64 (cmpS x y)) ∧ ∃ q os', w' = grow (W.drewN q) os' := by
  have hc1 := hide fun W' => Tryz.cmp_Compare_int x.u y.u W'
  have hc2 := hide fun W' => Tryz.cmp_Compare_int x.v y.v W'
  have hV : Hid (cmpS x y = orL [compareInt x.u y.u, compareInt x.v y.v]) := rfl
  generalize cmpS x y = z at *
  generalize compareInt x.u y.u = r1 at *
  generalize compareInt x.v y.v = r2 at *
  obtain ⟨W1, hW1⟩ : ∃ W1, W1 = (W.alloc (.cells #[.int .i64 x.u, .int .i64 x.v] 63)).alloc (.cells #[.int .i64 y.u, .int .i64 y.v] 63) := ⟨_, rfl⟩
  have b0 : W1.cell? ⟨W.heap.size, 0, none⟩ = some (.int .i64 x.u) := by rw [hW1]; go_simp
  have b1 : W1.cell? ⟨W.heap.size, 1, none⟩ = some (.int .i64 x.v) := by rw [hW1]; go_simp
  have b2 : W1.cell? ⟨W.heap.size + 1, 0, none⟩ = some (.int .i64 y.u) := by rw [hW1]; go_simp
  have b3 : W1.cell? ⟨W.heap.size + 1, 1, none⟩ = some (.int .i64 y.v) := by rw [hW1]; go_simp
  have hG : Hid (∃ os, W1 = grow W os) := ⟨_, by rw [hW1, alloc_eq_grow, alloc_eq_grow, grow_grow]⟩
  replace hW1 := hide hW1.symm
  have hB := hide (And.intro b0 (And.intro b1 (And.intro b2 b3)))
  clear b0 b1 b2 b3
  go_enter Tryz.func46, Tryz.ntmps46
  go_upto_region 1 with fail
  rw [hW1.out]
  clear hW1
  refine wp_region_tree (fun wx => wx.cell? ⟨W.heap.size, 0, none⟩ = some (.int .i64 x.u) ∧ wx.cell? ⟨W.heap.size, 1, none⟩ = some (.int .i64 x.v) ∧ wx.cell? ⟨W.heap.size + 1, 0, none⟩ = some (.int .i64 y.u) ∧ wx.cell? ⟨W.heap.size + 1, 1, none⟩ = some (.int .i64 y.v)) [2, 1, 2, 1, 0, 2, 1, 2, 1, 0, 0, 0, 2] (.bl 0 (.bl 1 (.bl 2 (.bl 3 (.bl 5 (.bl 6 (.bl 7 (.bl 8 (.ef 4 (.ef 9 (.ef 10 (.ef 11 (.bl 12 .done))))))))))))) (by kernel_rfl) (by kernel_rfl) (hB.out) ?_
  refine tree_p rfl rfl rfl rfl _ rfl (by simp) (fun K hK => ?_)
  apply Exists.intro
  refine ⟨fun wq K' hK' => ?_, ?_⟩
  · go_wp2_with fail
    exact hK'
  go_simp
  refine hK _ ?_
  clear hK K
  refine tree_b rfl rfl rfl rfl _ rfl (by simp) (fun K hK => ?_)
  apply Exists.intro
  refine ⟨fun wq hq K' hK' => ?_, ?_⟩
  · obtain ⟨c0, c1, c2, c3⟩ := hq
    go_wp2_with fail
    exact hK'
  go_simp
  refine hK _ ?_
  clear hK K
  refine tree_p rfl rfl rfl rfl _ rfl (by simp) (fun K hK => ?_)
  apply Exists.intro
  refine ⟨fun wq K' hK' => ?_, ?_⟩
  · go_wp2_with fail
    exact hK'
  go_simp
  refine hK _ ?_
  clear hK K
  refine tree_b rfl rfl rfl rfl _ rfl (by simp) (fun K hK => ?_)
  apply Exists.intro
  refine ⟨fun wq hq K' hK' => ?_, ?_⟩
  · obtain ⟨c0, c1, c2, c3⟩ := hq
    go_wp2_with fail
    exact hK'
  go_simp
  refine hK _ ?_
  clear hK K
  refine tree_p rfl rfl rfl rfl _ rfl (by simp) (fun K hK => ?_)
  apply Exists.intro
  refine ⟨fun wq K' hK' => ?_, ?_⟩
  · go_wp2_with fail
    exact hK'
  go_simp
  refine hK _ ?_
  clear hK K
  refine tree_b rfl rfl rfl rfl _ rfl (by simp) (fun K hK => ?_)
  apply Exists.intro
  refine ⟨fun wq hq K' hK' => ?_, ?_⟩
  · obtain ⟨c0, c1, c2, c3⟩ := hq
    go_wp2_with fail
    exact hK'
  go_simp
  refine hK _ ?_
  clear hK K
  refine tree_p rfl rfl rfl rfl _ rfl (by simp) (fun K hK => ?_)
  apply Exists.intro
  refine ⟨fun wq K' hK' => ?_, ?_⟩
  · go_wp2_with fail
    exact hK'
  go_simp
  refine hK _ ?_
  clear hK K
  refine tree_b rfl rfl rfl rfl _ rfl (by simp) (fun K hK => ?_)
  apply Exists.intro
  refine ⟨fun wq hq K' hK' => ?_, ?_⟩
  · obtain ⟨c0, c1, c2, c3⟩ := hq
    go_wp2_with fail
    exact hK'
  go_simp
  refine hK _ ?_
  clear hK K
  refine tree_e rfl rfl (fun K hK => ?_)
  go_wp2_with fail
  refine (hc1.out _).mono ?_
  rintro e w4 ⟨rfl, rfl⟩
  go_wp2_with fail
  try go_simp
  refine hK _ _ (hB.out) ?_
  clear hK K
  refine tree_e0 (by kernel_rfl) rfl rfl (fun K hK => ?_)
  go_wp2_with fail
  refine (hc2.out _).mono ?_
  rintro e w9 ⟨rfl, rfl⟩
  go_wp2_with fail
  try go_simp
  refine hK _ _ trivial ?_
  clear hK K
  refine tree_e0 (by kernel_rfl) rfl rfl (fun K hK => ?_)
  go_wp2_with fail
  try go_simp
  refine hK _ _ trivial ?_
  clear hK K
  refine tree_e0 (by kernel_rfl) rfl rfl (fun K hK => ?_)
  go_wp2_with fail
  refine (orInt_any _ _ _ [r1, r2] _ ((sl_intsAt W1 0 3 [r1, r2] _ (by first | rfl | simp) (Nat.zero_le _) (by simp [maxLen])).pure (gr_drew (World.grownBy.refl _ _))) rfl).mono ?_
  rintro e w11 ⟨rfl, rfl⟩
  go_wp2_with fail
  try go_simp
  refine hK _ _ trivial ?_
  clear hK K
  refine tree_p rfl rfl rfl rfl _ rfl (by simp) (fun K hK => ?_)
  apply Exists.intro
  refine ⟨fun wq K' hK' => ?_, ?_⟩
  · go_wp2_with fail
    exact hK'
  go_simp
  refine hK _ ?_
  clear hK K
  refine tree_done ?_
  go_wp2_with fail
  go_ret
  obtain ⟨os, rfl⟩ := hG.out
  exact ⟨ret_int hV.out.symm, 1, _, by rw [alloc_eq_grow, grow_grow, drew_grow]; rfl⟩

/-- a row of sides in their order -/
def SrtS (l : List Sd) : Prop := ∀ i j (hi : i < l.length) (hj : j < l.length), i < j → ¬ (l[j].u < l[i].u ∨ l[j].u = l[i].u ∧ l[j].v < l[i].v)

set_option maxHeartbeats 1000000 in
theorem sortSides_own (g c : Nat) (lo : Nat) (l : List Sd) (w : World) (ho : Own w lo 63 (some ⟨g, 0, none⟩) c l) (hl : l.length ≤ 1000000) :
    Calls Tryz.prog 45 #[.slice (some ⟨g, 0, none⟩) l.length c, .func (.func 63) #[] #[]] w fun e w' => e = .returned (.tuple #[]) ∧ ∃ l' : List Sd, l'.Perm l ∧ SrtS l' ∧ Own w' lo 63 (some ⟨g, 0, none⟩) c l' ∧ w.grownBy w' (some g) := by
  have eg : ∀ args w, (callFunc 63 args).run Tryz.prog w = .ok (.enter 63 args) w := enters_of Tryz.func63 (by kernel_rfl) rfl
  have hsz : l.toArray.size < 4611686018427387904 := by
    simp only [List.size_toArray]; omega
  have hcon := AnyQ.slices_SortFunc Tryz.sortASide 2 isAgg_aside sizeOf_aside EncL.e (fun x => EncL.len x) (fun x v hv => EncL.one x v hv) cmpS swoS 63 #[] g 0 c l.toArray w eg (fun m os dk _ x y => cmpSides_any x y _) ho.holds (ho.blk_lt rfl).2 hsz
  change Calls Tryz.prog 45 _ _ _ at hcon
  refine hcon.mono ?_
  rintro e w' ⟨rfl, d', n, os, hp, hs, rfl⟩
  obtain ⟨h1, h2, h3⟩ := ho.sorted (n := n) (os := os) hp
  refine ⟨rfl, d'.toList, h1, fun i j hi hj hij => ?_, h2, h3⟩
  have hsz2 : d'.size = l.length := by simpa using (permIn_all hp).2
  have := hs i j (Nat.zero_le _) hij (by simpa [hsz2] using hj)
  rw [ltS] at this
  simp only [Array.length_toList] at hi hj
  rw [getElem!_pos d' i hi, getElem!_pos d' j hj] at this
  simpa using this

set_option maxHeartbeats 1000000 in
theorem sortSidesR_own (g c : Nat) (lo : Nat) (l : List Sd) (w : World) (ho : Own w lo 63 (some ⟨g, 0, none⟩) c l) (hl : l.length ≤ 1000000) :
    Calls Tryz.prog 45 #[.slice (some ⟨g, 0, none⟩) l.length c, .func (.func 46) #[] #[]] w fun e w' => e = .returned (.tuple #[]) ∧ ∃ l' : List Sd, l'.Perm l ∧ SrtS l' ∧ Own w' lo 63 (some ⟨g, 0, none⟩) c l' ∧ w.grownBy w' (some g) := by
  have eg : ∀ args w, (callFunc 46 args).run Tryz.prog w = .ok (.enter 46 args) w := enters_of Tryz.func46 (by kernel_rfl) rfl
  have hsz : l.toArray.size < 4611686018427387904 := by
    simp only [List.size_toArray]; omega
  have hcon := AnyQ.slices_SortFunc Tryz.sortASide 2 isAgg_aside sizeOf_aside EncL.e (fun x => EncL.len x) (fun x v hv => EncL.one x v hv) cmpS swoS 46 #[] g 0 c l.toArray w eg (fun m os dk _ x y => cmpSidesR_any x y _) ho.holds (ho.blk_lt rfl).2 hsz
  change Calls Tryz.prog 45 _ _ _ at hcon
  refine hcon.mono ?_
  rintro e w' ⟨rfl, d', n, os, hp, hs, rfl⟩
  obtain ⟨h1, h2, h3⟩ := ho.sorted (n := n) (os := os) hp
  refine ⟨rfl, d'.toList, h1, fun i j hi hj hij => ?_, h2, h3⟩
  have hsz2 : d'.size = l.length := by simpa using (permIn_all hp).2
  have := hs i j (Nat.zero_le _) hij (by simpa [hsz2] using hj)
  rw [ltS] at this
  simp only [Array.length_toList] at hi hj
  rw [getElem!_pos d' i hi, getElem!_pos d' j hj] at this
  simpa using this

theorem own_cases {α : Type} [Enc α] {w : World} {lo : Nat} {e : TypeId} {A : Option Addr} {c : Nat} {l : List α} (h : Own w lo e A c l) : (A = none ∧ c = 0 ∧ l = []) ∨ ∃ g, A = some ⟨g, 0, none⟩ := by
  obtain ⟨_, cs, _, ho⟩ := h
  rcases ho.2 with ⟨h1, h2⟩ | ⟨g, cap, cur, hv, _⟩
  · injection h1 with h1 h3 h4
    exact .inl ⟨h1, h4, List.eq_nil_of_length_eq_zero h2⟩
  · injection hv with hv
    exact .inr ⟨g, hv⟩

end Go.Proofs.YtkcchcnljanloaaGreat

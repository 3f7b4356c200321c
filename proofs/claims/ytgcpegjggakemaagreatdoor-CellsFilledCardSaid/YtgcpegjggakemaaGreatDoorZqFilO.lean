/- Contracts of functions that this seat's laws reach, each: what one call returns and what it leaves in memory; no condition beyond each theorem's own hypotheses. -/
import Derived.Test.YtgcpegjggakemaaGreatDoorZqFillLaw
import Derived.Test.YtgcpegjggakemaaGreatDoorZqHasB
import Derived.Test.YtgcpegjggakemaaGreatDoorZqInsB
import Derived.Test.YtgcpegjggakemaaGreatDoorZqCelW
import Derived.Test.YtgcpegjggakemaaGreatDoorZqCelAB
import Derived.Test.YtgcpegjggakemaaGreatDoorZqTwo
import Derived.Test.YtgcpegjggakemaaGreatDoorShelf
import Derived.Deep.DeepCutAuto
set_option linter.unusedVariables false
set_option linter.unusedSimpArgs false
namespace Go.Bl
open Go
/-- the columns (or rows) of corners -/
def colsF (g : Pt → Int) (l : List Pt) (step : Int) : List Int := l.map fun p => g p / step

theorem colsF_len (g : Pt → Int) (l : List Pt) (step : Int) : (colsF g l step).length = l.length := by simp [colsF]

theorem colsF_snoc (g : Pt → Int) (l : List Pt) (p : Pt) (step : Int) : colsF g (l ++ [p]) step = colsF g l step ++ [g p / step] := by simp [colsF]

def LeastO (l : List Int) (n : Int) : Prop := n ∈ l ∧ ∀ x ∈ l, n ≤ x

def MostO (l : List Int) (n : Int) : Prop := n ∈ l ∧ ∀ x ∈ l, x ≤ n

theorem LeastO.snoc {l : List Int} {n x : Int} (h : LeastO l n) : LeastO (l ++ [x]) (min n x) := by
  refine ⟨?_, fun y hy => ?_⟩
  · rcases Int.le_total n x with e | e
    · rw [Int.min_eq_left e]; exact List.mem_append_left _ h.1
    · rw [Int.min_eq_right e]; simp
  · rcases List.mem_append.1 hy with hy | hy
    · have := h.2 y hy; omega
    · simp at hy; omega

theorem MostO.snoc {l : List Int} {n x : Int} (h : MostO l n) : MostO (l ++ [x]) (max n x) := by
  refine ⟨?_, fun y hy => ?_⟩
  · rcases Int.le_total n x with e | e
    · rw [Int.max_eq_right e]; simp
    · rw [Int.max_eq_left e]; exact List.mem_append_left _ h.1
  · rcases List.mem_append.1 hy with hy | hy
    · have := h.2 y hy; omega
    · simp at hy; omega

theorem low_cols (g : Pt → Int) {l : List Pt} {step n : Int} (hs : 0 < step) (h : LeastO (colsF g l step) n) : n = lowF g l / step := by
  have h1 := h.1
  unfold colsF at h1
  obtain ⟨p, hp, rfl⟩ := List.mem_map.1 h1
  obtain ⟨q, hq, e⟩ := lowF_mem g (l := l) (List.length_pos_of_mem hp)
  have h2 := h.2 (g q / step) (List.mem_map.2 ⟨q, hq, rfl⟩)
  have h3 := Int.ediv_le_ediv hs (lowF_le g hp)
  rw [e] at h3 ⊢
  omega

theorem hi_cols (g : Pt → Int) {l : List Pt} {step n : Int} (hs : 0 < step) (h : MostO (colsF g l step) n) : n = hiF g l / step := by
  have h1 := h.1
  unfold colsF at h1
  obtain ⟨p, hp, rfl⟩ := List.mem_map.1 h1
  obtain ⟨q, hq, e⟩ := hiF_mem g (l := l) (List.length_pos_of_mem hp)
  have h2 := h.2 (g q / step) (List.mem_map.2 ⟨q, hq, rfl⟩)
  have h3 := Int.ediv_le_ediv hs (le_hiF g hp)
  rw [e] at h3 ⊢
  omega

theorem min_leastO : ∀ (zs : List Int) (k : Nat), 0 < k → k ≤ zs.length → LeastO (zs.take k) (Lib.minOf (zs.take k))
  | zs, 1, _, hk => by
    rw [Lib.minOf_one]
    obtain ⟨z, r, rfl⟩ := List.exists_cons_of_ne_nil (List.length_pos_iff.1 (show 0 < zs.length by omega))
    exact ⟨by simp, by simp⟩
  | zs, k + 2, _, hk => by
    have ih := min_leastO zs (k + 1) (by omega) (by omega)
    rw [Lib.minOf_step zs (k + 1) (by omega) (by omega), List.take_succ_eq_append_getElem (show k + 1 < zs.length by omega), List.getD_eq_getElem?_getD, List.getElem?_eq_getElem (show k + 1 < zs.length by omega), Option.getD_some]
    exact ih.snoc

theorem max_mostO : ∀ (zs : List Int) (k : Nat), 0 < k → k ≤ zs.length → MostO (zs.take k) (Lib.maxOf (zs.take k))
  | zs, 1, _, hk => by
    rw [Lib.maxOf_one]
    obtain ⟨z, r, rfl⟩ := List.exists_cons_of_ne_nil (List.length_pos_iff.1 (show 0 < zs.length by omega))
    exact ⟨by simp, by simp⟩
  | zs, k + 2, _, hk => by
    have ih := max_mostO zs (k + 1) (by omega) (by omega)
    rw [Lib.maxOf_step zs (k + 1) (by omega) (by omega), List.take_succ_eq_append_getElem (show k + 1 < zs.length by omega), List.getD_eq_getElem?_getD, List.getElem?_eq_getElem (show k + 1 < zs.length by omega), Option.getD_some]
    exact ih.snoc
/-- a set, as far as it is read: m rows, and k cells of the next one -/
def partS (S : Int → Int → Bool) (X0 Y0 : Int) (m k : Nat) (x y : Int) : Bool := S x y && decide (y < Y0 + m ∨ (y = Y0 + m ∧ x < X0 + k))

theorem part_zero {S : Int → Int → Bool} {X0 Y0 : Int} (h : ∀ x y, S x y = true → X0 ≤ x ∧ Y0 ≤ y) (x y : Int) : partS S X0 Y0 0 0 x y = false := by
  unfold partS
  cases hs : S x y
  · rfl
  · have := h x y hs
    simp; omega

theorem part_hit {S : Int → Int → Bool} {X0 Y0 : Int} {m k : Nat} (h : S (X0 + k) (Y0 + m) = true) (x y : Int) : partS S X0 Y0 m (k + 1) x y = (partS S X0 Y0 m k x y || decide (x = X0 + k ∧ y = Y0 + m)) := by
  unfold partS
  by_cases e : x = X0 + k ∧ y = Y0 + m
  · obtain ⟨rfl, rfl⟩ := e
    rw [h]; simp; omega
  · rw [decide_eq_false e, Bool.or_false]
    congr 1
    rw [decide_eq_decide]
    omega

theorem part_miss {S : Int → Int → Bool} {X0 Y0 : Int} {m k : Nat} (h : S (X0 + k) (Y0 + m) = false) (x y : Int) : partS S X0 Y0 m (k + 1) x y = partS S X0 Y0 m k x y := by
  unfold partS
  by_cases e : x = X0 + k ∧ y = Y0 + m
  · obtain ⟨rfl, rfl⟩ := e
    rw [h]; rfl
  · congr 1
    rw [decide_eq_decide]
    omega

theorem part_row {S : Int → Int → Bool} {X0 X1 Y0 : Int} {m k : Nat} (h : ∀ x y, S x y = true → X0 ≤ x ∧ x ≤ X1) (hk : X1 < X0 + k) (x y : Int) : partS S X0 Y0 m k x y = partS S X0 Y0 (m + 1) 0 x y := by
  unfold partS
  cases hs : S x y
  · rfl
  · have := h x y hs
    congr 1
    rw [decide_eq_decide]
    omega

theorem part_all {S : Int → Int → Bool} {X0 Y0 Y1 : Int} {m : Nat} (h : ∀ x y, S x y = true → y ≤ Y1) (hm : Y1 < Y0 + m) (x y : Int) : partS S X0 Y0 m 0 x y = S x y := by
  unfold partS
  cases hs : S x y
  · rfl
  · have := h x y hs
    simp; omega
/-- a row of ints, cell by cell -/
def CellsI (w : World) (b o : Nat) (l : List Int) : Prop := ∀ j, j < l.length → w.cell? ⟨b, o + j, none⟩ = some (.int .i64 (l.getD j 0))

theorem CellsI.gr {w w' : World} {b o : Nat} {l : List Int} {r : Option Nat} (h : CellsI w b o l) (hg : w.grownBy w' r) (hr : r ≠ some b) : CellsI w' b o l := fun j hj => gr_cell hg (h j hj) (by simpa using hr)

theorem sl_cellsO {w : World} {lo : Nat} {A : Option Addr} {l : List Int} (h : Sl w lo A l) (h0 : l ≠ []) : ∃ b o, A = some ⟨b, o, none⟩ ∧ b < w.heap.size ∧ CellsI w b o l := by
  obtain ⟨b, o, c1, hA, -, hlt, -, -⟩ := h.at_ (by decide) (k := 0) (List.length_pos_iff.2 h0)
  refine ⟨b, o, hA, hlt, fun j hj => ?_⟩
  obtain ⟨b2, o2, c2, hA2, -, -, hcr, hc⟩ := h.at_ (by decide) hj
  have hcr : c2 = [.int .i64 l[j]] := hcr
  subst hcr
  rw [hA] at hA2
  injection hA2 with e
  injection e with e1 e2
  subst e1 e2
  have := hc 0 _ rfl
  rw [show Enc.sz Int = 1 from rfl, Nat.mul_one, Nat.add_zero] at this
  rw [this, List.getD_eq_getElem?_getD, List.getElem?_eq_getElem hj, Option.getD_some]

end Go.Bl
namespace Go.Proofs.YtgcpegjggakemaaGreatDoor
open Go Go.RowKit Go.Bl

theorem minO_any (b o c : Nat) (g : Pt → Int) (l : List Pt) (step : Int) (w : World) (hc : CellsI w b o (colsF g l step)) (h0 : 0 < l.length) (hm : l.length ≤ 1000000) (hs : 0 < step) :
    Calls Tryz.prog 78 #[.slice (some ⟨b, o, none⟩) l.length c] w fun e w' => e = .returned (.int .i64 (lowF g l / step)) ∧ w' = w := by
  have hl := colsF_len g l step
  have h := Tryz.slices_Min_int b o (colsF g l step).length c (colsF g l step) w (by omega) (Nat.le_refl _) (by omega) hc
  rw [hl] at h
  refine h.mono ?_
  rintro e w' ⟨rfl, rfl⟩
  have hx := min_leastO (colsF g l step) l.length h0 (by omega)
  have e2 : (colsF g l step).take l.length = colsF g l step := by rw [← hl, List.take_length]
  rw [e2] at hx ⊢
  rw [low_cols g hs hx]
  exact ⟨rfl, rfl⟩

theorem maxO_any (b o c : Nat) (g : Pt → Int) (l : List Pt) (step : Int) (w : World) (hc : CellsI w b o (colsF g l step)) (h0 : 0 < l.length) (hm : l.length ≤ 1000000) (hs : 0 < step) :
    Calls Tryz.prog 77 #[.slice (some ⟨b, o, none⟩) l.length c] w fun e w' => e = .returned (.int .i64 (hiF g l / step)) ∧ w' = w := by
  have hl := colsF_len g l step
  have h := Tryz.slices_Max_int b o (colsF g l step).length c (colsF g l step) w (by omega) (Nat.le_refl _) (by omega) hc
  rw [hl] at h
  refine h.mono ?_
  rintro e w' ⟨rfl, rfl⟩
  have hx := max_mostO (colsF g l step) l.length h0 (by omega)
  have e2 : (colsF g l step).take l.length = colsF g l step := by rw [← hl, List.take_length]
  rw [e2] at hx ⊢
  rw [hi_cols g hs hx]
  exact ⟨rfl, rfl⟩

set_option maxHeartbeats 8000000 in
set_option maxRecDepth 100000 in
theorem filledOf_any (A : Option Addr) (c : Nat) (rs : List (List Pt)) (step : Int) (w : World) (hl : Sl w 0 A rs) (h0 : regF rs = 0) (hst : -1000000 ≤ step ∧ step ≤ 1000000) :
    Calls Tryz.prog 14 #[.slice A rs.length c, .int .i64 step] w fun e w' => CelsOutF w w' (fillE 0 rs step) step (fillS rs step) e := by
  have hok := rok_of h0
  have hfl : (flatK rs rs.length).length ≤ 2000 := by
    unfold regF at h0
    by_cases h : 100 < rs.length ∨ 2000 < (flatK rs rs.length).length
    · rw [if_pos h] at h0; cases h0
    · omega
  have h100 := hok.few
  have hSF := hide fun W => stepFault_any step W
  clear h0
  rcases hsb : stepB step with _ | _
  rotate_left
  · have hE : Hid (ResC (fillE 0 rs step) step (fillS rs step) ⟨0, 0, 0, []⟩ 1) := .inl ⟨by unfold fillE; rw [if_neg (by simp), if_pos hsb]; simp, rfl, by unfold fillE; rw [if_neg (by simp), if_pos hsb]⟩
    rw [hsb] at hSF
    clear hsb
    go_enter Tryz.func14, Tryz.ntmps14
    go_upto_region 1 with fail
    obtain ⟨w4, hw4⟩ : ∃ x, x = (w).alloc (.cells [.int .i64 0, .int .i64 0, .int .i64 0, .slice none 0 0].toArray 34) := ⟨_, rfl⟩
    have hg4 : (w).grownBy w4 none := by rw [hw4]; exact gr_alloc (World.grownBy.refl _ _) _
    have hb4 : Box w4 (w).heap.size 34 [.int .i64 0, .int .i64 0, .int .i64 0, .slice none 0 0] := by rw [hw4]; exact Box.new _ _ _
    have hxs4 := hb4.lt
    rw [← hw4]
    clear hw4
    obtain ⟨x4, hx4⟩ : ∃ x, x = (w).heap.size := ⟨_, rfl⟩
    rw [← hx4] at hb4 hxs4 ⊢
    have hxl4 : (w).heap.size ≤ x4 := by omega
    clear hx4
    go_wp2_with fail
    refine (hSF.out w4).mono ?_
    rintro e _ ⟨rfl, rfl⟩
    simp only [if_true]
    obtain ⟨⟨d0, f0⟩, ⟨d1, f1⟩, ⟨d2, f2⟩, ⟨d3, f3⟩⟩ := box4_c hb4
    go_wp2_with fail
    clear d0 d1 d2 d3 f0 f1 f2 f3
    have hgf := gr_new hg4 (set4_gr (w := w4) (g := x4) (.int .i64 0) (.int .i64 0) (.int .i64 0) (.slice none 0 0)) hxl4
    have hbf := box_set4 hb4 (.int .i64 0) (.int .i64 0) (.int .i64 0) (.slice none 0 0)
    generalize (((w4.setCell ⟨x4, 0, none⟩ (.int .i64 0)).setCell ⟨x4, 1, none⟩ (.int .i64 0)).setCell ⟨x4, 2, none⟩ (.int .i64 0)).setCell ⟨x4, 3, none⟩ (.slice none 0 0) = wf at *
    obtain ⟨⟨d0, f0⟩, ⟨d1, f1⟩, ⟨d2, f2⟩, ⟨d3, f3⟩⟩ := box4_c hbf
    exact bodyPost_ret (v := .tuple #[.agg #[.int .i64 0, .int .i64 0, .int .i64 0, .slice none 0 0], .int .i64 1]) (by simp [results, Tryz.results14, go_sem, d0, d1, d2, d3, f0, f1, f2, f3]) rfl ⟨⟨0, 0, 0, []⟩, 1, none, 0, rfl, hE.out, Own.nil _ _ _, hgf⟩
  have hsp := step_pos hsb
  have hE0 : Hid (fillE 0 rs step = if rs.flatten.length ≠ 0 ∧ bigB rs.flatten step = true then 12 else 0) := by rw [Hid, fillE, if_neg (by simp), if_neg (by simp [hsb])]
  rw [hsb] at hSF
  replace hsb := hide hsb
  have hlr : rs.length = 0 ↔ rs.flatten.length = 0 := by
    constructor
    · intro h; rw [List.eq_nil_of_length_eq_zero h]; rfl
    · intro h
      rcases rs with _ | ⟨r, rs⟩
      · rfl
      · exfalso
        have h1 := (hok.len r List.mem_cons_self).1
        simp at h
        rw [h.1] at h1; simp at h1
  replace hok := hide hok
  have hsz0 : 0 < rs.length ∨ rs.length = 0 := by omega
  by_cases hz : rs.length = 0
  · have hE : Hid (ResC (fillE 0 rs step) step (fillS rs step) ⟨step, 0, 0, []⟩ 0) := .inr ⟨by rw [hE0.out, if_neg (by rw [hlr.1 hz]; simp)], .inl ⟨fun x y => by
      rw [List.eq_nil_of_length_eq_zero hz]; rfl, rfl, rfl⟩⟩
    have hzb : ((rs.length : Int) == 0) = true := by simp [hz]
    clear hE0 hlr hz hsz0 hfl
    go_enter Tryz.func14, Tryz.ntmps14
    go_upto_region 1 with fail
    obtain ⟨w4, hw4⟩ : ∃ x, x = (w).alloc (.cells [.int .i64 0, .int .i64 0, .int .i64 0, .slice none 0 0].toArray 34) := ⟨_, rfl⟩
    have hg4 : (w).grownBy w4 none := by rw [hw4]; exact gr_alloc (World.grownBy.refl _ _) _
    have hb4 : Box w4 (w).heap.size 34 [.int .i64 0, .int .i64 0, .int .i64 0, .slice none 0 0] := by rw [hw4]; exact Box.new _ _ _
    have hxs4 := hb4.lt
    rw [← hw4]
    clear hw4
    obtain ⟨x4, hx4⟩ : ∃ x, x = (w).heap.size := ⟨_, rfl⟩
    rw [← hx4] at hb4 hxs4 ⊢
    have hxl4 : (w).heap.size ≤ x4 := by omega
    clear hx4
    go_wp2_with fail
    refine (hSF.out w4).mono ?_
    rintro e _ ⟨rfl, rfl⟩
    simp only [Bool.false_eq_true, if_false]
    obtain ⟨⟨d0, f0⟩, ⟨d1, f1⟩, ⟨d2, f2⟩, ⟨d3, f3⟩⟩ := box4_c hb4
    go_wp2_with fail
    clear d0 d1 d2 d3 f0 f1 f2 f3
    have hgf := gr_new hg4 (set4_gr (w := w4) (g := x4) (.int .i64 step) (.int .i64 0) (.int .i64 0) (.slice none 0 0)) hxl4
    have hbf := box_set4 hb4 (.int .i64 step) (.int .i64 0) (.int .i64 0) (.slice none 0 0)
    generalize (((w4.setCell ⟨x4, 0, none⟩ (.int .i64 step)).setCell ⟨x4, 1, none⟩ (.int .i64 0)).setCell ⟨x4, 2, none⟩ (.int .i64 0)).setCell ⟨x4, 3, none⟩ (.slice none 0 0) = wf at *
    obtain ⟨⟨d0, f0⟩, ⟨d1, f1⟩, ⟨d2, f2⟩, ⟨d3, f3⟩⟩ := box4_c hbf
    exact bodyPost_ret (v := .tuple #[.agg #[.int .i64 step, .int .i64 0, .int .i64 0, .slice none 0 0], .int .i64 0]) (by simp [results, Tryz.results14, go_sem, d0, d1, d2, d3, f0, f1, f2, f3]) rfl ⟨⟨step, 0, 0, []⟩, 0, none, 0, rfl, hE.out, Own.nil _ _ _, hgf⟩
  have hzb : ((rs.length : Int) == 0) = false := by simpa using hz
  have hfp : 0 < rs.flatten.length := by
    apply Nat.pos_of_ne_zero
    intro e; exact hz (hlr.2 e)
  clear hlr hsz0
  go_enter Tryz.func14, Tryz.ntmps14
  go_upto_region 1 with fail
  obtain ⟨w4, hw4⟩ : ∃ x, x = (w).alloc (.cells [.int .i64 0, .int .i64 0, .int .i64 0, .slice none 0 0].toArray 34) := ⟨_, rfl⟩
  have hg4 : (w).grownBy w4 none := by rw [hw4]; exact gr_alloc (World.grownBy.refl _ _) _
  have hb4 : Box w4 (w).heap.size 34 [.int .i64 0, .int .i64 0, .int .i64 0, .slice none 0 0] := by rw [hw4]; exact Box.new _ _ _
  have hxs4 := hb4.lt
  rw [← hw4]
  clear hw4
  obtain ⟨x4, hx4⟩ : ∃ x, x = (w).heap.size := ⟨_, rfl⟩
  rw [← hx4] at hb4 hxs4 ⊢
  have hxl4 : (w).heap.size ≤ x4 := by omega
  clear hx4
  go_wp2_with fail
  refine (hSF.out w4).mono ?_
  rintro e _ ⟨rfl, rfl⟩
  simp only [Bool.false_eq_true, if_false]
  replace hl := hl.pure hg4
  clear hSF
  go_upto_region 8 with fail
  have hself := World.grownBy.refl w4 none
  have hownX : Own w4 w4.heap.size 3 none 0 (colsF Pt.x (flatK rs 0) step) := Own.nil _ _ _
  have hownY : Own w4 w4.heap.size 3 none 0 (colsF Pt.y (flatK rs 0) step) := Own.nil _ _ _
  have hTwo0 : Two (none : Option Addr) none := fun g h => by cases h
  have hlens := hide fun k (h : k ≤ rs.length) => Nat.le_trans (flatK_le rs k) hfl
  obtain ⟨i0, hi, hz9, hi1, hi2⟩ := info_parts info_int
  replace hi := hide hi; replace hz9 := hide hz9; replace hi1 := hide hi1; replace hi2 := hide hi2
  go_loopw [7, 8, 29] (fun s t i wr => ∃ (k : Nat) (AX AY : Option Addr) (cX cY : Nat), k ≤ rs.length ∧ i = .int .i64 k ∧ s = .slice AX (flatK rs k).length cX ∧ t = .slice AY (flatK rs k).length cY ∧ Own wr w4.heap.size 3 AX cX (colsF Pt.x (flatK rs k) step) ∧ Own wr w4.heap.size 3 AY cY (colsF Pt.y (flatK rs k) step) ∧ Two AX AY ∧ w4.grownBy wr none) (fun _ _ i _ => rs.length - (intOf i).toNat)
  case atStart => exact ⟨0, none, none, 0, 0, Nat.zero_le _, rfl, rfl, rfl, hownX, hownY, hTwo0, hself⟩
  case round =>
    clear hself hownX hownY hTwo0 hzb hz hfl
    obtain ⟨k, AX, AY, cX, cY, hk, rfl, rfl, rfl, hX, hY, hTw, hg⟩ := hrel
    by_cases hlt : k < rs.length
    · obtain ⟨gm, om, B, d, rfl, hb1, c0, -, hsl⟩ := sl_inner' hl hlt
      replace c0 := hg.k c0
      have hbd := hide (hok.out.bd _ (List.getElem_mem hlt))
      have hle := hide (hok.out.len _ (List.getElem_mem hlt))
      have hfs := flatK_snoc hlt
      have hln := hlens.out (k + 1) hlt
      rw [hfs] at hln
      generalize rs[k] = r at *
      generalize flatK rs k = P at *
      go_upto_region 11 with fail
      clear c0
      have hj0X : Own wr w4.heap.size 3 AX cX (colsF Pt.x (P ++ r.take 0) step) := by rw [List.take_zero, List.append_nil]; exact hX
      have hj0Y : Own wr w4.heap.size 3 AY cY (colsF Pt.y (P ++ r.take 0) step) := by rw [List.take_zero, List.append_nil]; exact hY
      have hj0l : P.length = (P ++ r.take 0).length := by simp
      replace hj0l := hide hj0l
      obtain ⟨wa, hwa⟩ : ∃ x, x = wr := ⟨_, rfl⟩
      rw [← hwa] at hg hX hY hj0X hj0Y ⊢
      have hself := World.grownBy.refl wa none
      have hmr := hsl.1
      unfold maxLen at hmr
      rw [List.length_append] at hln
      have hrl : r.length ≤ 2000 := by omega
      replace hln := hide hln
      go_loopw [7, 8, 35] (fun s t i wr => ∃ (j : Nat) (AX AY : Option Addr) (cX cY : Nat), j ≤ r.length ∧ i = .int .i64 j ∧ s = .slice AX (P ++ r.take j).length cX ∧ t = .slice AY (P ++ r.take j).length cY ∧ Own wr w4.heap.size 3 AX cX (colsF Pt.x (P ++ r.take j) step) ∧ Own wr w4.heap.size 3 AY cY (colsF Pt.y (P ++ r.take j) step) ∧ Two AX AY ∧ w4.grownBy wr none) (fun _ _ i _ => r.length - (intOf i).toNat)
      case atStart => exact ⟨0, AX, AY, cX, cY, Nat.zero_le _, rfl, by rw [← hj0l.out], by rw [← hj0l.out], hj0X, hj0Y, hTw, hg⟩
      case round =>
        clear hj0X hj0Y hj0l hX hY hTw hself
        obtain ⟨j, AX, AY, cX, cY, hj, rfl, rfl, rfl, hX, hY, hTw, hgx⟩ := hrel
        by_cases hlj : j < r.length
        · have hsn := hide (List.take_succ_eq_append_getElem hlj)
          have hlq : Hid ((P ++ r.take j).length ≤ 2000) := by
            have := hln.out
            rw [Hid, List.length_append, List.length_take]; omega
          obtain ⟨g, o, cx, rfl, hb0, hb1, rfl, hc⟩ := (hsl.pure hgx).at_ (by decide) hlj
          have c0 : wr.cell? ⟨g, o + j * 2, none⟩ = some (.int .i64 r[j].x) := hc 0 _ rfl
          have c1 : wr.cell? ⟨g, o + j * 2 + 1, none⟩ = some (.int .i64 r[j].y) := hc 1 _ rfl
          clear hc
          have hpb := hbd.out _ (List.getElem_mem hlj)
          have hcX : Hid (colsF Pt.x (P ++ r.take (j + 1)) step = colsF Pt.x (P ++ r.take j) step ++ [r[j].x / step]) := by rw [Hid, hsn.out, ← List.append_assoc, colsF_snoc]
          have hcY : Hid (colsF Pt.y (P ++ r.take (j + 1)) step = colsF Pt.y (P ++ r.take j) step ++ [r[j].y / step]) := by rw [Hid, hsn.out, ← List.append_assoc, colsF_snoc]
          have hNn : Hid ((P ++ r.take (j + 1)).length = (P ++ r.take j).length + 1) := by rw [Hid, hsn.out]; simp; omega
          have hlX := colsF_len Pt.x (P ++ r.take j) step
          have hlY := colsF_len Pt.y (P ++ r.take j) step
          have hLX1 : Hid ((colsF Pt.x (P ++ r.take j) step ++ [r[j].x / step]).length = (P ++ r.take j).length + 1) := by rw [Hid, List.length_append, hlX]; rfl
          have hLY1 : Hid ((colsF Pt.y (P ++ r.take j) step ++ [r[j].y / step]).length = (P ++ r.take j).length + 1) := by rw [Hid, List.length_append, hlY]; rfl
          generalize (P ++ r.take j).length = N at *
          generalize colsF Pt.x (P ++ r.take j) step = LX at *
          generalize colsF Pt.y (P ++ r.take j) step = LY at *
          generalize r[j] = p at *
          unfold bdP at hpb
          have hD1 := hide fun W => down_any p.x step W (by omega) (by omega)
          have hD2 := hide fun W => down_any p.y step W (by omega) (by omega)
          generalize p.x / step = PX at *
          generalize p.y / step = PY at *
          replace hlX := hide hlX
          replace hlY := hide hlY
          go_upto_region 13 with fail
          obtain ⟨w12, hw12⟩ : ∃ x, x = (wr).alloc (.cells [.int .i64 p.x, .int .i64 p.y].toArray 30) := ⟨_, rfl⟩
          have hg12 : (wr).grownBy w12 none := by rw [hw12]; exact gr_alloc (World.grownBy.refl _ _) _
          have hb12 : Box w12 (wr).heap.size 30 [.int .i64 p.x, .int .i64 p.y] := by rw [hw12]; exact Box.new _ _ _
          have hxs12 := hb12.lt
          rw [← hw12]
          clear hw12
          obtain ⟨x12, hx12⟩ : ∃ x, x = (wr).heap.size := ⟨_, rfl⟩
          rw [← hx12] at hb12 hxs12 ⊢
          have hxl12 : (wr).heap.size ≤ x12 := by omega
          clear hx12
          have hgx12 := hgx.t hg12
          have hXa : ∀ q, blk AX = some q → x12 ≠ q := fun q e => by have := (hX.blk_lt e).2; omega
          have hX12 := hX.pure hg12
          have hY12 := hY.pure hg12
          clear c0 c1 hX hY hg12 hgx
          refine wp_region_tree (fun wx => Box wx x12 30 [.int .i64 p.x, .int .i64 p.y]) [2, 2, 1, 2, 0, 0, 0, 2, 2, 1, 2, 0, 0, 0, 2, 2] (.bl 0 (.bl 1 (.bl 2 (.bl 3 (.bl 7 (.bl 8 (.bl 9 (.bl 10 (.ef 4 (.ef 5 (.ef 6 (.ef 11 (.ef 12 (.ef 13 (.bl 14 (.bl 15 .done)))))))))))))))) (by kernel_rfl) (by kernel_rfl) (hb12.pure (gr_drew (World.grownBy.refl _ _))) ?_
          obtain ⟨u0, hu0⟩ : ∃ x, x = (w12).drew := ⟨_, rfl⟩
          rw [← hu0]
          have hgu0 : (w12).grownBy u0 none := by rw [hu0]; exact gr_drew (World.grownBy.refl _ _)
          clear hu0
          have hXc := hX12.pure hgu0
          have hYc := hY12.pure hgu0
          have hcur := hgx12.t hgu0
          have hbc := hb12.pure hgu0
          clear hX12 hY12
          refine tree_p rfl rfl rfl rfl _ rfl (by simp) (fun K hK => ?_)
          apply Exists.intro
          refine ⟨fun wq K' hK' => ?_, ?_⟩
          · go_wp2_with fail
            exact hK'
          go_simp
          refine hK _ ?_
          clear hK K
          refine tree_p rfl rfl rfl rfl _ rfl (by simp) (fun K hK => ?_)
          apply Exists.intro
          refine ⟨fun wq K' hK' => ?_, ?_⟩
          · go_wp2_with fail
            exact hK'
          go_simp
          refine hK _ ?_
          clear hK K
          refine tree_b rfl rfl rfl rfl _ rfl (by simp) (fun K hK => ?_)
          apply Exists.intro
          refine ⟨fun wq hq K' hK' => ?_, ?_⟩
          · obtain ⟨d0, -⟩ := hq.c 0 rfl
            obtain ⟨d1, -⟩ := hq.c 1 rfl
            go_wp2_with fail
            exact hK'
          go_simp
          refine hK _ ?_
          clear hK K
          refine tree_p rfl rfl rfl rfl _ rfl (by simp) (fun K hK => ?_)
          apply Exists.intro
          refine ⟨fun wq K' hK' => ?_, ?_⟩
          · go_wp2_with fail
            exact hK'
          go_simp
          refine hK _ ?_
          clear hK K
          refine tree_p rfl rfl rfl rfl _ rfl (by simp) (fun K hK => ?_)
          apply Exists.intro
          refine ⟨fun wq K' hK' => ?_, ?_⟩
          · go_wp2_with fail
            exact hK'
          go_simp
          refine hK _ ?_
          clear hK K
          refine tree_p rfl rfl rfl rfl _ rfl (by simp) (fun K hK => ?_)
          apply Exists.intro
          refine ⟨fun wq K' hK' => ?_, ?_⟩
          · go_wp2_with fail
            exact hK'
          go_simp
          refine hK _ ?_
          clear hK K
          refine tree_b rfl rfl rfl rfl _ rfl (by simp) (fun K hK => ?_)
          apply Exists.intro
          refine ⟨fun wq hq K' hK' => ?_, ?_⟩
          · obtain ⟨d0, -⟩ := hq.c 0 rfl
            obtain ⟨d1, -⟩ := hq.c 1 rfl
            go_wp2_with fail
            exact hK'
          go_simp
          refine hK _ ?_
          clear hK K
          refine tree_p rfl rfl rfl rfl _ rfl (by simp) (fun K hK => ?_)
          apply Exists.intro
          refine ⟨fun wq K' hK' => ?_, ?_⟩
          · go_wp2_with fail
            exact hK'
          go_simp
          refine hK _ ?_
          clear hK K
          refine tree_e rfl rfl (fun K hK => ?_)
          go_wp2_with fail
          refine (hD1.out u0).mono ?_
          rintro e u4 ⟨rfl, hg4a⟩
          go_wp2_with fail
          try go_simp
          refine hK _ _ (hbc.pure hg4a) ?_
          clear hK K
          replace hXc := hXc.pure hg4a
          replace hYc := hYc.pure hg4a
          replace hcur := hcur.t hg4a
          replace hbc := hbc.pure hg4a
          clear hg4a
          refine tree_e rfl rfl (fun K hK => ?_)
          go_wp2_with fail
          try go_simp
          refine hK _ _ (hbc.pure (gr_alloc (World.grownBy.refl _ _) _)) ?_
          clear hK K
          obtain ⟨u5, hu5⟩ : ∃ x, x = (u4).alloc (.cells #[.int .i64 PX] 3) := ⟨_, rfl⟩
          have hg5a : (u4).grownBy u5 none := by rw [hu5]; exact gr_alloc (World.grownBy.refl _ _) _
          have hS5 : Sl u5 0 (some ⟨(u4).heap.size, 0, none⟩) [PX] := by rw [hu5]; exact sl_int1 _ _ _ _ rfl
          rw [← hu5]
          clear hu5
          replace hXc := hXc.pure hg5a
          replace hYc := hYc.pure hg5a
          replace hcur := hcur.t hg5a
          replace hbc := hbc.pure hg5a
          clear hg5a
          refine tree_e rfl rfl (fun K hK => ?_)
          refine wp_pushAt (α := Int) _ (.tmp 39) (.tmp 44) _ rfl w4.heap.size 3 i0 _ 8 Tryz.underlying22 hi.out hz9.out hi1.out hi2.out rfl _ _ _ LX rfl hlX.out.symm (by exact hXc) 0 ⟨_, 0, none⟩ 1 1 [PX] rfl rfl (by exact hS5) ?c2 ?c3 ?c4 ?_
          case c2 => have h1 := hlX.out; have h2 := hlq.out; simp; omega
          case c3 => have h1 := hlX.out; have h2 := hlq.out; simp [maxLen]; omega
          case c4 => exact hcur.size
          intro AX2 cX2 u6 hX6 hG6
          rw [hLX1.out]
          simp only [Act.put, List.setIfInBounds_toArray, List.set_cons_zero, List.set_cons_succ]
          try go_simp
          refine hK _ _ (hbc.gr hG6.1 (fun e => hXa _ e rfl)) ?_
          clear hK K
          have hcur6 := gr_row hcur hG6.1 (fun x e => (hXc.blk_lt e).1)
          have hTw6 := hTw.grew hG6 hYc
          have hYc6 := hYc.ne hG6.1 (fun g e h => hTw g h e)
          have hbc6 := hbc.gr hG6.1 (fun e => hXa _ e rfl)
          clear hYc hTw hcur hbc hG6 hXc hS5
          refine tree_e0 (by kernel_rfl) rfl rfl (fun K hK => ?_)
          go_wp2_with fail
          refine (hD2.out u6).mono ?_
          rintro e u11 ⟨rfl, hg11a⟩
          go_wp2_with fail
          try go_simp
          refine hK _ _ trivial ?_
          clear hK K
          replace hX6 := hX6.pure hg11a
          replace hYc6 := hYc6.pure hg11a
          replace hcur6 := hcur6.t hg11a
          clear hg11a
          refine tree_e0 (by kernel_rfl) rfl rfl (fun K hK => ?_)
          go_wp2_with fail
          try go_simp
          refine hK _ _ trivial ?_
          clear hK K
          obtain ⟨u12, hu12⟩ : ∃ x, x = (u11).alloc (.cells #[.int .i64 PY] 3) := ⟨_, rfl⟩
          have hg12a : (u11).grownBy u12 none := by rw [hu12]; exact gr_alloc (World.grownBy.refl _ _) _
          have hS12 : Sl u12 0 (some ⟨(u11).heap.size, 0, none⟩) [PY] := by rw [hu12]; exact sl_int1 _ _ _ _ rfl
          rw [← hu12]
          clear hu12
          replace hX6 := hX6.pure hg12a
          replace hYc6 := hYc6.pure hg12a
          replace hcur6 := hcur6.t hg12a
          clear hg12a
          refine tree_e0 (by kernel_rfl) rfl rfl (fun K hK => ?_)
          refine wp_pushAt (α := Int) _ (.tmp 46) (.tmp 51) _ rfl w4.heap.size 3 i0 _ 8 Tryz.underlying22 hi.out hz9.out hi1.out hi2.out rfl _ _ _ LY rfl hlY.out.symm (by exact hYc6) 0 ⟨_, 0, none⟩ 1 1 [PY] rfl rfl (by exact hS12) ?c2 ?c3 ?c4 ?_
          case c2 => have h1 := hlY.out; have h2 := hlq.out; simp; omega
          case c3 => have h1 := hlY.out; have h2 := hlq.out; simp [maxLen]; omega
          case c4 => exact hcur6.size
          intro AY2 cY2 u13 hY13 hG13
          rw [hLY1.out]
          simp only [Act.put, List.setIfInBounds_toArray, List.set_cons_zero, List.set_cons_succ]
          try go_simp
          refine hK _ _ trivial ?_
          clear hK K
          refine tree_p rfl rfl rfl rfl _ rfl (by simp) (fun K hK => ?_)
          apply Exists.intro
          refine ⟨fun wq K' hK' => ?_, ?_⟩
          · go_wp2_with fail
            exact hK'
          go_simp
          refine hK _ ?_
          clear hK K
          refine tree_p rfl rfl rfl rfl _ rfl (by simp) (fun K hK => ?_)
          apply Exists.intro
          refine ⟨fun wq K' hK' => ?_, ?_⟩
          · go_wp2_with fail
            exact hK'
          go_simp
          refine hK _ ?_
          clear hK K
          refine tree_done ?_
          have hcur13 := gr_row hcur6 hG13.1 (fun x e => (hYc6.blk_lt e).1)
          have hTw13 := (hTw6.symm.grew hG13 hX6).symm
          have hX13 := hX6.ne hG13.1 (fun g e h => hTw6 g e h)
          rw [← hcX.out] at hX13
          rw [← hcY.out] at hY13
          clear hX6 hYc6 hG13 hS12
          go_wp2_with fail
          (go_roundw; (case rel => exact ⟨j + 1, AX2, AY2, cX2, cY2, by omega, by go_num, by rw [hNn.out], by rw [hNn.out], hX13, hY13, hTw13, hcur13⟩); (case measure => simp [intOf]; omega))
        · obtain rfl : j = r.length := by omega
          rw [List.take_length, ← hfs] at hX hY
          have hLe : Hid ((P ++ r.take r.length).length = (flatK rs (k + 1)).length) := by rw [Hid, List.take_length, hfs]
          go_wp2_with fail
          (go_roundw; (case rel => exact ⟨k + 1, AX, AY, cX, cY, by omega, by go_num, by rw [hLe.out], by rw [hLe.out], hX, hY, hTw, hgx⟩); (case measure => simp [intOf]; omega))
    · obtain rfl : k = rs.length := by omega
      have hfa := flatK_all (ls := rs) (Nat.le_refl rs.length)
      have hlb := hlens.out rs.length (Nat.le_refl _)
      rw [hfa] at hX hY hlb
      rw [hfa]
      have hbdL : ∀ p ∈ rs.flatten, bdP p := fun p hp => by
        obtain ⟨r, hr, hq⟩ := List.mem_flatten.1 hp
        exact hok.out.bd r hr p hq
      have hbox := hide (boxR_of (rs := rs) (fun r hr => by have := (hok.out.len r hr).1; omega) hsp.1)
      have hbg : Hid (bigB rs.flatten step = (decide (200 < wideF Pt.x rs.flatten step) || decide (200 < wideF Pt.y rs.flatten step))) := rfl
      have hwx : Hid (wideF Pt.x rs.flatten step = hiF Pt.x rs.flatten / step - lowF Pt.x rs.flatten / step + 1) := rfl
      have hwy : Hid (wideF Pt.y rs.flatten step = hiF Pt.y rs.flatten / step - lowF Pt.y rs.flatten / step + 1) := rfl
      have hrs : Hid (∀ r ∈ rs, 0 < r.length ∧ r.length ≤ 1000 ∧ ∀ q ∈ r, bdW q) := fun r hr => by
        obtain ⟨h1, h2⟩ := hok.out.len r hr
        exact ⟨by omega, by omega, fun q hq => (hok.out.bd r hr q hq).w⟩
      obtain ⟨bx, ox, rfl, hbx, hcX⟩ := sl_cellsO hX.sl (by intro e; have h := colsF_len Pt.x rs.flatten step; rw [e] at h; exact absurd h (by rw [List.length_nil]; omega))
      obtain ⟨by_, oy, rfl, hby, hcY⟩ := sl_cellsO hY.sl (by intro e; have h := colsF_len Pt.y rs.flatten step; rw [e] at h; exact absurd h (by rw [List.length_nil]; omega))
      generalize rs.flatten = L at *
      obtain ⟨q1, m1, e1⟩ := lowF_mem Pt.x hfp
      obtain ⟨q2, m2, e2⟩ := hiF_mem Pt.x hfp
      obtain ⟨q3, m3, e3⟩ := lowF_mem Pt.y hfp
      obtain ⟨q4, m4, e4⟩ := hiF_mem Pt.y hfp
      have z1 := hbdL _ m1; have z2 := hbdL _ m2; have z3 := hbdL _ m3; have z4 := hbdL _ m4
      unfold bdP at z1 z2 z3 z4
      have y1 := div_bd (a := lowF Pt.x L) (d := step) (m := 100000) hsp.1 (by omega) (by omega) (by omega)
      have y2 := div_bd (a := hiF Pt.x L) (d := step) (m := 100000) hsp.1 (by omega) (by omega) (by omega)
      have y3 := div_bd (a := lowF Pt.y L) (d := step) (m := 100000) hsp.1 (by omega) (by omega) (by omega)
      have y4 := div_bd (a := hiF Pt.y L) (d := step) (m := 100000) hsp.1 (by omega) (by omega) (by omega)
      have cx0 : Hid (-110000 ≤ lowF Pt.x L / step * step ∧ hiF Pt.x L / step * step ≤ 100000) := by
        have h1 := Int.ediv_mul_le (hiF Pt.x L) (show step ≠ 0 by omega)
        have h2 := Int.lt_ediv_add_one_mul_self (lowF Pt.x L) (show 0 < step by omega)
        rw [Int.add_mul, Int.one_mul] at h2
        show _ ∧ _; omega
      have cy0 : Hid (-110000 ≤ lowF Pt.y L / step * step ∧ hiF Pt.y L / step * step ≤ 100000) := by
        have h1 := Int.ediv_mul_le (hiF Pt.y L) (show step ≠ 0 by omega)
        have h2 := Int.lt_ediv_add_one_mul_self (lowF Pt.y L) (show 0 < step by omega)
        rw [Int.add_mul, Int.one_mul] at h2
        show _ ∧ _; omega
      have hmx := hide fun W c (h : CellsI W bx ox (colsF Pt.x L step)) => minO_any bx ox c Pt.x L step W h hfp (by omega) (by omega)
      have hMx := hide fun W c (h : CellsI W bx ox (colsF Pt.x L step)) => maxO_any bx ox c Pt.x L step W h hfp (by omega) (by omega)
      have hmy := hide fun W c (h : CellsI W by_ oy (colsF Pt.y L step)) => minO_any by_ oy c Pt.y L step W h hfp (by omega) (by omega)
      have hMy := hide fun W c (h : CellsI W by_ oy (colsF Pt.y L step)) => maxO_any by_ oy c Pt.y L step W h hfp (by omega) (by omega)
      have hx01 : lowF Pt.x L / step ≤ hiF Pt.x L / step := by have h := wide_pos Pt.x hfp hsp.1; rw [hwx.out] at h; omega
      have hy01 : lowF Pt.y L / step ≤ hiF Pt.y L / step := by have h := wide_pos Pt.y hfp hsp.1; rw [hwy.out] at h; omega
      rw [hwx.out, hwy.out] at hbg
      clear hwx hwy e1 e2 e3 e4 z1 z2 z3 z4 m1 m2 m3 m4 hbdL hX hY hTw hlb hfa hlens hi hz9 hi1 hi2
      generalize lowF Pt.x L / step = X0 at *
      generalize hiF Pt.x L / step = X1 at *
      generalize lowF Pt.y L / step = Y0 at *
      generalize hiF Pt.y L / step = Y1 at *
      generalize colsF Pt.x L step = LX at *
      generalize colsF Pt.y L step = LY at *
      replace hb4 := hb4.pure hg
      replace hg4 := hg4.t hg
      replace hl := hl.pure hg
      replace hfp := hide hfp
      go_wp2_with fail
      refine (hMx.out _ _ hcX).mono ?_
      rintro e wq ⟨rfl, hwq⟩
      rw [hwq]
      clear hwq wq
      go_wp2_with fail
      refine (hmx.out _ _ hcX).mono ?_
      rintro e wq ⟨rfl, hwq⟩
      rw [hwq]
      clear hwq wq
      by_cases hbx2 : 200 ≤ X1 - X0
      · have hE : Hid (ResC (fillE 0 rs step) step (fillS rs step) ⟨0, 0, 0, []⟩ 12) := by
          have hbt : bigB L step = true := by rw [hbg.out, decide_eq_true (show 200 < X1 - X0 + 1 by omega)]; rfl
          have hE12 : fillE 0 rs step = 12 := by rw [hE0.out, if_pos ⟨by have := hfp.out; omega, hbt⟩]
          exact .inl ⟨by rw [hE12]; decide, rfl, hE12.symm⟩
        clear hmx hMx hmy hMy
        obtain ⟨⟨d0, f0⟩, ⟨d1, f1⟩, ⟨d2, f2⟩, ⟨d3, f3⟩⟩ := box4_c hb4
        go_wp2_with fail
        clear d0 d1 d2 d3 f0 f1 f2 f3
        have hgf := gr_new hg4 (set4_gr (w := wr) (g := x4) (.int .i64 0) (.int .i64 0) (.int .i64 0) (.slice none 0 0)) hxl4
        have hbf := box_set4 hb4 (.int .i64 0) (.int .i64 0) (.int .i64 0) (.slice none 0 0)
        generalize (((wr.setCell ⟨x4, 0, none⟩ (.int .i64 0)).setCell ⟨x4, 1, none⟩ (.int .i64 0)).setCell ⟨x4, 2, none⟩ (.int .i64 0)).setCell ⟨x4, 3, none⟩ (.slice none 0 0) = wf at *
        obtain ⟨⟨d0, f0⟩, ⟨d1, f1⟩, ⟨d2, f2⟩, ⟨d3, f3⟩⟩ := box4_c hbf
        exact bodyPost_ret (v := .tuple #[.agg #[.int .i64 0, .int .i64 0, .int .i64 0, .slice none 0 0], .int .i64 12]) (by simp [results, Tryz.results14, go_sem, d0, d1, d2, d3, f0, f1, f2, f3]) rfl ⟨⟨0, 0, 0, []⟩, 12, none, 0, rfl, hE.out, Own.nil _ _ _, hgf⟩
      · have hbx3 : decide (X1 - X0 ≥ 200) = false := by simp; omega
        go_wp2_with fail
        refine (hMy.out _ _ hcY).mono ?_
        rintro e wq ⟨rfl, hwq⟩
        rw [hwq]
        clear hwq wq
        go_wp2_with fail
        refine (hmy.out _ _ hcY).mono ?_
        rintro e wq ⟨rfl, hwq⟩
        rw [hwq]
        clear hwq wq
        by_cases hby2 : 200 ≤ Y1 - Y0
        · have hE : Hid (ResC (fillE 0 rs step) step (fillS rs step) ⟨0, 0, 0, []⟩ 12) := by
            have hbt : bigB L step = true := by rw [hbg.out, decide_eq_true (show 200 < Y1 - Y0 + 1 by omega), Bool.or_true]
            have hE12 : fillE 0 rs step = 12 := by rw [hE0.out, if_pos ⟨by have := hfp.out; omega, hbt⟩]
            exact .inl ⟨by rw [hE12]; decide, rfl, hE12.symm⟩
          clear hmx hMx hmy hMy
          obtain ⟨⟨d0, f0⟩, ⟨d1, f1⟩, ⟨d2, f2⟩, ⟨d3, f3⟩⟩ := box4_c hb4
          go_wp2_with fail
          clear d0 d1 d2 d3 f0 f1 f2 f3
          have hgf := gr_new hg4 (set4_gr (w := wr) (g := x4) (.int .i64 0) (.int .i64 0) (.int .i64 0) (.slice none 0 0)) hxl4
          have hbf := box_set4 hb4 (.int .i64 0) (.int .i64 0) (.int .i64 0) (.slice none 0 0)
          generalize (((wr.setCell ⟨x4, 0, none⟩ (.int .i64 0)).setCell ⟨x4, 1, none⟩ (.int .i64 0)).setCell ⟨x4, 2, none⟩ (.int .i64 0)).setCell ⟨x4, 3, none⟩ (.slice none 0 0) = wf at *
          obtain ⟨⟨d0, f0⟩, ⟨d1, f1⟩, ⟨d2, f2⟩, ⟨d3, f3⟩⟩ := box4_c hbf
          exact bodyPost_ret (v := .tuple #[.agg #[.int .i64 0, .int .i64 0, .int .i64 0, .slice none 0 0], .int .i64 12]) (by simp [results, Tryz.results14, go_sem, d0, d1, d2, d3, f0, f1, f2, f3]) rfl ⟨⟨0, 0, 0, []⟩, 12, none, 0, rfl, hE.out, Own.nil _ _ _, hgf⟩
        · have hby3 : decide (Y1 - Y0 ≥ 200) = false := by simp; omega
          have hE00 : Hid (fillE 0 rs step = 0) := by
            have hbt : bigB L step = false := by rw [hbg.out, decide_eq_false (show ¬ 200 < X1 - X0 + 1 by omega), decide_eq_false (show ¬ 200 < Y1 - Y0 + 1 by omega)]; rfl
            rw [Hid, hE0.out, if_neg (by rw [hbt]; simp)]
          clear hE0 hbg
          have hSin : ∀ x y, fillS rs step x y = true → (X0 ≤ x ∧ x ≤ X1) ∧ Y0 ≤ y ∧ y ≤ Y1 := fun x y h => by
            by_cases hn : X0 ≤ x ∧ x ≤ X1 ∧ Y0 ≤ y ∧ y ≤ Y1
            · exact ⟨⟨hn.1, hn.2.1⟩, hn.2.2⟩
            · have := hbox.out.out hn
              unfold fillS at h
              rw [this] at h; cases h
          have hcov : Hid (∀ x y, fillS rs step x y = decide (0 ≤ insF rs ⟨cenI step x, cenI step y⟩)) := fun x y => cov_ins _ _
          have hIO := hide fun p W (h : wr.grownBy W none) => insideOf_any A c rs p W (hl.pure h) h100 hrs.out
          generalize hSe : fillS rs step = S at *
          replace hSe := hide hSe
          have hmk := run_makeMap (P := Tryz.prog) 92 wr
          have hM : SetAt (wr.alloc (.map #[] 0)) wr.heap.size (1000 * 0) (partS S X0 Y0 0 0) := (SetAt.made wr).congr fun x y => (part_zero (fun x y h => ⟨(hSin x y h).1.1, (hSin x y h).2.1⟩) x y).symm
          have hgm := gr_alloc (World.grownBy.refl wr none) (.map #[] 0)
          have hhit := hide fun (m k : Nat) h x y => part_hit (S := S) (X0 := X0) (Y0 := Y0) (m := m) (k := k) h x y
          have hmiss := hide fun (m k : Nat) h x y => part_miss (S := S) (X0 := X0) (Y0 := Y0) (m := m) (k := k) h x y
          have hrow := hide fun (m k : Nat) (h : X1 < X0 + k) x y => part_row (S := S) (X0 := X0) (X1 := X1) (Y0 := Y0) (m := m) (k := k) (fun x y e => (hSin x y e).1) h x y
          have hall := hide fun (m : Nat) (h : Y1 < Y0 + m) x y => part_all (S := S) (X0 := X0) (Y0 := Y0) (Y1 := Y1) (m := m) (fun x y e => (hSin x y e).2.2) h x y
          have hSb : Hid (∀ x y, S x y = true → -10000000 ≤ x ∧ x ≤ 10001000 ∧ -10000000 ≤ y ∧ y ≤ 10001000) := fun x y h => by have := hSin x y h; omega
          clear hSin hbox hrs
          go_upto_region 19 with fail
          obtain ⟨wM, hwM⟩ : ∃ x, x = wr.alloc (.map #[] 0) := ⟨_, rfl⟩
          rw [← hwM] at hM hgm ⊢
          clear hwM hmk
          obtain ⟨mb, hmb⟩ : ∃ x, x = wr.heap.size := ⟨_, rfl⟩
          rw [← hmb] at hM ⊢
          have hmb1 : wr.heap.size ≤ mb := by omega
          clear hmb
          have hx4l := hb4.lt
          have hck : Hid (∀ wx, wM.grownBy wx (some mb) → CellsI wx bx ox LX ∧ CellsI wx by_ oy LY ∧ wr.grownBy wx none) := fun wx h =>
            ⟨(hcX.gr hgm (by simp)).gr h (by intro e; injection e with e; omega), (hcY.gr hgm (by simp)).gr h (by intro e; injection e with e; omega), gr_new hgm h hmb1⟩
          have hbf : Hid (∀ wx, wM.grownBy wx (some mb) → Box wx x4 34 [.int .i64 0, .int .i64 0, .int .i64 0, .slice none 0 0]) := fun wx h => (hb4.pure hgm).gr h (by intro e; injection e with e; omega)
          have hself := World.grownBy.refl wM (some mb)
          obtain ⟨h2, hh2⟩ : ∃ h, h = step.tdiv 2 := ⟨_, rfl⟩
          have hh2' : h2 = step / 2 := by rw [hh2]; exact Int.tdiv_eq_ediv_of_nonneg (by omega)
          have hh2b : 1 ≤ h2 ∧ h2 ≤ 5000 := by omega
          replace hh2 : step.tdiv 2 = h2 := hh2.symm
          have hcen : Hid (∀ x, cenI step x = x * step + h2) := fun x => by unfold cenI; rw [hh2']
          clear hh2' hb4 hgm hl
          obtain ⟨cX0, cY0, -⟩ := hck.out wM hself
          clear hcX hcY
          go_wp2_with fail
          refine (hmy.out _ _ cY0).mono ?_
          rintro e wq ⟨rfl, hwq⟩
          rw [hwq]
          clear hwq wq cX0 cY0
          go_upto_region 20 with fail
          obtain ⟨wo, rfl⟩ : ∃ x, x = wr := ⟨wr, rfl⟩
          go_loopw [14] (fun i wx => ∃ m : Nat, (m : Int) ≤ Y1 - Y0 + 1 ∧ i = .int .i64 (Y0 + m) ∧ SetAt wx mb (1000 * m) (partS S X0 Y0 m 0) ∧ wM.grownBy wx (some mb)) (fun i _ => (Y1 + 1 - intOf i).toNat)
          case atStart => exact ⟨0, by omega, by go_num, hM, hself⟩
          case round =>
            clear hM hself
            obtain ⟨m, hmle, rfl, hS, hgx⟩ := hrel
            obtain ⟨kX, kY, kW⟩ := hck.out wr hgx
            have hm200 : m ≤ 200 := by omega
            by_cases hlt : Y0 + (m : Int) ≤ Y1
            · have hd : decide (Y0 + (m : Int) ≤ Y1) = true := by simpa using hlt
              go_wp2_with fail
              refine (hMy.out _ _ kY).mono ?_
              rintro e wq ⟨rfl, hwq⟩
              rw [hwq]
              clear hwq wq
              go_wp2_with fail
              refine (hmx.out _ _ kX).mono ?_
              rintro e wq ⟨rfl, hwq⟩
              rw [hwq]
              clear hwq wq kX kY kW
              go_upto_region 23 with fail
              obtain ⟨wb, rfl⟩ : ∃ x, x = wr := ⟨wr, rfl⟩
              have hS0 : SetAt wb mb (1000 * m + 0) (partS S X0 Y0 m 0) := hS
              go_loopw [15] (fun i wx => ∃ k : Nat, (k : Int) ≤ X1 - X0 + 1 ∧ i = .int .i64 (X0 + k) ∧ SetAt wx mb (1000 * m + k) (partS S X0 Y0 m k) ∧ wM.grownBy wx (some mb)) (fun i _ => (X1 + 1 - intOf i).toNat)
              case atStart => exact ⟨0, by omega, by go_num, hS0, hgx⟩
              case round =>
                clear hS hS0 hgx
                obtain ⟨k, hkle, rfl, hS, hgx⟩ := hrel
                obtain ⟨kX, kY, kW⟩ := hck.out wr hgx
                have hk200 : k ≤ 200 := by omega
                by_cases hlk : X0 + (k : Int) ≤ X1
                · have hdk : decide (X0 + (k : Int) ≤ X1) = true := by simpa using hlk
                  go_wp2_with fail
                  refine (hMx.out _ _ kX).mono ?_
                  rintro e wq ⟨rfl, hwq⟩
                  rw [hwq]
                  clear hwq wq kX kY
                  have m1b : -110000 ≤ (X0 + (k : Int)) * step ∧ (X0 + (k : Int)) * step ≤ 100000 := by
                    have h1 := Int.mul_le_mul_of_nonneg_right (show X0 ≤ X0 + (k : Int) by omega) (show 0 ≤ step by omega)
                    have h2 := Int.mul_le_mul_of_nonneg_right hlk (show 0 ≤ step by omega)
                    have := cx0.out
                    omega
                  have m2b : -110000 ≤ (Y0 + (m : Int)) * step ∧ (Y0 + (m : Int)) * step ≤ 100000 := by
                    have h1 := Int.mul_le_mul_of_nonneg_right (show Y0 ≤ Y0 + (m : Int) by omega) (show 0 ≤ step by omega)
                    have h2 := Int.mul_le_mul_of_nonneg_right hlt (show 0 ≤ step by omega)
                    have := cy0.out
                    omega
                  have hcx := hcen.out (X0 + (k : Int))
                  have hcy := hcen.out (Y0 + (m : Int))
                  obtain ⟨m1, hm1⟩ : ∃ q, q = (X0 + (k : Int)) * step := ⟨_, rfl⟩
                  obtain ⟨m2, hm2⟩ : ∃ q, q = (Y0 + (m : Int)) * step := ⟨_, rfl⟩
                  rw [← hm1] at m1b hcx
                  rw [← hm2] at m2b hcy
                  replace hm1 : (X0 + (k : Int)) * step = m1 := hm1.symm
                  replace hm2 : (Y0 + (m : Int)) * step = m2 := hm2.symm
                  have hSv := hcov.out (X0 + (k : Int)) (Y0 + (m : Int))
                  rw [hcx, hcy] at hSv
                  have hI := hide (hIO.out ⟨m1 + h2, m2 + h2⟩ wr kW (by unfold bdW; simp only; omega))
                  have hh := hhit.out m k
                  have hms := hmiss.out m k
                  rw [hSv] at hh hms
                  generalize insF rs ⟨m1 + h2, m2 + h2⟩ = iv at *
                  clear hcx hcy hSv
                  replace hh := hide hh
                  replace hms := hide hms
                  go_wp2_with fail
                  refine hI.out.mono ?_
                  rintro e w26 ⟨rfl, hg26⟩
                  clear hI
                  have hS26 := hS.pure hg26
                  have hgx26 := gr_trans hgx (gr_any hg26)
                  clear hS hgx
                  rcases hd0 : decide (0 ≤ iv) with _ | _
                  · have hS2 := (hS26.mono (n' := 1000 * m + (k + 1)) (by omega)).congr (fun x y => (hms.out hd0 x y).symm)
                    clear hS26 hm1 hm2
                    go_wp2_with fail
                    go_roundw
                    case rel => exact ⟨k + 1, by omega, by go_num, hS2, hgx26⟩
                    case measure => simp [intOf]; omega
                  · obtain ⟨w27, hrun, hS27, hg27⟩ := hS26.store (x := X0 + (k : Int)) (y := Y0 + (m : Int)) (by unfold maxLen; omega) (okSp_of (by omega) (by omega))
                    have hS2 : SetAt w27 mb (1000 * m + (k + 1)) (partS S X0 Y0 m (k + 1)) := hS27.congr fun x y => (hh.out hd0 x y).symm
                    have hgz := gr_trans hgx26 hg27
                    clear hS26 hS27 hgx26 hm1 hm2
                    go_wp2_with fail
                    go_roundw
                    case rel => exact ⟨k + 1, by omega, by go_num, hS2, hgz⟩
                    case measure => simp [intOf]; omega
                · have hdk : decide (X0 + (k : Int) ≤ X1) = false := by simpa using hlk
                  have hS2 := (hS.mono (n' := 1000 * (m + 1)) (by omega)).congr (hrow.out m k (by omega))
                  go_wp2_with fail
                  refine (hMx.out _ _ kX).mono ?_
                  rintro e wq ⟨rfl, hwq⟩
                  rw [hwq]
                  clear hwq wq kX kY kW
                  go_wp2_with fail
                  go_roundw
                  case rel => exact ⟨m + 1, by omega, by go_num, hS2, hgx⟩
                  case measure => simp [intOf]; omega
            · have hd : decide (Y0 + (m : Int) ≤ Y1) = false := by simpa using hlt
              have hR := (hS.mono (n' := 1000000) (by omega)).congr (hall.out m (by omega))
              have hbw := hbf.out wr hgx
              have hgw := hg4.t kW
              have hCO := hide (cellsOf_any mb 1000000 S step wr hR hsp hSb.out)
              go_wp2_with fail
              refine (hMy.out _ _ kY).mono ?_
              rintro e wq ⟨rfl, hwq⟩
              rw [hwq]
              clear hwq wq kX kY kW hS hR hgx
              go_wp2_with fail
              refine (hCO.out).mono ?_
              rintro e v9 ⟨c9, er9, A9, cc9, rfl, hC9, hO9, hg9⟩
              have hb9 := (hbw).pure hg9
              have hgw9 := (hgw).t hg9
              obtain ⟨⟨d0, f0⟩, ⟨d1, f1⟩, ⟨d2, f2⟩, ⟨d3, f3⟩⟩ := box4_c hb9
              replace hC9 := hide hC9
              obtain ⟨n9, hn9⟩ : ∃ n, n = c9.rows.length := ⟨_, rfl⟩
              rw [← hn9]
              replace hn9 := hide hn9
              go_wp2_with fail
              clear d0 d1 d2 d3 f0 f1 f2 f3
              have hgf := gr_new hgw9 (set4_gr (w := v9) (g := x4) (.int .i64 c9.step) (.int .i64 c9.x) (.int .i64 c9.y) (.slice A9 n9 cc9)) hxl4
              have hOf := (Own.lower hO9 ((hgw).size)).ne (set4_gr (w := v9) (g := x4) (.int .i64 c9.step) (.int .i64 c9.x) (.int .i64 c9.y) (.slice A9 n9 cc9)) (fun x h e => hb9.ne_own hO9 (by decide) (by injection e with e; rw [e]; exact h))
              have hbf := box_set4 hb9 (.int .i64 c9.step) (.int .i64 c9.x) (.int .i64 c9.y) (.slice A9 n9 cc9)
              generalize (((v9.setCell ⟨x4, 0, none⟩ (.int .i64 c9.step)).setCell ⟨x4, 1, none⟩ (.int .i64 c9.x)).setCell ⟨x4, 2, none⟩ (.int .i64 c9.y)).setCell ⟨x4, 3, none⟩ (.slice A9 n9 cc9) = wf at *
              obtain ⟨⟨d0, f0⟩, ⟨d1, f1⟩, ⟨d2, f2⟩, ⟨d3, f3⟩⟩ := box4_c hbf
              exact bodyPost_ret (v := .tuple #[.agg #[.int .i64 c9.step, .int .i64 c9.x, .int .i64 c9.y, .slice A9 n9 cc9], .int .i64 er9]) (by simp [results, Tryz.results14, go_sem, d0, d1, d2, d3, f0, f1, f2, f3]) rfl ⟨c9, er9, A9, cc9, by rw [hn9.out], (fun h => .inr ⟨hE00.out, by rw [hSe.out]; exact h⟩) hC9.out, hOf, hgf⟩

end Go.Proofs.YtgcpegjggakemaaGreatDoor

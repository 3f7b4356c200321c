/- Contracts of functions that this seat's laws reach, each: what one call returns and what it leaves in memory; no condition beyond each theorem's own hypotheses. -/
import Derived.Test.YtgcpegjggakemaaGreatDoorZqMapLen
import Derived.Test.YtgcpegjggakemaaGreatDoorZqCelN
set_option linter.unusedVariables false
set_option linter.unusedSimpArgs false
namespace Go.Bl
open Go
/-- the cells of rows, as far as they are read -/
def onK (c : Cel) (j i : Nat) (x y : Int) : Bool := onC c x y && decide ((y - c.y / c.step).toNat < j ∨ (y - c.y / c.step).toNat = j ∧ (x - c.x / c.step).toNat < i)

theorem onK_zero (c : Cel) (x y : Int) : onK c 0 0 x y = false := by simp [onK]

theorem onC_row {c : Cel} {x y : Int} (h : onC c x y = true) : 0 ≤ x - c.x / c.step ∧ 0 ≤ y - c.y / c.step ∧ bit c.rows (y - c.y / c.step).toNat (x - c.x / c.step).toNat = true := by
  simp only [onC, Bool.and_eq_true, decide_eq_true_eq] at h
  exact ⟨h.1.1, h.1.2, h.2⟩

theorem bit_in {rows : List ByteArray} {j i : Nat} (h : bit rows j i = true) : j < rows.length ∧ i < (rows.getD j ByteArray.empty).size := by
  constructor
  · apply Nat.lt_of_not_le
    intro hc
    rw [bit_row hc] at h; cases h
  · apply Nat.lt_of_not_le
    intro hc
    rw [bit_col hc] at h; cases h

theorem onK_all (c : Cel) (x y : Int) : onK c c.rows.length 0 x y = onC c x y := by
  rw [onK]
  cases h : onC c x y
  · rfl
  · have := bit_in (onC_row h).2.2
    simp [this.1]

theorem onK_row (c : Cel) {j : Nat} {n : Nat} (hn : (c.rows.getD j ByteArray.empty).size ≤ n) (x y : Int) : onK c j n x y = onK c (j + 1) 0 x y := by
  rw [onK, onK]
  cases h : onC c x y
  · rfl
  · obtain ⟨h1, h2, h3⟩ := onC_row h
    have h4 := bit_in h3
    simp only [Bool.true_and, decide_eq_decide]
    constructor
    · rintro (h | ⟨h, -⟩) <;> omega
    · rintro (h | ⟨h, h'⟩)
      · by_cases e : (y - c.y / c.step).toNat = j
        · rw [e] at h4; right; omega
        · left; omega
      · omega

theorem onK_hit (c : Cel) {j i : Nat} (hb : bit c.rows j i = true) (x y : Int) : onK c j (i + 1) x y = (onK c j i x y || decide (x = c.x / c.step + i ∧ y = c.y / c.step + j)) := by
  rw [onK, onK]
  by_cases he : x = c.x / c.step + i ∧ y = c.y / c.step + j
  · obtain ⟨rfl, rfl⟩ := he
    have e1 : (c.x / c.step + (i : Int) - c.x / c.step).toNat = i := by omega
    have e2 : (c.y / c.step + (j : Int) - c.y / c.step).toNat = j := by omega
    have hon : onC c (c.x / c.step + i) (c.y / c.step + j) = true := by
      have e3 : c.x / c.step + (i : Int) - c.x / c.step = i := by omega
      have e4 : c.y / c.step + (j : Int) - c.y / c.step = j := by omega
      simp [onC, e3, e4, hb]
    rw [hon, e1, e2]; simp
  · cases h : onC c x y
    · simp [he]
    · obtain ⟨h1, h2, h3⟩ := onC_row h
      simp only [Bool.true_and, he, decide_false, Bool.or_false, decide_eq_decide]
      constructor
      · rintro (h | ⟨h, h'⟩)
        · exact .inl h
        · by_cases e : (x - c.x / c.step).toNat = i
          · exfalso; apply he; omega
          · right; omega
      · rintro (h | ⟨h, h'⟩) <;> omega

theorem onK_miss (c : Cel) {j i : Nat} (hb : bit c.rows j i = false) (x y : Int) : onK c j (i + 1) x y = onK c j i x y := by
  rw [onK, onK]
  cases h : onC c x y
  · rfl
  · obtain ⟨h1, h2, h3⟩ := onC_row h
    have hne : ¬ ((y - c.y / c.step).toNat = j ∧ (x - c.x / c.step).toNat = i) := by
      rintro ⟨e1, e2⟩
      rw [e1, e2, hb] at h3; cases h3
    simp only [Bool.true_and, decide_eq_decide]
    omega

theorem gr_iterAt (w : World) (k : Nat) (s : ByteArray) (p : Nat) : w.grownBy (w.iterAt k s p) (some k) :=
  ⟨rfl, rfl, rfl, by rw [Lib.iterAt_size]; exact Nat.le_refl _, fun i hi hr => Lib.iterAt_other w k i s p (fun e => hr (by rw [e]))⟩

theorem okR_ascii {s : ByteArray} (h : okR s = true) {i : Nat} (hi : i < s.size) : (s[i]'hi).toNat < 128 := by
  rw [okR, List.all_eq_true] at h
  have := h _ (byt_mem.2 ⟨i, hi, rfl⟩)
  rw [byt_get hi]
  simp only [Bool.or_eq_true, beq_iff_eq] at this
  rcases this with e | e <;> rw [e] <;> decide
/-- cells of few short rows of # and . -/
structure CFit (c : Cel) : Prop where
  s : 2 ≤ c.step ∧ c.step ≤ 10000
  x : -10000000000 ≤ c.x ∧ c.x ≤ 10000000000
  y : -10000000000 ≤ c.y ∧ c.y ≤ 10000000000
  mx : multB c.x c.step = true
  my : multB c.y c.step = true
  n : c.rows.length ≤ 1000
  row : ∀ j, (h : j < c.rows.length) → c.rows[j].size ≤ 1000 ∧ okR c.rows[j] = true

theorem CellsOk.fit {c : Cel} (h : CellsOk c) : CFit c := by
  refine ⟨step_pos h.step, ?_, ?_, h.mx, h.my, by have := h.many; omega, fun j hj => ?_⟩
  · by_cases hr : c.rows.length = 0
    · have := (h.nil hr).1; omega
    · have := h.x hr; simp [outB] at this; omega
  · by_cases hr : c.rows.length = 0
    · have := (h.nil hr).2; omega
    · have := h.y hr; simp [outB] at this; omega
  · have h1 := h.row j hj
    rw [getD_of hj] at h1
    exact ⟨by have := h.wide; omega, h1.2⟩

end Go.Bl
namespace Go.Proofs.YtgcpegjggakemaaGreatDoor
open Go Go.RowKit Go.Bl

set_option maxHeartbeats 8000000 in
set_option maxRecDepth 100000 in
theorem setOf_any (c : Cel) (A : Option Addr) (n cc : Nat) (w : World) (ha : CArg w c A n) (hf : CFit c) :
    Calls Tryz.prog 61 #[.agg #[.int .i64 (c).step, .int .i64 (c).x, .int .i64 (c).y, .slice A n cc]] w fun e w' => ∃ b, e = .returned (.map (some b)) ∧ SetAt w' b 1000000 (onC c) ∧ w.grownBy w' none ∧ w.heap.size ≤ b := by
  obtain ⟨hl, rfl, -⟩ := ha
  have hs := hf.s
  have q1 := tdiv_mult hf.mx
  have q2 := tdiv_mult hf.my
  have b1 := div_bd hs.1 hf.x.1 hf.x.2 (by omega)
  have b2 := div_bd hs.1 hf.y.1 hf.y.2 (by omega)
  obtain ⟨X, hX⟩ : ∃ x, x = c.x / c.step := ⟨_, rfl⟩
  obtain ⟨Y, hY⟩ : ∃ x, x = c.y / c.step := ⟨_, rfl⟩
  rw [← hX] at q1 b1
  rw [← hY] at q2 b2
  have hit := hide (fun j i hb x y => onK_hit c (j := j) (i := i) hb x y)
  have hmiss := hide (fun j i hb x y => onK_miss c (j := j) (i := i) hb x y)
  rw [← hX, ← hY] at hit
  have hs0 : ¬ c.step = 0 := by omega
  have hrn := hf.n
  replace hf := hide hf
  replace hX := hide hX
  replace hY := hide hY
  go_enter Tryz.func61, Tryz.ntmps61
  go_upto_region 1 with fail
  obtain ⟨w1, hw1⟩ : ∃ x, x = (w).alloc (.cells [.int .i64 (c).step, .int .i64 (c).x, .int .i64 (c).y, .slice A c.rows.length cc].toArray 34) := ⟨_, rfl⟩
  have hg1 : (w).grownBy w1 none := by rw [hw1]; exact gr_alloc (World.grownBy.refl _ _) _
  have hb1 : Box w1 (w).heap.size 34 [.int .i64 (c).step, .int .i64 (c).x, .int .i64 (c).y, .slice A c.rows.length cc] := by rw [hw1]; exact Box.new _ _ _
  have hxs1 := hb1.lt
  rw [← hw1]
  clear hw1
  obtain ⟨x1, hx1⟩ : ∃ x, x = (w).heap.size := ⟨_, rfl⟩
  rw [← hx1] at hb1 hxs1 ⊢
  have hxl1 : (w).heap.size ≤ x1 := by omega
  clear hx1
  have hl1 := hl.pure hg1
  obtain ⟨⟨c0, -⟩, ⟨c1, -⟩, ⟨c2, -⟩, ⟨c3, -⟩⟩ := box4_c hb1
  have hmk := run_makeMap (P := Tryz.prog) 92 w1
  have hM : SetAt (w1.alloc (.map #[] 0)) w1.heap.size (1000 * 0) (onK c 0 0) := (SetAt.made w1).congr fun x y => (onK_zero c x y).symm
  have hgm := gr_alloc (World.grownBy.refl w1 none) (.map #[] 0)
  go_upto_region 2 with fail
  obtain ⟨w2, hw2⟩ : ∃ x, x = w1.alloc (.map #[] 0) := ⟨_, rfl⟩
  rw [← hw2] at hM hgm ⊢
  clear hw2 hmk
  obtain ⟨mb, hmb⟩ : ∃ x, x = w1.heap.size := ⟨_, rfl⟩
  rw [← hmb] at hM ⊢
  have hmb1 : w1.heap.size ≤ mb := by omega
  clear hmb
  have hxm : mb ≠ x1 := by omega
  have hck : Hid (∀ wx, w2.grownBy wx (some mb) → wx.cell? ⟨x1, 0, none⟩ = some (.int .i64 c.step) ∧ wx.cell? ⟨x1, 1, none⟩ = some (.int .i64 c.x) ∧ wx.cell? ⟨x1, 2, none⟩ = some (.int .i64 c.y) ∧ wx.cell? ⟨x1, 3, none⟩ = some (.slice A c.rows.length cc)) := fun wx h =>
    have hne : (some mb) ≠ some x1 := by intro e; injection e with e; exact hxm e
    ⟨gr_cell h (hgm.k c0) hne, gr_cell h (hgm.k c1) hne, gr_cell h (hgm.k c2) hne, gr_cell h (hgm.k c3) hne⟩
  have hl2 := hl1.pure hgm
  have hgw2 := hg1.t hgm
  have hsz2 := hgm.size
  clear c0 c1 c2 hl1 hgm
  replace c3 := (hck.out w2 (World.grownBy.refl _ _)).2.2.2
  have hself := World.grownBy.refl w2 (some mb)
  have hrow : Hid (∀ wx, w2.grownBy wx (some mb) → ∀ k, (hk : k < c.rows.length) → ∃ g o, A = some ⟨g, o, none⟩ ∧ wx.cell? ⟨g, o + k, none⟩ = some (.string c.rows[k])) := fun wx h k hk => by
    obtain ⟨g, o, rfl, -, hcell⟩ := sl_strs hl (show 0 < c.rows.length by omega)
    refine ⟨g, o, rfl, gr_cell h (hgw2.k (hcell k hk)) ?_⟩
    have := cell_lt (hcell k hk)
    intro e; injection e with e
    have := hg1.size
    simp only at *; omega
  clear hl hl2
  go_wp2_with fail
  go_loopw [11] (fun i wr => ∃ j : Nat, j ≤ c.rows.length ∧ i = .int .i64 j ∧ SetAt wr mb (1000 * j) (onK c j 0) ∧ w2.grownBy wr (some mb)) (fun i _ => c.rows.length - (intOf i).toNat)
  case atStart => exact ⟨0, Nat.zero_le _, rfl, hM, hself⟩
  case round =>
    clear hM hself c3
    obtain ⟨j, hj, rfl, hS, hgj⟩ := hrel
    by_cases hlt : j < c.rows.length
    · obtain ⟨g, o, hA, cj⟩ := hrow.out wr hgj j hlt
      obtain ⟨hsz, hok⟩ := hf.out.row j hlt
      have hbit : Hid (∀ i, bit c.rows j i = (byt c.rows[j] i == 35)) := fun i => by rw [bit, getD_of hlt]
      have hrn2 : Hid ((c.rows.getD j ByteArray.empty).size = c.rows[j].size) := by rw [Hid, getD_of hlt]
      have hasc : Hid (∀ i, (hi : i < c.rows[j].size) → (c.rows[j][i]'hi).toNat < 128) := fun i hi => okR_ascii hok hi
      clear hok
      generalize c.rows[j] = s at *
      obtain ⟨d0, d1, d2, d3⟩ := hck.out wr hgj
      subst hA
      go_upto_region 6 with fail
      obtain ⟨w3, hw3⟩ : ∃ x, x = wr.iter s 0 := ⟨_, rfl⟩
      have hi3 : w3.heap[wr.heap.size]? = some (.stringIter s 0) := by rw [hw3]; exact World.iter_heap wr s 0
      have hg3 : wr.grownBy w3 none := by rw [hw3]; exact gr_alloc (World.grownBy.refl _ _) _
      have hS3 : SetAt w3 mb (1000 * j + 0) (onK c j 0) := hS.pure hg3
      have hgj3 := gr_trans hgj (gr_any hg3)
      have hri : w2.heap.size ≤ wr.heap.size := hgj.size
      have hrm : wr.heap.size ≠ mb := by have := hS.lt; omega
      rw [← hw3]
      clear hw3 d0 d1 d2 d3 cj hS hg3
      generalize wr.heap.size = ri at *
      clear hgj
      go_loopw [6] (fun _ wx => ∃ pos : Nat, pos ≤ s.size ∧ wx.heap[ri]? = some (.stringIter s pos) ∧ SetAt wx mb (1000 * j + pos) (onK c j pos) ∧ w2.grownBy wx (some mb)) (fun _ wx => s.size - wx.iterPos ri)
      case atStart => exact ⟨0, Nat.zero_le _, hi3, hS3, hgj3⟩
      case round =>
        clear hi3 hS3 hgj3
        obtain ⟨pos, hps, hk, hS, hgx⟩ := hrel
        by_cases hp : pos < s.size
        · have h128 := hasc.out pos hp
          have hnext : ∀ ty, (Instr.next (.pointer (some ⟨ri, 0, none⟩)) true ty).run Tryz.prog wr = _ := fun ty => Lib.run_next_ascii_at wr ri s pos ty hk hp h128
          have hk1 := Lib.iterAt_heap wr ri s pos (pos + 1) hk
          have hga := gr_iterAt wr ri s (pos + 1)
          have hS1 := hS.gr hga (by intro e; injection e with e; exact hrm e)
          have hgx1 := gr_row hgx hga (by intro x e; injection e with e; omega)
          have hmu : wr.iterPos ri = pos := by simp [World.iterPos, hk]
          have hbt := byt_get hp
          have hb := hbit.out pos
          rw [show (byt s pos == 35) = (((byt s pos).toNat : Int) == 35) from (u8_35 _).symm] at hb
          generalize wr.iterAt ri s (pos + 1) = W1 at *
          rcases hbv : (((byt s pos).toNat : Int) == 35) with _ | _
          · rw [hbv] at hb
            have hS2 := (hS1.mono (n' := 1000 * j + (pos + 1)) (by omega)).congr (fun x y => (hmiss.out j pos hb x y).symm)
            have hmu2 : W1.iterPos ri = pos + 1 := by simp [World.iterPos, hk1]
            replace hb := hide hb
            clear hS hS1 hasc hbit
            go_wp2_with fail
            go_roundw
            case rel => exact ⟨pos + 1, by omega, hk1, hS2, hgx1⟩
            case measure => rw [hmu, hmu2]; omega
          · rw [hbv] at hb
            have hSS := hide (fun W (h : W1.grownBy W none) => ((hS1.pure h).store (x := X + (pos : Int)) (y := Y + (j : Int)) (by unfold maxLen; omega) (okSp_of (by omega) (by omega))))
            have hh := hide (hit.out j pos hb)
            have hck1 : Hid (∀ wx, W1.grownBy wx none → wx.cell? ⟨x1, 0, none⟩ = some (.int .i64 c.step) ∧ wx.cell? ⟨x1, 1, none⟩ = some (.int .i64 c.x) ∧ wx.cell? ⟨x1, 2, none⟩ = some (.int .i64 c.y)) := fun wx h =>
              let k := hck.out wx (gr_trans hgx1 (gr_any h))
              ⟨k.1, k.2.1, k.2.2.1⟩
            have hpb : pos ≤ 1000 := by omega
            have hjb : j ≤ 1000 := by omega
            replace hb := hide hb
            clear hS hS1 hasc hbit
            go_upto_region 9 with fail
            clear hnext
            refine wp_region_tree (fun wx => W1.grownBy wx none) [2, 2, 1, 2, 1, 2, 2, 2, 2, 1, 2, 1, 2, 2, 2, 2, 0] (.bl 0 (.bl 1 (.bl 2 (.bl 3 (.bl 4 (.bl 5 (.bl 6 (.bl 7 (.bl 8 (.bl 9 (.bl 10 (.bl 11 (.bl 12 (.bl 13 (.bl 14 (.bl 15 (.ef 16 .done))))))))))))))))) (by kernel_rfl) (by kernel_rfl) (gr_drew (World.grownBy.refl _ _)) ?_
            obtain ⟨w4, hw4⟩ : ∃ x, x = (W1).drew := ⟨_, rfl⟩
            rw [← hw4]
            have hgw4 : (W1).grownBy w4 none := by rw [hw4]; exact gr_drew (World.grownBy.refl _ _)
            clear hw4
            refine tree_p rfl rfl rfl rfl _ rfl (by simp) (fun K hK => ?_)
            apply Exists.intro
            refine ⟨fun wq K' hK' => ?_, ?_⟩
            · go_wp2_with fail
              exact hK'
            go_simp
            refine hK _ ?_
            clear hK K
            refine tree_p rfl rfl rfl rfl _ rfl (by simp) (fun K hK => ?_)
            apply Exists.intro
            refine ⟨fun wq K' hK' => ?_, ?_⟩
            · go_wp2_with fail
              exact hK'
            go_simp
            refine hK _ ?_
            clear hK K
            refine tree_b rfl rfl rfl rfl _ rfl (by simp) (fun K hK => ?_)
            apply Exists.intro
            refine ⟨fun wq hq K' hK' => ?_, ?_⟩
            · obtain ⟨d0, d1, d2⟩ := hck1.out wq hq
              go_wp2_with fail
              exact hK'
            go_simp
            refine hK _ ?_
            clear hK K
            refine tree_p rfl rfl rfl rfl _ rfl (by simp) (fun K hK => ?_)
            apply Exists.intro
            refine ⟨fun wq K' hK' => ?_, ?_⟩
            · go_wp2_with fail
              exact hK'
            go_simp
            refine hK _ ?_
            clear hK K
            refine tree_b rfl rfl rfl rfl _ rfl (by simp) (fun K hK => ?_)
            apply Exists.intro
            refine ⟨fun wq hq K' hK' => ?_, ?_⟩
            · obtain ⟨d0, d1, d2⟩ := hck1.out wq hq
              go_wp2_with fail
              exact hK'
            go_simp
            refine hK _ ?_
            clear hK K
            refine tree_p rfl rfl rfl rfl _ rfl (by simp) (fun K hK => ?_)
            apply Exists.intro
            refine ⟨fun wq K' hK' => ?_, ?_⟩
            · go_wp2_with fail
              exact hK'
            go_simp
            refine hK _ ?_
            clear hK K
            refine tree_p rfl rfl rfl rfl _ rfl (by simp) (fun K hK => ?_)
            apply Exists.intro
            refine ⟨fun wq K' hK' => ?_, ?_⟩
            · go_wp2_with fail
              exact hK'
            go_simp
            refine hK _ ?_
            clear hK K
            refine tree_p rfl rfl rfl rfl _ rfl (by simp) (fun K hK => ?_)
            apply Exists.intro
            refine ⟨fun wq K' hK' => ?_, ?_⟩
            · go_wp2_with fail
              exact hK'
            go_simp
            refine hK _ ?_
            clear hK K
            refine tree_p rfl rfl rfl rfl _ rfl (by simp) (fun K hK => ?_)
            apply Exists.intro
            refine ⟨fun wq K' hK' => ?_, ?_⟩
            · go_wp2_with fail
              exact hK'
            go_simp
            refine hK _ ?_
            clear hK K
            refine tree_b rfl rfl rfl rfl _ rfl (by simp) (fun K hK => ?_)
            apply Exists.intro
            refine ⟨fun wq hq K' hK' => ?_, ?_⟩
            · obtain ⟨d0, d1, d2⟩ := hck1.out wq hq
              go_wp2_with fail
              exact hK'
            go_simp
            refine hK _ ?_
            clear hK K
            refine tree_p rfl rfl rfl rfl _ rfl (by simp) (fun K hK => ?_)
            apply Exists.intro
            refine ⟨fun wq K' hK' => ?_, ?_⟩
            · go_wp2_with fail
              exact hK'
            go_simp
            refine hK _ ?_
            clear hK K
            refine tree_b rfl rfl rfl rfl _ rfl (by simp) (fun K hK => ?_)
            apply Exists.intro
            refine ⟨fun wq hq K' hK' => ?_, ?_⟩
            · obtain ⟨d0, d1, d2⟩ := hck1.out wq hq
              go_wp2_with fail
              exact hK'
            go_simp
            refine hK _ ?_
            clear hK K
            refine tree_p rfl rfl rfl rfl _ rfl (by simp) (fun K hK => ?_)
            apply Exists.intro
            refine ⟨fun wq K' hK' => ?_, ?_⟩
            · go_wp2_with fail
              exact hK'
            go_simp
            refine hK _ ?_
            clear hK K
            refine tree_p rfl rfl rfl rfl _ rfl (by simp) (fun K hK => ?_)
            apply Exists.intro
            refine ⟨fun wq K' hK' => ?_, ?_⟩
            · go_wp2_with fail
              exact hK'
            go_simp
            refine hK _ ?_
            clear hK K
            refine tree_p rfl rfl rfl rfl _ rfl (by simp) (fun K hK => ?_)
            apply Exists.intro
            refine ⟨fun wq K' hK' => ?_, ?_⟩
            · go_wp2_with fail
              exact hK'
            go_simp
            refine hK _ ?_
            clear hK K
            refine tree_p rfl rfl rfl rfl _ rfl (by simp) (fun K hK => ?_)
            apply Exists.intro
            refine ⟨fun wq K' hK' => ?_, ?_⟩
            · go_wp2_with fail
              exact hK'
            go_simp
            refine hK _ ?_
            clear hK K
            refine tree_e0 (by kernel_rfl) rfl rfl (fun K hK => ?_)
            obtain ⟨w5, hrun, hS5, hg5⟩ := hSS.out w4 (gr_trans hgw4 (World.grownBy.refl _ _))
            go_wp2_with fail
            try go_simp
            refine hK _ _ trivial ?_
            clear hK K
            refine tree_done ?_
            have hk5 : w5.heap[ri]? = some (.stringIter s (pos + 1)) := by
              have hlt1 := (Array.getElem?_eq_some_iff.1 hk1).1
              rw [hg5.block ri (Nat.lt_of_lt_of_le hlt1 hgw4.size) (by intro e; injection e with e; exact hrm e), hgw4.block ri hlt1 (by simp)]
              exact hk1
            have hS6 : SetAt w5 mb (1000 * j + (pos + 1)) (onK c j (pos + 1)) := hS5.congr fun x y => (hh.out x y).symm
            have hg6 := gr_trans (gr_trans hgx1 (gr_any hgw4)) hg5
            have hmu2 : w5.iterPos ri = pos + 1 := by simp [World.iterPos, hk5]
            clear hrun hS5 hg5 hgw4
            go_wp2_with fail
            go_roundw
            case rel => exact ⟨pos + 1, by omega, hk5, hS6, hg6⟩
            case measure => rw [hmu, hmu2]; omega
        · obtain rfl : pos = s.size := by omega
          have hnext : ∀ ty, (Instr.next (.pointer (some ⟨ri, 0, none⟩)) true ty).run Tryz.prog wr = _ := fun ty => Lib.run_next_end_at wr ri s s.size ty hk hp
          have hS2 := (hS.mono (n' := 1000 * (j + 1)) (by omega)).congr (onK_row c (j := j) (by rw [hrn2.out]; exact Nat.le_refl _))
          clear hS
          go_wp2_with fail
          (go_roundw; (case rel => exact ⟨j + 1, by omega, by go_num, hS2, hgx⟩); (case measure => simp [intOf]; omega))
    · obtain rfl : j = c.rows.length := by omega
      have hR := hS.mono (n' := 1000000) (by omega)
      replace hR := hide (hR.congr (onK_all c))
      have hgw := gr_new hgw2 hgj (by omega)
      obtain ⟨d0, d1, d2, d3⟩ := hck.out wr hgj
      clear hS
      go_wp2_with fail
      go_ret
      exact ⟨mb, rfl, hR.out, hgw, by omega⟩

end Go.Proofs.YtgcpegjggakemaaGreatDoor

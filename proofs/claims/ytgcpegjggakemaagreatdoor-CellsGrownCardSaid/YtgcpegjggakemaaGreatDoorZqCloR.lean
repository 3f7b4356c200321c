/- Contracts of functions that this seat's laws reach, each: what one call returns and what it leaves in memory; no condition beyond each theorem's own hypotheses. -/
import Derived.Test.YtgcpegjggakemaaGreatDoorZqQueA
import Derived.Test.YtgcpegjggakemaaGreatDoorZqClosData
import Derived.Test.YtgcpegjggakemaaGreatDoorZqClosA
set_option linter.unusedVariables false
set_option linter.unusedSimpArgs false
namespace Go.Bl
open Go

theorem wide_posR {c : Cel} (h : CellsOk c) (hr : c.rows.length ≠ 0) : 0 < wideR c.rows := by
  have ht := h.tight hr
  unfold tightB at ht
  simp only [Bool.and_eq_true, List.any_eq_true, List.mem_range] at ht
  obtain ⟨⟨⟨i0, hi0, b0⟩, -⟩, -⟩ := ht
  omega

theorem right_boxR {c : Cel} (h : CellsOk c) (hr : c.rows.length ≠ 0) : Box4 (onC c) (c.x / c.step) (c.y / c.step) (c.x / c.step + wideR c.rows - 1) (c.y / c.step + c.rows.length - 1) := by
  have h1 := right_box h hr
  have h2 := wide_posR h hr
  have e1 : c.x / c.step + ((wideR c.rows - 1 : Nat) : Int) = c.x / c.step + wideR c.rows - 1 := by omega
  have e2 : c.y / c.step + ((c.rows.length - 1 : Nat) : Int) = c.y / c.step + c.rows.length - 1 := by omega
  rw [e1, e2] at h1
  exact h1

theorem on_noneR {c : Cel} (hr : c.rows.length = 0) (x y : Int) : onC c x y = false := by
  have hb : bit c.rows (y - c.y / c.step).toNat (x - c.x / c.step).toNat = false := bit_row (by rw [hr]; exact Nat.zero_le _)
  rw [onC, hb, Bool.and_false]

theorem clos_no {c : Cel} (h : CellsOk c) (hn : ∀ x y, onC c x y = false) : c.rows.length = 0 ∧ IsCells c.step (closC c) c 0 := by
  have hr : c.rows.length = 0 := by
    rcases Nat.eq_zero_or_pos c.rows.length with h0 | h0
    · exact h0
    · exact ((right_boxR h (by omega)).no hn).elim
  refine ⟨hr, .inl ⟨fun x y => ?_, ?_, rfl⟩⟩
  · unfold closC; rw [decide_eq_false (by simp [hr])]; rfl
  · obtain ⟨h1, h2⟩ := h.nil hr
    obtain ⟨st, x, y, rows⟩ := c
    simp only at *
    subst h1; subst h2
    rw [List.eq_nil_of_length_eq_zero hr]

theorem clos_yes {c : Cel} (h : CellsOk c) {x0 y0 x1 y1 : Int} (hB : Box4 (onC c) x0 y0 x1 y1) : (∀ x y, closC c x y = closB (onC c) x0 y0 x1 y1 x y) ∧ x1 - x0 ≤ 199 ∧ y1 - y0 ≤ 199 := by
  have hr : c.rows.length ≠ 0 := fun h0 => hB.no (on_noneR h0)
  obtain ⟨rfl, rfl, rfl, rfl⟩ := hB.uniq (right_boxR h hr)
  have h1 := h.wide
  have h2 := h.many
  refine ⟨fun x y => ?_, by omega, by omega⟩
  unfold closC; rw [decide_eq_true hr, Bool.true_and]

end Go.Bl
namespace Go.Proofs.YtgcpegjggakemaaGreatDoor
open Go Go.RowKit Go.Bl

/-- cells that are told: they can be read -/
def CelsOutL (w0 w : World) (step : Int) (S : Int → Int → Bool) (e : Ending) : Prop :=
  ∃ (c : Cel) (er : Int) (A : Option Addr) (cc : Nat), e = .returned (.tuple #[.agg #[.int .i64 c.step, .int .i64 c.x, .int .i64 c.y, .slice A c.rows.length cc], .int .i64 er]) ∧ IsCells step S c er ∧ Sl w w0.heap.size A c.rows ∧ w0.grownBy w none

set_option maxHeartbeats 8000000 in
set_option maxRecDepth 100000 in
theorem closedOf_any (c : Cel) (A : Option Addr) (n cc : Nat) (w : World) (ha : CArg w c A n) (hok : CellsOk c) :
    Calls Tryz.prog 33 #[.agg #[.int .i64 (c).step, .int .i64 (c).x, .int .i64 (c).y, .slice A n cc]] w fun e w' => CelsOutL w w' c.step (closC c) e := by
  have hbd : Hid (∀ x y, onC c x y = true → (-2000000 ≤ x ∧ x ≤ 2000200) ∧ -2000000 ≤ y ∧ y ≤ 2000200) := fun x y h => on_bdG hok h
  have hsp := step_pos hok.step
  have hSa := hide (fun W (h : w.grownBy W none) => setOf_any c A n cc W (ha.pure h) hok.fit)
  have hno := hide (clos_no hok)
  have hyes : Hid (∀ x0 y0 x1 y1, Box4 (onC c) x0 y0 x1 y1 → (∀ x y, closC c x y = closB (onC c) x0 y0 x1 y1 x y) ∧ x1 - x0 ≤ 199 ∧ y1 - y0 ≤ 199) := fun x0 y0 x1 y1 h => clos_yes hok h
  obtain ⟨hl, hln, -⟩ := ha
  replace hln := hide hln
  clear hok
  generalize onC c = S at *
  generalize closC c = CS at *
  go_enter Tryz.func33, Tryz.ntmps33
  go_upto_region 1 with fail
  obtain ⟨w2, hw2⟩ : ∃ x, x = ((w).alloc (.cells [.int .i64 (c).step, .int .i64 (c).x, .int .i64 (c).y, .slice A n cc].toArray 34)).alloc (.cells [.int .i64 0, .int .i64 0, .int .i64 0, .slice none 0 0].toArray 34) := ⟨_, rfl⟩
  have hba2 : Box w2 (w).heap.size 34 [.int .i64 (c).step, .int .i64 (c).x, .int .i64 (c).y, .slice A n cc] := by
    rw [hw2]; exact (Box.new (w) [.int .i64 (c).step, .int .i64 (c).x, .int .i64 (c).y, .slice A n cc] 34).pure (gr_alloc (World.grownBy.refl _ _) _)
  have hbb2 : Box w2 ((w).heap.size + 1) 34 [.int .i64 0, .int .i64 0, .int .i64 0, .slice none 0 0] := by
    have h := Box.new ((w).alloc (.cells [.int .i64 (c).step, .int .i64 (c).x, .int .i64 (c).y, .slice A n cc].toArray 34)) [.int .i64 0, .int .i64 0, .int .i64 0, .slice none 0 0] 34
    rw [show ((w).alloc (.cells [.int .i64 (c).step, .int .i64 (c).x, .int .i64 (c).y, .slice A n cc].toArray 34)).heap.size = (w).heap.size + 1 by simp] at h
    rw [hw2]; exact h
  have hg2 : (w).grownBy w2 none := by rw [hw2]; exact (by repeat (first | exact World.grownBy.refl _ _ | assumption | refine gr_alloc ?_ _ | (apply gr_tail; assumption) | refine gr_drewN ?_ _ | refine gr_drew ?_))
  rw [← hw2]
  clear hw2
  obtain ⟨xb2, hxb2⟩ : ∃ x, x = (w).heap.size + 1 := ⟨_, rfl⟩
  rw [← hxb2] at hbb2 ⊢
  obtain ⟨xa2, hxa2⟩ : ∃ x, x = (w).heap.size := ⟨_, rfl⟩
  rw [← hxa2] at hba2 ⊢
  have hxn2 : xa2 ≠ xb2 := by omega
  replace hxa2 : (w).heap.size ≤ xa2 := by omega
  replace hxb2 : (w).heap.size ≤ xb2 := by omega
  obtain ⟨⟨a0, -⟩, ⟨a1, -⟩, ⟨a2, -⟩, ⟨a3, -⟩⟩ := box4_c hba2
  go_wp2_with fail
  refine (hSa.out w2 hg2).mono ?_
  rintro e w3 ⟨b, rfl, hSb, hg3, hbl⟩
  have hSn := hide (span_any b 1000000 S w3 hSb (fun x y h => by have := hbd.out x y h; exact okSp_of (by omega) (by omega)))
  clear a0 a1 a2 a3 hSa
  go_wp2_with fail
  refine hSn.out.mono ?_
  rintro e w4 ⟨s, x0, y0, x1, y1, rfl, hst, hg4⟩
  have hg24 := hg3.t hg4
  have hba := hba2.pure hg24
  have hbb := hbb2.pure hg24
  have hS4 := hSb.pure hg4
  have hgw4 := hg2.t hg24
  clear hSn hba2 hbb2 hg2 hg3 hg4 hSb hg24
  go_upto_region 3 with fail
  obtain ⟨w5, hw5⟩ : ∃ x, x = ((w4).alloc (.cells [.int .i64 x0, .int .i64 y0].toArray 89)).alloc (.cells [.int .i64 x1, .int .i64 y1].toArray 89) := ⟨_, rfl⟩
  have hba5 : Box w5 (w4).heap.size 89 [.int .i64 x0, .int .i64 y0] := by
    rw [hw5]; exact (Box.new (w4) [.int .i64 x0, .int .i64 y0] 89).pure (gr_alloc (World.grownBy.refl _ _) _)
  have hbb5 : Box w5 ((w4).heap.size + 1) 89 [.int .i64 x1, .int .i64 y1] := by
    have h := Box.new ((w4).alloc (.cells [.int .i64 x0, .int .i64 y0].toArray 89)) [.int .i64 x1, .int .i64 y1] 89
    rw [show ((w4).alloc (.cells [.int .i64 x0, .int .i64 y0].toArray 89)).heap.size = (w4).heap.size + 1 by simp] at h
    rw [hw5]; exact h
  have hg5 : (w4).grownBy w5 none := by rw [hw5]; exact (by repeat (first | exact World.grownBy.refl _ _ | assumption | refine gr_alloc ?_ _ | (apply gr_tail; assumption) | refine gr_drewN ?_ _ | refine gr_drew ?_))
  rw [← hw5]
  clear hw5
  obtain ⟨xb5, hxb5⟩ : ∃ x, x = (w4).heap.size + 1 := ⟨_, rfl⟩
  rw [← hxb5] at hbb5 ⊢
  obtain ⟨xa5, hxa5⟩ : ∃ x, x = (w4).heap.size := ⟨_, rfl⟩
  rw [← hxa5] at hba5 ⊢
  have hxn5 : xa5 ≠ xb5 := by omega
  replace hxa5 : (w4).heap.size ≤ xa5 := by omega
  replace hxb5 : (w4).heap.size ≤ xb5 := by omega
  replace hba := hba.pure hg5
  replace hbb := hbb.pure hg5
  have hS5 := hS4.pure hg5
  have hgw5 := hgw4.t hg5
  clear hS4 hgw4
  rcases hst with ⟨rfl, hn⟩ | ⟨rfl, hB⟩
  · obtain ⟨hr0, hIs⟩ := hno.out hn
    obtain rfl : n = 0 := by rw [← hln.out]; exact hr0
    obtain ⟨⟨a0, -⟩, ⟨a1, -⟩, ⟨a2, -⟩, ⟨a3, -⟩⟩ := box4_c hba
    obtain ⟨⟨d0, f0⟩, ⟨d1, f1⟩, ⟨d2, f2⟩, ⟨d3, f3⟩⟩ := box4_c hbb
    clear hno hyes hn hln hS5 hba5 hbb5
    go_wp2_with fail
    have hgf := gr_new hgw5 (set4_gr (w := w5) (g := xb2) (.int .i64 c.step) (.int .i64 c.x) (.int .i64 c.y) (.slice A 0 cc)) hxb2
    have hbf := box_set4 hbb (.int .i64 c.step) (.int .i64 c.x) (.int .i64 c.y) (.slice A 0 cc)
    generalize (((w5.setCell ⟨xb2, 0, none⟩ (.int .i64 c.step)).setCell ⟨xb2, 1, none⟩ (.int .i64 c.x)).setCell ⟨xb2, 2, none⟩ (.int .i64 c.y)).setCell ⟨xb2, 3, none⟩ (.slice A 0 cc) = wf at *
    clear d0 d1 d2 d3 f0 f1 f2 f3
    obtain ⟨⟨d0, f0⟩, ⟨d1, f1⟩, ⟨d2, f2⟩, ⟨d3, f3⟩⟩ := box4_c hbf
    have hSl : Sl wf w.heap.size A c.rows := by
      rw [List.eq_nil_of_length_eq_zero hr0]
      exact ⟨by simp, [], rfl, fun h => absurd rfl h⟩
    exact bodyPost_ret (v := .tuple #[.agg #[.int .i64 c.step, .int .i64 c.x, .int .i64 c.y, .slice A 0 cc], .int .i64 0]) (by simp [results, Tryz.results33, go_sem, d0, d1, d2, d3, f0, f1, f2, f3]) rfl ⟨c, 0, A, cc, by rw [hr0], hIs, hSl, hgf⟩
  · obtain ⟨hCS, hW, hH⟩ := hyes.out x0 y0 x1 y1 hB
    have hle := hB.le
    have hb0 : (-2000000 ≤ x0 ∧ x1 ≤ 2000200) ∧ -2000000 ≤ y0 ∧ y1 ≤ 2000200 := by
      obtain ⟨a1, k1⟩ := hB.l; obtain ⟨a2, k2⟩ := hB.r; obtain ⟨a3, k3⟩ := hB.b; obtain ⟨a4, k4⟩ := hB.t
      have := hbd.out _ _ k1; have := hbd.out _ _ k2; have := hbd.out _ _ k3; have := hbd.out _ _ k4
      omega
    have hSin := hide hB.in_
    obtain ⟨F, hF⟩ : ∃ F, F = frmB S x0 y0 x1 y1 := ⟨_, rfl⟩
    have hFi : Hid (∀ x y, F x y = true ↔ ((x0 - 1 ≤ x ∧ x ≤ x1 + 1) ∧ y0 - 1 ≤ y ∧ y ≤ y1 + 1) ∧ S x y = false) := fun x y => by rw [hF]; exact frm_iff
    obtain ⟨s0, hs0⟩ : ∃ s0 : Pt, s0 = ⟨x0 - 1, y0 - 1⟩ := ⟨_, rfl⟩
    have hFs : Hid (F s0.x s0.y = true) := by
      rw [Hid, hFi.out, hs0]
      refine ⟨by simp only; omega, ?_⟩
      rcases hS : S (x0 - 1) (y0 - 1) with _ | _
      · rfl
      · have := hSin.out _ _ hS; omega
    have hend : Hid (∀ L : List Pt, (∀ p, p ∈ L ↔ Rch nb9 F s0 p) → ∀ u v, boxU x0 y0 x1 (memL L) (y1 + 1) x0 u v = CS u v) := fun L hL u v => by
      rw [hCS, Bool.eq_iff_iff, clos_iff]
      unfold boxU OutR
      rw [← hF, ← hs0, ← hL]
      simp only [Bool.and_eq_true, decide_eq_true_eq, Bool.not_eq_true', memL, decide_eq_false_iff_not]
      constructor
      · rintro ⟨h1, h2⟩; exact ⟨by omega, h2⟩
      · rintro ⟨h1, h2⟩; exact ⟨by omega, h2⟩
    have hCSb : Hid (∀ x y, CS x y = true → -10000000 ≤ x ∧ x ≤ 10001000 ∧ -10000000 ≤ y ∧ y ≤ 10001000) := fun x y h => by
      rw [hCS, clos_iff] at h
      omega
    replace hF := hide hF
    clear hyes hno hCS hB
    go_upto_region 5 with fail
    go_cut [8, 9] (fun s8 s9 wx => ∃ mo Aq cq, s8 = .map (some mo) ∧ s9 = .slice Aq 1 cq ∧ SetAt wx mo 0 (fun _ _ => false) ∧ Que wx w5.heap.size Aq cq [s0] ∧ w5.heap.size ≤ mo ∧ blk Aq ≠ some mo ∧ w5.grownBy wx none)
    case first =>
      refine wp_region_tree (fun wx => w5.grownBy wx none) [0, 2, 1, 2, 2, 1, 2, 2, 0, 2, 2] (.bl 1 (.bl 2 (.bl 3 (.bl 4 (.bl 5 (.bl 6 (.bl 7 (.alt (.ef 0 (.bl 9 (.ef 8 (.bl 10 .done)))) (.ef 8 (.ef 0 (.bl 9 (.bl 10 .done)))))))))))) (by kernel_rfl) (by kernel_rfl) (gr_drew (World.grownBy.refl _ _)) ?_
      obtain ⟨uS, huS⟩ : ∃ x, x = (w5).drew := ⟨_, rfl⟩
      rw [← huS]
      have hguS : (w5).grownBy uS none := by rw [huS]; exact gr_drew (World.grownBy.refl _ _)
      clear huS
      have hcur := hguS
      refine tree_p rfl rfl rfl rfl _ rfl (by simp) (fun K hK => ?_)
      apply Exists.intro
      refine ⟨fun wq K' hK' => ?_, ?_⟩
      · go_wp2_with fail
        exact hK'
      go_simp
      refine hK _ ?_
      clear hK K
      refine tree_b rfl rfl rfl rfl _ rfl (by simp) (fun K hK => ?_)
      apply Exists.intro
      refine ⟨fun wq hq K' hK' => ?_, ?_⟩
      · obtain ⟨c0, -⟩ := (hba5.pure hq).c 0 rfl
        obtain ⟨c1, -⟩ := (hba5.pure hq).c 1 rfl
        go_wp2_with fail
        exact hK'
      go_simp
      refine hK _ ?_
      clear hK K
      refine tree_p rfl rfl rfl rfl _ rfl (by simp) (fun K hK => ?_)
      apply Exists.intro
      refine ⟨fun wq K' hK' => ?_, ?_⟩
      · go_wp2_with fail
        exact hK'
      go_simp
      refine hK _ ?_
      clear hK K
      refine tree_p rfl rfl rfl rfl _ rfl (by simp) (fun K hK => ?_)
      apply Exists.intro
      refine ⟨fun wq K' hK' => ?_, ?_⟩
      · go_wp2_with fail
        exact hK'
      go_simp
      refine hK _ ?_
      clear hK K
      refine tree_b rfl rfl rfl rfl _ rfl (by simp) (fun K hK => ?_)
      apply Exists.intro
      refine ⟨fun wq hq K' hK' => ?_, ?_⟩
      · obtain ⟨c0, -⟩ := (hba5.pure hq).c 0 rfl
        obtain ⟨c1, -⟩ := (hba5.pure hq).c 1 rfl
        go_wp2_with fail
        exact hK'
      go_simp
      refine hK _ ?_
      clear hK K
      refine tree_p rfl rfl rfl rfl _ rfl (by simp) (fun K hK => ?_)
      apply Exists.intro
      refine ⟨fun wq K' hK' => ?_, ?_⟩
      · go_wp2_with fail
        exact hK'
      go_simp
      refine hK _ ?_
      clear hK K
      refine tree_p rfl rfl rfl rfl _ rfl (by simp) (fun K hK => ?_)
      apply Exists.intro
      refine ⟨fun wq K' hK' => ?_, ?_⟩
      · go_wp2_with fail
        exact hK'
      go_simp
      refine hK _ ?_
      clear hK K
      refine tree_alt ?_ ?_
      · refine tree_e rfl rfl (fun K hK => ?_)
        have hmk := run_makeMap (P := Tryz.prog) 92 uS
        go_wp2_with fail
        try go_simp
        refine hK _ _ (gr_trans hcur (gr_alloc (World.grownBy.refl _ _) _)) ?_
        clear hK K
        have hM0 := SetAt.made uS
        obtain ⟨v0, hv0⟩ : ∃ x, x = (uS).alloc (.map #[] 0) := ⟨_, rfl⟩
        have hg0v : (uS).grownBy v0 none := by rw [hv0]; exact gr_alloc (World.grownBy.refl _ _) _
        rw [← hv0] at hM0 ⊢
        obtain ⟨mo, hmo⟩ : ∃ x, x = (uS).heap.size := ⟨_, rfl⟩
        rw [← hmo] at hM0 ⊢
        have hmol : w5.heap.size ≤ mo := by have := hcur.size; omega
        replace hcur := hcur.t hg0v
        clear hv0 hmo hmk hg0v
        refine tree_p rfl rfl rfl rfl _ rfl (by simp) (fun K hK => ?_)
        apply Exists.intro
        refine ⟨fun wq K' hK' => ?_, ?_⟩
        · go_wp2_with fail
          exact hK'
        go_simp
        refine hK _ ?_
        clear hK K
        refine tree_e0 (by kernel_rfl) rfl rfl (fun K hK => ?_)
        go_wp2_with fail
        try go_simp
        refine hK _ _ trivial ?_
        clear hK K
        have hOl := own_litF v0 w5.heap.size [.int .i64 (x0 - 1), .int .i64 (y0 - 1)] 89 [(⟨x0 - 1, y0 - 1⟩ : Pt)] (v0).heap.size 1 rfl rfl hcur.size (by simp [maxLen]) ⟨_, [], rfl, rfl, rfl⟩
        obtain ⟨v8, hv8⟩ : ∃ x, x = (v0).alloc (.cells #[.int .i64 (x0 - 1), .int .i64 (y0 - 1)] 89) := ⟨_, rfl⟩
        have hg8v : (v0).grownBy v8 none := by rw [hv8]; exact gr_alloc (World.grownBy.refl _ _) _
        change Own ((v0).alloc (.cells #[.int .i64 (x0 - 1), .int .i64 (y0 - 1)] 89)) _ _ _ _ _ at hOl
        rw [← hv8] at hOl ⊢
        obtain ⟨xq, hxq⟩ : ∃ x, x = (v0).heap.size := ⟨_, rfl⟩
        rw [← hxq] at hOl ⊢
        have hQ := Que.of hOl
        rw [← hs0] at hQ
        have hsep : xq ≠ mo := by have := hM0.lt; omega
        replace hM0 := hM0.pure hg8v
        replace hcur := hcur.t hg8v
        clear hv8 hxq hg8v hOl
        refine tree_p rfl rfl rfl rfl _ rfl (by simp) (fun K hK => ?_)
        apply Exists.intro
        refine ⟨fun wq K' hK' => ?_, ?_⟩
        · go_wp2_with fail
          exact hK'
        go_simp
        refine hK _ ?_
        clear hK K
        refine tree_done ?_
        go_wp2_with fail
        go_meet
        exact ⟨mo, some ⟨xq, 0, none⟩, 1, rfl, rfl, hM0, hQ, hmol, fun e => hsep (by simpa [blk] using e), hcur⟩
      · refine tree_e0 (by kernel_rfl) rfl rfl (fun K hK => ?_)
        go_wp2_with fail
        try go_simp
        refine hK _ _ trivial ?_
        clear hK K
        have hOl := own_litF uS w5.heap.size [.int .i64 (x0 - 1), .int .i64 (y0 - 1)] 89 [(⟨x0 - 1, y0 - 1⟩ : Pt)] (uS).heap.size 1 rfl rfl hcur.size (by simp [maxLen]) ⟨_, [], rfl, rfl, rfl⟩
        obtain ⟨v8, hv8⟩ : ∃ x, x = (uS).alloc (.cells #[.int .i64 (x0 - 1), .int .i64 (y0 - 1)] 89) := ⟨_, rfl⟩
        have hg8v : (uS).grownBy v8 none := by rw [hv8]; exact gr_alloc (World.grownBy.refl _ _) _
        change Own ((uS).alloc (.cells #[.int .i64 (x0 - 1), .int .i64 (y0 - 1)] 89)) _ _ _ _ _ at hOl
        rw [← hv8] at hOl ⊢
        obtain ⟨xq, hxq⟩ : ∃ x, x = (uS).heap.size := ⟨_, rfl⟩
        rw [← hxq] at hOl ⊢
        have hQ := Que.of hOl
        rw [← hs0] at hQ
        replace hcur := hcur.t hg8v
        clear hv8 hxq hg8v hOl
        refine tree_e rfl rfl (fun K hK => ?_)
        have hmk := run_makeMap (P := Tryz.prog) 92 v8
        go_wp2_with fail
        try go_simp
        refine hK _ _ (gr_trans hcur (gr_alloc (World.grownBy.refl _ _) _)) ?_
        clear hK K
        have hM0 := SetAt.made v8
        obtain ⟨v0, hv0⟩ : ∃ x, x = (v8).alloc (.map #[] 0) := ⟨_, rfl⟩
        have hg0v : (v8).grownBy v0 none := by rw [hv0]; exact gr_alloc (World.grownBy.refl _ _) _
        rw [← hv0] at hM0 ⊢
        obtain ⟨mo, hmo⟩ : ∃ x, x = (v8).heap.size := ⟨_, rfl⟩
        rw [← hmo] at hM0 ⊢
        have hmol : w5.heap.size ≤ mo := by have := hcur.size; omega
        replace hcur := hcur.t hg0v
        have hsep : xq ≠ mo := by have := (hQ.blk_lt (g := xq) rfl).2; omega
        replace hQ := hQ.pure hg0v
        clear hv0 hmo hmk hg0v
        refine tree_p rfl rfl rfl rfl _ rfl (by simp) (fun K hK => ?_)
        apply Exists.intro
        refine ⟨fun wq K' hK' => ?_, ?_⟩
        · go_wp2_with fail
          exact hK'
        go_simp
        refine hK _ ?_
        clear hK K
        refine tree_p rfl rfl rfl rfl _ rfl (by simp) (fun K hK => ?_)
        apply Exists.intro
        refine ⟨fun wq K' hK' => ?_, ?_⟩
        · go_wp2_with fail
          exact hK'
        go_simp
        refine hK _ ?_
        clear hK K
        refine tree_done ?_
        go_wp2_with fail
        go_meet
        exact ⟨mo, some ⟨xq, 0, none⟩, 1, rfl, rfl, hM0, hQ, hmol, fun e => hsep (by simpa [blk] using e), hcur⟩
    case rest =>
    obtain ⟨mo, Aq, cq, rfl, rfl, hM0, hQ0, hmol, hbq0, hgc⟩ := hcut
    generalize hwq : wc = w6 at *
    clear hwq
    obtain ⟨i0, hi, hz, h1, h2⟩ := info_parts info_spot
    have hfx := hide fun W (h : w5.grownBy W none) => (⟨hba5.pure h, hbb5.pure h, hS5.pure h⟩ : _ ∧ _ ∧ _)
    have hFlo0 : Hid (Flo nb9 F s0 [] [s0]) := Flo.start
    have hnr0 : Hid (∀ q ∈ [s0], (-3000000 ≤ q.x ∧ q.x ≤ 3000000) ∧ -3000000 ≤ q.y ∧ q.y ≤ 3000000) := fun q hq => by
      rw [List.mem_singleton.1 hq, hs0]; simp only; omega
    have hMm := hM0.congr (T := memL []) (fun x y => by simp [memL])
    replace hs0 := hide hs0
    clear hba5 hbb5 hS5 hM0
    go_wp2_with fail
    go_loopg [9] (1700 * 40804 + 2) (fun kx s wr => ∃ (L Q : List Pt) (Aq : Option Addr) (cq : Nat), s = .slice Aq Q.length cq ∧ Que wr w5.heap.size Aq cq Q ∧ SetAt wr mo L.length (memL L) ∧ Hid (Flo nb9 F s0 L Q) ∧ Hid (∀ q ∈ Q, (-3000000 ≤ q.x ∧ q.x ≤ 3000000) ∧ -3000000 ≤ q.y ∧ q.y ≤ 3000000) ∧ Hid (Q.length ≤ 1 + 1681 * L.length) ∧ Hid (1700 * (40804 - L.length) + Q.length < kx) ∧ blk Aq ≠ some mo ∧ w5.grownBy wr none)
    case atStart => exact ⟨[], [s0], Aq, cq, rfl, hQ0, hMm, hFlo0, hnr0, by simp [Hid], by simp [Hid], hbq0, hgc⟩
    case round =>
      clear hQ0 hMm hFlo0 hnr0 hbq0 hgc
      obtain ⟨L, Q, Aq, cq, rfl, hQ, hM, hFlo, hnr, hql, hk, hbq, hgr⟩ := hrel
      rcases Q with _ | ⟨hd, Q⟩
      · have hLe := hide (hend.out L (fun p => hFlo.out.done p))
        obtain ⟨hl5, hh5, -⟩ := hfx.out wr hgr
        have hmk := run_makeMap (P := Tryz.prog) 92 wr
        obtain ⟨l0, -⟩ := hl5.c 0 rfl
        obtain ⟨l1, -⟩ := hl5.c 1 rfl
        obtain ⟨u0, -⟩ := hh5.c 0 rfl
        obtain ⟨u1, -⟩ := hh5.c 1 rfl
        clear hQ hFlo hnr hql hk hbq
        rw [List.length_nil]
        go_upto_region 13 with fail
        have hM2 := SetAt.made wr
        obtain ⟨w7, hw7⟩ : ∃ x, x = wr.alloc (.map #[] 0) := ⟨_, rfl⟩
        have hg7 : wr.grownBy w7 none := by rw [hw7]; exact gr_alloc (World.grownBy.refl _ _) _
        rw [← hw7] at hM2 ⊢
        obtain ⟨m2, hm2⟩ : ∃ x, x = wr.heap.size := ⟨_, rfl⟩
        rw [← hm2] at hM2 ⊢
        have hmm : m2 ≠ mo := by have := hM.lt; omega
        have hgz5 := hgr.size
        have hm2w : w5.heap.size ≤ m2 := by omega
        have hgr7 := hgr.t hg7
        have hM7 := hM.pure hg7
        have hMT := hM2.congr (T := boxU x0 y0 x1 (memL L) y0 x0) (fun u v => (boxU_zero x0 y0 x1 (memL L) u v).symm)
        clear l0 l1 u0 u1 hmk hw7 hm2 hM2 hM hgr hg7 hgz5 hl5 hh5
        obtain ⟨hl5, hh5, -⟩ := hfx.out w7 hgr7
        obtain ⟨l1, -⟩ := hl5.c 1 rfl
        go_wp2_with fail
        clear l1 hl5 hh5
        go_loopw [12] (fun i wr => ∃ (y : Int) (N : Nat), y0 ≤ y ∧ y ≤ y1 + 1 ∧ i = .int .i64 y ∧ SetAt wr m2 N (boxU x0 y0 x1 (memL L) y x0) ∧ Hid ((N : Int) ≤ 200 * (y - y0)) ∧ SetAt wr mo L.length (memL L) ∧ w5.grownBy wr none) (fun i _ => (y1 + 1 - intOf i).toNat)
        case atStart => exact ⟨y0, 0, by omega, by omega, rfl, hMT, by simp [Hid], hM7, hgr7⟩
        case round =>
          clear hMT hM7 hgr7
          obtain ⟨y, N, hy0, hy1, rfl, hMT, hN, hM, hgr⟩ := hrel
          obtain ⟨hl5, hh5, -⟩ := hfx.out wr hgr
          obtain ⟨u1, -⟩ := hh5.c 1 rfl
          by_cases hyy : y ≤ y1
          · obtain ⟨l0, -⟩ := hl5.c 0 rfl
            have hN2 : Hid ((N : Int) ≤ 200 * (y - y0) + (x0 - x0)) := by have := hN.out; simp only [Hid]; omega
            clear hN
            go_wp2_with fail
            clear u1 l0 hl5 hh5
            go_loopw [13] (fun i wr => ∃ (x : Int) (N : Nat), x0 ≤ x ∧ x ≤ x1 + 1 ∧ i = .int .i64 x ∧ SetAt wr m2 N (boxU x0 y0 x1 (memL L) y x) ∧ Hid ((N : Int) ≤ 200 * (y - y0) + (x - x0)) ∧ SetAt wr mo L.length (memL L) ∧ w5.grownBy wr none) (fun i _ => (x1 + 1 - intOf i).toNat)
            case atStart => exact ⟨x0, N, by omega, by omega, rfl, hMT, hN2, hM, hgr⟩
            case round =>
              clear hMT hM hgr hN2
              obtain ⟨x, N, hx0, hx1, rfl, hMT, hN, hM, hgr⟩ := hrel
              obtain ⟨-, hh5, -⟩ := hfx.out wr hgr
              obtain ⟨u0, -⟩ := hh5.c 0 rfl
              clear hh5
              by_cases hxx : x ≤ x1
              · have hokx : okSp ⟨x, y⟩ := okSp_of (by omega) (by omega)
                have hlk := hM.look hokx
                have hNm : N < maxLen := by have := hN.out; unfold maxLen; omega
                have hnext := hide fun u v => boxU_next (O := memL L) ⟨hx0, hxx⟩ hy0 u v
                generalize memL L x y = v at *
                cases v
                · obtain ⟨w9, hrun, hM3, hg3⟩ := hMT.store hNm hokx
                  have hMN := hM3.congr (T := boxU x0 y0 x1 (memL L) y (x + 1)) (fun u v => by rw [hnext.out]; simp)
                  have hMo := hM.gr hg3 (by intro e; injection e with e; exact hmm e)
                  have hgN := gr_new hgr hg3 hm2w
                  have hNN : Hid (((N + 1 : Nat) : Int) ≤ 200 * (y - y0) + (x + 1 - x0)) := by have := hN.out; simp only [Hid]; omega
                  clear hMT hM3 hM hgr hg3 hN hNm hnext
                  go_wp2_with fail
                  (go_roundw; (case rel => exact ⟨x + 1, N + 1, by omega, by omega, rfl, hMN, hNN, hMo, hgN⟩); (case measure => simp [intOf]; omega))
                · have hMN := hMT.congr (T := boxU x0 y0 x1 (memL L) y (x + 1)) (fun u v => by rw [hnext.out]; simp)
                  have hNN : Hid ((N : Int) ≤ 200 * (y - y0) + (x + 1 - x0)) := by have := hN.out; simp only [Hid]; omega
                  clear hMT hN hNm hnext
                  go_wp2_with fail
                  (go_roundw; (case rel => exact ⟨x + 1, N, by omega, by omega, rfl, hMN, hNN, hM, hgr⟩); (case measure => simp [intOf]; omega))
              · have hMN := hMT.congr (T := boxU x0 y0 x1 (memL L) (y + 1) x0) (fun u v => boxU_row (by omega) hy0 u v)
                have hNN : Hid ((N : Int) ≤ 200 * (y + 1 - y0)) := by have := hN.out; simp only [Hid]; omega
                clear hMT hN
                go_wp2_with fail
                (go_roundw; (case rel => exact ⟨y + 1, N, by omega, by omega, rfl, hMN, hNN, hM, hgr⟩); (case measure => simp [intOf]; omega))
          · obtain rfl : y = y1 + 1 := by omega
            have hMf := hMT.congr (T := CS) (fun u v => hLe.out u v)
            have hOf := hide (cellsOf_any m2 N CS c.step wr hMf hsp hCSb.out)
            have hbaz := hba.pure hgr
            have hbbz := hbb.pure hgr
            have hgwz := hgw5.t hgr
            obtain ⟨a0, -⟩ := hbaz.c 0 rfl
            clear hMT hMf hM hN hl5 hh5 hfx hba hbb hgw5 hbaz hgr
            go_wp2_with fail
            refine (hOf.out).mono ?_
            rintro e v9 ⟨c9, er9, A9, cc9, rfl, hC9, hO9, hg9⟩
            have hb9 := (hbbz).pure hg9
            have hgw9 := (hgwz).t hg9
            obtain ⟨⟨d0, f0⟩, ⟨d1, f1⟩, ⟨d2, f2⟩, ⟨d3, f3⟩⟩ := box4_c hb9
            replace hC9 := hide hC9
            obtain ⟨n9, hn9⟩ : ∃ n, n = c9.rows.length := ⟨_, rfl⟩
            rw [← hn9]
            replace hn9 := hide hn9
            go_wp2_with fail
            clear d0 d1 d2 d3 f0 f1 f2 f3
            have hgf := gr_new hgw9 (set4_gr (w := v9) (g := xb2) (.int .i64 c9.step) (.int .i64 c9.x) (.int .i64 c9.y) (.slice A9 n9 cc9)) hxb2
            have hOf := (Own.lower hO9 ((hgwz).size)).ne (set4_gr (w := v9) (g := xb2) (.int .i64 c9.step) (.int .i64 c9.x) (.int .i64 c9.y) (.slice A9 n9 cc9)) (fun x h e => hb9.ne_own hO9 (by decide) (by injection e with e; rw [e]; exact h))
            have hbf := box_set4 hb9 (.int .i64 c9.step) (.int .i64 c9.x) (.int .i64 c9.y) (.slice A9 n9 cc9)
            generalize (((v9.setCell ⟨xb2, 0, none⟩ (.int .i64 c9.step)).setCell ⟨xb2, 1, none⟩ (.int .i64 c9.x)).setCell ⟨xb2, 2, none⟩ (.int .i64 c9.y)).setCell ⟨xb2, 3, none⟩ (.slice A9 n9 cc9) = wf at *
            obtain ⟨⟨d0, f0⟩, ⟨d1, f1⟩, ⟨d2, f2⟩, ⟨d3, f3⟩⟩ := box4_c hbf
            exact bodyPost_ret (v := .tuple #[.agg #[.int .i64 c9.step, .int .i64 c9.x, .int .i64 c9.y, .slice A9 n9 cc9], .int .i64 er9]) (by simp [results, Tryz.results33, go_sem, d0, d1, d2, d3, f0, f1, f2, f3]) rfl ⟨c9, er9, A9, cc9, by rw [hn9.out], id hC9.out, hOf.sl, hgf⟩
      · obtain ⟨g, o, cx, rfl, hb0, hb1, hrr, hc⟩ := hQ.1.at_ (by decide) (show 0 < (hd :: Q).length by simp)
        have hrr' : cx = [.int .i64 hd.x, .int .i64 hd.y] := hrr
        subst hrr'
        have c0 : wr.cell? ⟨g, o, none⟩ = some (.int .i64 hd.x) := by have := hc 0 _ rfl; simpa using this
        have c1 : wr.cell? ⟨g, o + 1, none⟩ = some (.int .i64 hd.y) := by have := hc 1 _ rfl; simpa using this
        rw [List.length_cons]
        have hxb := hnr.out hd (by simp)
        have hcq := hQ.2.1
        have hql2 : Q.length ≤ 70000000 := by
          have h1 := hql.out
          have h2 := nodup_box hFlo.out.nd (x0 := x0 - 1) (y0 := y0 - 1) (W := 202) (H := 202) (fun p hp => by have h3 := ((hFi.out _ _).1 (hFlo.out.rch p hp).2).1; omega)
          simp only [List.length_cons] at h1
          omega
        rw [List.length_cons] at hcq
        have hqt := hQ.tail
        have hbt : ∀ A', A' = (if cq = 1 then (some ⟨g, o, none⟩ : Option Addr) else some ⟨g, o + Enc.sz Pt, none⟩) → blk A' ≠ some mo := fun A' e => by
          subst e
          split <;> exact hbq
        clear hc hrr
        go_upto_region 8 with fail
        obtain ⟨w10, hw10⟩ : ∃ x, x = (wr).alloc (.cells [.int .i64 hd.x, .int .i64 hd.y].toArray 89) := ⟨_, rfl⟩
        have hg10 : (wr).grownBy w10 none := by rw [hw10]; exact gr_alloc (World.grownBy.refl _ _) _
        have hb10 : Box w10 (wr).heap.size 89 [.int .i64 hd.x, .int .i64 hd.y] := by rw [hw10]; exact Box.new _ _ _
        have hxs10 := hb10.lt
        rw [← hw10]
        clear hw10
        obtain ⟨x10, hx10⟩ : ∃ x, x = (wr).heap.size := ⟨_, rfl⟩
        rw [← hx10] at hb10 hxs10 ⊢
        have hxl10 : (wr).heap.size ≤ x10 := by omega
        clear hx10
        go_cut [9] (fun s9 wx => ∃ A', s9 = .slice A' Q.length (cq - 1) ∧ Que wx w5.heap.size A' (cq - 1) Q ∧ blk A' ≠ some mo ∧ w10.grownBy wx none)
        case first =>
          by_cases hc1 : cq = 1
          · subst hc1
            go_wp2_with fail
            go_meet
            exact ⟨some ⟨g, o, none⟩, by rw [show Q.length = 0 by omega], hqt.pure hg10, hbt _ rfl, World.grownBy.refl _ _⟩
          · go_wp2_with fail
            go_meet
            exact ⟨some ⟨g, o + 2, none⟩, rfl, by have h := hqt.pure hg10; rw [if_neg hc1] at h; exact h, hbt _ (by rw [if_neg hc1]; rfl), World.grownBy.refl _ _⟩
        case rest =>
        obtain ⟨A', rfl, hQ', hbq', hgc⟩ := hcut
        generalize hwq : wc = w11 at *
        clear hwq hqt hbt hbq hQ c0 c1
        have hmor : mo < wr.heap.size := hM.lt
        have hM := hM.pure (hg10.t hgc)
        have hb10' := hb10.pure hgc
        have hgr := hgr.t (hg10.t hgc)
        have hQ := hQ'
        have hbq := hbq'
        have hx10 : x10 < w11.heap.size := hb10'.lt
        have hmo11 : mo < w11.heap.size := hM.lt
        have hxmo : x10 ≠ mo := by omega
        obtain ⟨hl5, hh5, hS5⟩ := hfx.out w11 hgr
        have hokx : okSp ⟨hd.x, hd.y⟩ := okSp_of (by omega) (by omega)
        have hlk1 := hM.look hokx
        have hlk2 := hS5.look hokx
        obtain ⟨d0, -⟩ := hb10'.c 0 rfl
        obtain ⟨d1, -⟩ := hb10'.c 1 rfl
        obtain ⟨l0, -⟩ := hl5.c 0 rfl
        obtain ⟨l1, -⟩ := hl5.c 1 rfl
        obtain ⟨u0, -⟩ := hh5.c 0 rfl
        obtain ⟨u1, -⟩ := hh5.c 1 rfl
        have hIn := hide fun n a b W => in_any n a b W
        rcases hv1 : memL L hd.x hd.y with _ | _
        · have hxL := hide (show hd ∉ L by simpa [memL] using hv1)
          rw [hv1] at hlk1
          clear hv1
          rcases hv2 : S hd.x hd.y with _ | _
          · rw [hv2] at hlk2
            go_wp2_with fail
            refine (hIn.out _ _ _ _).mono ?_
            rintro e w12 ⟨rfl, hw12⟩
            rw [← hw12]
            clear hw12 w12
            rcases hv3 : inB hd.x (x0 - 1) (x1 + 1) with _ | _
            · have hno : F hd.x hd.y = false := by
                rcases hf : F hd.x hd.y with _ | _
                · rfl
                · have := ((hFi.out _ _).1 hf).1
                  rw [inB_of (by omega) (by omega)] at hv3; cases hv3
              replace hno := hide hno
              clear hlk1 hlk2 hl5 hh5 hS5 hIn hv2 hv3
              go_wp2_with fail
              go_roundg (1700 * (40804 - L.length) + (Q.length + 1))
              case measure => exact hk.out
              case rel => exact ⟨L, Q, A', cq - 1, rfl, hQ, hM, hFlo.out.skip hFs.out (.inr hno.out), fun q hq => hnr.out q (List.mem_cons_of_mem _ hq), by have := hql.out; simp only [Hid, List.length_cons] at *; omega, by simp only [Hid]; omega, hbq, hgr⟩
            · go_wp2_with fail
              refine (hIn.out _ _ _ _).mono ?_
              rintro e w12 ⟨rfl, hw12⟩
              rw [← hw12]
              clear hw12 w12
              rcases hv4 : inB hd.y (y0 - 1) (y1 + 1) with _ | _
              · have hno : F hd.x hd.y = false := by
                  rcases hf : F hd.x hd.y with _ | _
                  · rfl
                  · have := ((hFi.out _ _).1 hf).1
                    rw [inB_of (by omega) (by omega)] at hv4; cases hv4
                replace hno := hide hno
                clear hlk1 hlk2 hl5 hh5 hS5 hIn hv2 hv3 hv4
                go_wp2_with fail
                go_roundg (1700 * (40804 - L.length) + (Q.length + 1))
                case measure => exact hk.out
                case rel => exact ⟨L, Q, A', cq - 1, rfl, hQ, hM, hFlo.out.skip hFs.out (.inr hno.out), fun q hq => hnr.out q (List.mem_cons_of_mem _ hq), by have := hql.out; simp only [Hid, List.length_cons] at *; omega, by simp only [Hid]; omega, hbq, hgr⟩
              · have hyF : Hid (F hd.x hd.y = true) := by
                  rw [Hid, hFi.out]
                  simp only [inB, Bool.and_eq_true, decide_eq_true_eq] at hv3 hv4
                  exact ⟨by omega, hv2⟩
                have hLb : L.length + 1 ≤ 40804 := by
                  have h2 := nodup_box (l := L ++ [hd]) (by rw [List.nodup_append]; exact ⟨hFlo.out.nd, by simp, fun a ha b hb => by rw [List.mem_singleton.1 hb]; rintro rfl; exact hxL.out ha⟩) (x0 := x0 - 1) (y0 := y0 - 1) (W := 202) (H := 202) (fun p hp => by
                    rcases List.mem_append.1 hp with h | h
                    · have h3 := ((hFi.out _ _).1 (hFlo.out.rch p h).2).1; omega
                    · rw [List.mem_singleton.1 h]; have h3 := ((hFi.out _ _).1 hyF.out).1; omega)
                  rw [List.length_append] at h2
                  exact h2
                obtain ⟨w13, hrun, hM3, hg3⟩ := hM.store (by unfold maxLen; omega) hokx
                have hM13 : SetAt w13 mo (L ++ [hd]).length (memL (L ++ [hd])) := by
                  rw [List.length_append]
                  exact hM3.congr fun x y => (memL_snoc L hd x y).symm
                have hQ13 := hQ.gr hg3 (fun g h e => by injection e with e; subst e; exact hbq h)
                have hb13 := hb10'.gr hg3 (by intro e; injection e with e; exact hxmo e.symm)
                have hgr13 := gr_new hgr hg3 hmol
                have hAb := hide fun W => about_any hd 1 W (by omega) (by omega) (by omega)
                have hmol13 : mo < w13.heap.size := hM13.lt
                clear hlk1 hlk2 hl5 hh5 hS5 hIn hv2 hv3 hv4 hM3 hg3 hM hb10' hgr hQ hx10 hmo11
                obtain ⟨e0, -⟩ := hb13.c 0 rfl
                obtain ⟨e1, -⟩ := hb13.c 1 rfl
                go_wp2_with fail
                refine (hAb.out w13).mono ?_
                rintro e w14 ⟨Ab, cb, l, rfl, hOb, hal, hll, hg14⟩
                have hM14 := hM13.pure hg14
                have hQ14 := hQ13.pure hg14
                have hgr14 := hgr13.t hg14
                have hz14 := hg14.size
                have hgrz := hgr14.size
                have hsl := hOb.sl.mono (Nat.zero_le _)
                clear d0 d1 e0 e1 l0 l1 u0 u1 hAb hb13 hM13 hQ13 hgr13 hg14 hOb
                go_wp2_with (at_builtin; refine wpList_pushQ (α := Pt) _ rfl (.tmp 76) (.tmp 78) _ rfl w5.heap.size 89 i0 _ 16 Tryz.underlying122 hi hz h1 h2 rfl _ _ _ Q rfl rfl (by exact hQ14) 0 _ _ _ l rfl rfl (by exact hsl) ?d2 ?d3 ?d4 ?_)
                case d2 => omega
                case d3 => unfold maxLen; omega
                case d4 => exact hgrz
                intro A15 c15 w15 hQ15 hG15
                have hM15 := hM14.gr hG15.1 hbq
                have hgr15 := gr_row hgr14 hG15.1 (fun g e => (hQ14.blk_lt e).1)
                have hb15 : blk A15 ≠ some mo := by
                  rcases hG15.2 with h | h
                  · rw [h]; exact hbq
                  · intro e; have := h mo e; omega
                have hF15 : Hid (Flo nb9 F s0 (L ++ [hd]) (Q ++ l)) := hFlo.out.take hyF.out hxL.out (fun q => by rw [hal q, nb9_mem])
                have hn15 : Hid (∀ q ∈ Q ++ l, (-3000000 ≤ q.x ∧ q.x ≤ 3000000) ∧ -3000000 ≤ q.y ∧ q.y ≤ 3000000) := fun q hq => by
                  rcases List.mem_append.1 hq with h | h
                  · exact hnr.out q (List.mem_cons_of_mem _ h)
                  · have h2 := (hal q).1 h
                    have h3 := ((hFi.out _ _).1 hyF.out).1
                    omega
                have hl15 : Hid ((Q ++ l).length ≤ 1 + 1681 * (L ++ [hd]).length) := by
                  have := hql.out
                  simp only [Hid, List.length_append, List.length_cons, List.length_nil] at *
                  omega
                have hk15 : Hid (1700 * (40804 - (L ++ [hd]).length) + (Q ++ l).length < 1700 * (40804 - L.length) + (Q.length + 1)) := by
                  simp only [Hid, List.length_append, List.length_cons, List.length_nil]
                  omega
                clear hal hll hM14 hQ14 hgr14 hG15 hsl hz14 hgrz hmol13
                go_wp2_with fail
                go_roundg (1700 * (40804 - L.length) + (Q.length + 1))
                case measure => exact hk.out
                case rel => exact ⟨L ++ [hd], Q ++ l, A15, c15, by rw [List.length_append], hQ15, hM15, hF15, hn15, hl15, hk15, hb15, hgr15⟩
          · have hno : F hd.x hd.y = false := by
              rcases hf : F hd.x hd.y with _ | _
              · rfl
              · have := ((hFi.out _ _).1 hf).2
                rw [this] at hv2; cases hv2
            rw [hv2] at hlk2
            replace hno := hide hno
            clear hl5 hh5 hS5 hIn hv2
            go_wp2_with fail
            go_roundg (1700 * (40804 - L.length) + (Q.length + 1))
            case measure => exact hk.out
            case rel => exact ⟨L, Q, A', cq - 1, rfl, hQ, hM, hFlo.out.skip hFs.out (.inr hno.out), fun q hq => hnr.out q (List.mem_cons_of_mem _ hq), by have := hql.out; simp only [Hid, List.length_cons] at *; omega, by simp only [Hid]; omega, hbq, hgr⟩
        · have hxL := hide (show hd ∈ L by simpa [memL] using hv1)
          rw [hv1] at hlk1
          clear hv1 hl5 hh5 hS5 hIn hlk2
          go_wp2_with fail
          go_roundg (1700 * (40804 - L.length) + (Q.length + 1))
          case measure => exact hk.out
          case rel => exact ⟨L, Q, A', cq - 1, rfl, hQ, hM, hFlo.out.skip hFs.out (.inl hxL.out), fun q hq => hnr.out q (List.mem_cons_of_mem _ hq), by have := hql.out; simp only [Hid, List.length_cons] at *; omega, by simp only [Hid]; omega, hbq, hgr⟩

end Go.Proofs.YtgcpegjggakemaaGreatDoor

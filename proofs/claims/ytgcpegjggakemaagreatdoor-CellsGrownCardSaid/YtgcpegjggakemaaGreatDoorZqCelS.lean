/- Contracts of functions that this seat's laws reach, each: what one call returns and what it leaves in memory; no condition beyond each theorem's own hypotheses. -/
import Derived.Test.YtgcpegjggakemaaGreatDoorZqMapLen
import Derived.Test.YtgcpegjggakemaaGreatDoorZqClosData
import Derived.Test.YtgcpegjggakemaaGreatDoorZqCelN
set_option linter.unusedVariables false
set_option linter.unusedSimpArgs false
namespace Go.Bl
open Go
/-- a range over a set: R are the cells still to come, V those that were there -/
structure Ran (S : Int → Int → Bool) (R : Pt → Prop) (V : Int → Int → Bool) : Prop where
  sub : ∀ x y, V x y = true → S x y = true
  rem : ∀ x y, (R ⟨x, y⟩ ↔ S x y = true ∧ V x y = false)

theorem Ran.start (S : Int → Int → Bool) : Ran S (fun k => S k.x k.y = true) (fun _ _ => false) := ⟨fun x y h => by simp at h, fun x y => by simp⟩

theorem Ran.next {S : Int → Int → Bool} {R : Pt → Prop} {V : Int → Int → Bool} (h : Ran S R V) {k : Pt} (hk : R k) : Ran S (fun z => R z ∧ z ≠ k) (fun x y => V x y || decide (x = k.x ∧ y = k.y)) := by
  cases k with | mk a b =>
  have hS := ((h.rem a b).1 hk).1
  refine ⟨fun x y hv => ?_, fun x y => ?_⟩
  · simp only [Bool.or_eq_true, decide_eq_true_eq] at hv
    rcases hv with hv | ⟨rfl, rfl⟩
    · exact h.sub x y hv
    · exact hS
  · rw [h.rem x y]
    by_cases e : x = a ∧ y = b
    · obtain ⟨rfl, rfl⟩ := e
      simp
    · have hne : (⟨x, y⟩ : Pt) ≠ ⟨a, b⟩ := by intro q; injection q with q1 q2; exact e ⟨q1, q2⟩
      simp [e, hne]

theorem Ran.done {S : Int → Int → Bool} {R : Pt → Prop} {V : Int → Int → Bool} (h : Ran S R V) (hn : ∀ k, ¬ R k) (x y : Int) : V x y = S x y := by
  cases hv : V x y
  · cases hS : S x y
    · rfl
    · exact absurd ((h.rem x y).2 ⟨hS, hv⟩) (hn _)
  · exact (h.sub x y hv).symm

end Go.Bl
namespace Go.Proofs.YtgcpegjggakemaaGreatDoor
open Go.RowKit Go.Bl Go.Maps Go.WideShapes

def Box2s (w : World) (xa xb : Nat) (x0 y0 x1 y1 : Int) : Prop := Box w xa 89 [.int .i64 x0, .int .i64 y0] ∧ Box w xb 89 [.int .i64 x1, .int .i64 y1]
section
variable {w w' : World} {xa xb : Nat} {x0 y0 x1 y1 : Int}

theorem Box2s.pure (h : Box2s w xa xb x0 y0 x1 y1) (hg : w.grownBy w' none) : Box2s w' xa xb x0 y0 x1 y1 := ⟨h.1.pure hg, h.2.pure hg⟩

theorem Box2s.cells (h : Box2s w xa xb x0 y0 x1 y1) :
    w.cell? ⟨xa, 0, none⟩ = some (.int .i64 x0) ∧ w.cell? ⟨xa, 1, none⟩ = some (.int .i64 y0) ∧ w.cell? ⟨xb, 0, none⟩ = some (.int .i64 x1) ∧ w.cell? ⟨xb, 1, none⟩ = some (.int .i64 y1) ∧
    w.frozen? ⟨xa, 0, none⟩ = false ∧ w.frozen? ⟨xa, 1, none⟩ = false ∧ w.frozen? ⟨xb, 0, none⟩ = false ∧ w.frozen? ⟨xb, 1, none⟩ = false :=
  ⟨(h.1.c 0 rfl).1, (h.1.c 1 rfl).1, (h.2.c 0 rfl).1, (h.2.c 1 rfl).1, (h.1.c 0 rfl).2, (h.1.c 1 rfl).2, (h.2.c 0 rfl).2, (h.2.c 1 rfl).2⟩

theorem Box2s.puta (h : Box2s w xa xb x0 y0 x1 y1) (hn : xa ≠ xb) (a b : Int) : Box2s ((w.setCell ⟨xa, 0, none⟩ (.int .i64 a)).setCell ⟨xa, 1, none⟩ (.int .i64 b)) xa xb a b x1 y1 :=
  ⟨box_set2 h.1 _ _, h.2.gr (set2_gr _ _) (by intro e; injection e with e; exact hn e)⟩

theorem Box2s.putb (h : Box2s w xa xb x0 y0 x1 y1) (hn : xa ≠ xb) (a b : Int) : Box2s ((w.setCell ⟨xb, 0, none⟩ (.int .i64 a)).setCell ⟨xb, 1, none⟩ (.int .i64 b)) xa xb x0 y0 a b :=
  ⟨h.1.gr (set2_gr _ _) (by intro e; injection e with e; exact hn e.symm), box_set2 h.2 _ _⟩

theorem Box2s.seta (h : Box2s w xa xb x0 y0 x1 y1) (hn : xa ≠ xb) : Box2s ((w.setCell ⟨xa, 0, none⟩ (.int .i64 x0)).setCell ⟨xa, 1, none⟩ (.int .i64 y0)) xa xb x0 y0 x1 y1 := h.puta hn x0 y0

theorem Box2s.setb (h : Box2s w xa xb x0 y0 x1 y1) (hn : xa ≠ xb) : Box2s ((w.setCell ⟨xb, 0, none⟩ (.int .i64 x1)).setCell ⟨xb, 1, none⟩ (.int .i64 y1)) xa xb x0 y0 x1 y1 := h.putb hn x1 y1
end

theorem spM_ok {S : Int → Int → Bool} (h : ∀ x y, S x y = true → okSp ⟨x, y⟩) {R : Pt → Prop} {V : Int → Int → Bool} (hr : Ran S R V) (hn : ∀ x, okSp x → ¬ R x) : ∀ k, ¬ R k := fun k hk => by
  cases k with | mk a b =>
  exact hn ⟨a, b⟩ (h a b ((hr.rem a b).1 hk).1) hk

theorem wpList_range_C (w : World) {ops : Array Oper} {rest : List Oper} {o : Oper} {a : Act} {Q : Exit → Act → World → Prop} (hg : o.guard = none) (mo : Operand) (hop : o.op = Op.range 92 mo) (b n : Nat) (S : Int → Int → Bool) (hm : a.eval mo = .map (some b)) (hown : SetAt w b n S)
    (hK : ∀ w' cnt, RangeOf spM w' b w.heap.size n (setC S) (fun k => S k.x k.y = true) cnt → w.grownBy w' none → w'.heap.size = w.heap.size + 1 ∧ cnt ≤ n → wpList Tryz.prog ops Q rest (a.put o.dst (.pointer (some ⟨w.heap.size, 0, none⟩))) w') :
    wpList Tryz.prog ops Q (o :: rest) a w := by
  refine wpList_range_M w spM hg mo _ hop Tryz.underlying92 b n (setC S) hm hown fun w' cnt h1 h2 h3 h4 => hK w' cnt (h1.congr fun x _ => ?_) h2 ⟨h3, h4⟩
  rw [setC_some]

theorem wpList_next_C (w : World) {ops : Array Oper} {rest : List Oper} {o : Oper} {a : Act} {Q : Exit → Act → World → Prop} (hg : o.guard = none) (it : Operand) (hop : o.op = Op.next it false) (b r n : Nat) (S : Int → Int → Bool) (R : Pt → Prop) (cnt : Nat)
    (hit : a.eval it = .pointer (some ⟨r, 0, none⟩)) (h : RangeOf spM w b r n (setC S) R cnt)
    (hDone : cnt = 0 → (∀ x, okSp x → ¬ R x) → wpList Tryz.prog ops Q rest (a.put o.dst (.tuple #[.bool false])) w)
    (hMore : ∀ (x y : Int) (w' : World) (cnt' : Nat), okSp ⟨x, y⟩ → R ⟨x, y⟩ → RangeOf spM w' b r n (setC S) (fun z => R z ∧ z ≠ ⟨x, y⟩) cnt' → cnt' < cnt →
      w.grownBy w' (some r) → (Instr.entry (.pointer (some ⟨r, 0, none⟩))).run Tryz.prog w' = .ok (.tuple #[.agg #[.int .i64 x, .int .i64 y], .bool true]) w' → wpList Tryz.prog ops Q rest (a.put o.dst (.tuple #[.bool true, .agg #[.int .i64 x, .int .i64 y], .bool true])) w') :
    wpList Tryz.prog ops Q (o :: rest) a w := by
  refine wpList_next_M w spM hg it hop b r n (setC S) R cnt hit h hDone ?_
  intro x c w' cnt' h1 h2 h3 h4 h5 h6 _ h8
  have hx : c = true := by
    unfold setC at h3
    by_cases h : S x.x x.y = true
    · simp [h] at h3; exact h3
    · simp [h] at h3
  subst hx
  exact hMore x.x x.y w' cnt' h1 h2 h4 h5 h6 h8

set_option maxHeartbeats 8000000 in
set_option maxRecDepth 100000 in
theorem span_any (b n : Nat) (S : Int → Int → Bool) (w : World) (hS : SetAt w b n S) (hok : ∀ x y, S x y = true → okSp ⟨x, y⟩) :
    Calls Tryz.prog 62 #[.map (some b)] w fun e w' => ∃ (s : Bool) (x0 y0 x1 y1 : Int), e = .returned (.tuple #[.agg #[.int .i64 x0, .int .i64 y0], .agg #[.int .i64 x1, .int .i64 y1], .bool s]) ∧ BoxSt S s x0 y0 x1 y1 ∧ w.grownBy w' none := by
  replace hok := hide hok
  go_enter Tryz.func62, Tryz.ntmps62
  go_upto_region 1 with fail
  obtain ⟨w2, hw2⟩ : ∃ x, x = ((w).alloc (.cells [.int .i64 0, .int .i64 0].toArray 89)).alloc (.cells [.int .i64 0, .int .i64 0].toArray 89) := ⟨_, rfl⟩
  have hba2 : Box w2 (w).heap.size 89 [.int .i64 0, .int .i64 0] := by
    rw [hw2]; exact (Box.new (w) [.int .i64 0, .int .i64 0] 89).pure (gr_alloc (World.grownBy.refl _ _) _)
  have hbb2 : Box w2 ((w).heap.size + 1) 89 [.int .i64 0, .int .i64 0] := by
    have h := Box.new ((w).alloc (.cells [.int .i64 0, .int .i64 0].toArray 89)) [.int .i64 0, .int .i64 0] 89
    rw [show ((w).alloc (.cells [.int .i64 0, .int .i64 0].toArray 89)).heap.size = (w).heap.size + 1 by simp] at h
    rw [hw2]; exact h
  have hg2 : (w).grownBy w2 none := by rw [hw2]; exact (by repeat (first | exact World.grownBy.refl _ _ | assumption | refine gr_alloc ?_ _ | (apply gr_tail; assumption) | refine gr_drewN ?_ _ | refine gr_drew ?_))
  rw [← hw2]
  clear hw2
  obtain ⟨xb2, hxb2⟩ : ∃ x, x = (w).heap.size + 1 := ⟨_, rfl⟩
  rw [← hxb2] at hbb2 ⊢
  obtain ⟨xa2, hxa2⟩ : ∃ x, x = (w).heap.size := ⟨_, rfl⟩
  rw [← hxa2] at hba2 ⊢
  have hxn2 : xa2 ≠ xb2 := by omega
  replace hxa2 : (w).heap.size ≤ xa2 := by omega
  replace hxb2 : (w).heap.size ≤ xb2 := by omega
  have hS2 := hS.pure hg2
  have hbw : b < w.heap.size := hS.lt
  replace hS2 := hide hS2
  clear hS
  go_wp2_with (at_range; refine wpList_range_C _ rfl _ rfl b _ _ rfl hS2.out ?_; intro w5 cnt hR hg5 hs5)
  have hr0 : w2.heap.size ≤ w2.heap.size := Nat.le_refl _
  have hra : xa2 ≠ w2.heap.size := by have := hba2.lt; omega
  have hrb : xb2 ≠ w2.heap.size := by have := hbb2.lt; omega
  have hrw := hg2.size
  obtain ⟨r, hr⟩ : ∃ r, r = w2.heap.size := ⟨_, rfl⟩
  rw [← hr] at hR hra hrb ⊢
  have hr1 : w.heap.size ≤ r := by omega
  clear hr0 hrw hr
  replace hba2 := hba2.pure hg5
  replace hbb2 := hbb2.pure hg5
  have hgw := hg2.t hg5
  have hRan := hide (Ran.start S)
  have hst0 : BoxSt (fun _ _ => false) false 0 0 0 0 := .inl ⟨rfl, fun _ _ => rfl⟩
  clear hS2 hg5 hg2 hs5
  go_frame
  go_loopw [4] (fun v wr => ∃ (R : Pt → Prop) (V : Int → Int → Bool) (cn : Nat) (s : Bool) (x0 y0 x1 y1 : Int), v = .bool s ∧ RangeOf spM wr b r n (setC S) R cn ∧ Hid (Ran S R V) ∧ Hid (BoxSt V s x0 y0 x1 y1) ∧ Box wr xa2 89 [.int .i64 x0, .int .i64 y0] ∧ Box wr xb2 89 [.int .i64 x1, .int .i64 y1] ∧ w.grownBy wr none) (fun _ wr => wr.rangeLeft b r)
  case atStart => exact ⟨_, _, cnt, false, 0, 0, 0, 0, rfl, hR, hRan, hst0, hba2, hbb2, hgw⟩
  case round =>
    clear hR hRan hst0 hba2 hbb2 hgw
    obtain ⟨R, V, cn, s, x0, y0, x1, y1, rfl, hR, hRan, hst, hba, hbb, hgw⟩ := hrel
    have hleft := hR.left
    have hne := hR.ne
    go_wp2_with (at_next; refine wpList_next_C _ rfl _ rfl b r _ _ R cn rfl hR (fun h0 hnS => Hid.out ?_) (fun kx ky w7 cn7 hox hSx hR7 hlt7 hg7 hen => Hid.out ?_))
    · refine hide ?_
      have hall := hide (hRan.out.done (spM_ok hok.out hRan.out hnS))
      have hfin := hide (hst.out.congr hall.out)
      clear hnS hR hRan hst hall
      go_upto_region 7 with fail
      have hB0 : Box2s wr xa2 xb2 x0 y0 x1 y1 := ⟨hba, hbb⟩
      clear hba hbb
      refine wp_region_tree (fun wx => Box2s wx xa2 xb2 x0 y0 x1 y1) [1, 1, 2, 0, 0, 2] (.bl 0 (.bl 1 (.bl 2 (.ef 3 (.ef 4 (.bl 5 .done)))))) (by kernel_rfl) (by kernel_rfl) (hB0.pure (gr_drew (World.grownBy.refl _ _))) ?_
      obtain ⟨w5, hw5⟩ : ∃ x, x = (wr).drew := ⟨_, rfl⟩
      rw [← hw5]
      have hgw5 : (wr).grownBy w5 none := by rw [hw5]; exact gr_drew (World.grownBy.refl _ _)
      clear hw5
      have hB := hB0.pure hgw5
      replace hgw := hgw.t hgw5
      clear hgw5
      refine tree_b rfl rfl rfl rfl _ rfl (by simp) (fun K hK => ?_)
      apply Exists.intro
      refine ⟨fun wq hq K' hK' => ?_, ?_⟩
      · obtain ⟨l0, l1, h0, h1, -⟩ := hq.cells
        go_wp2_with fail
        exact hK'
      go_simp
      refine hK _ ?_
      clear hK K
      refine tree_b rfl rfl rfl rfl _ rfl (by simp) (fun K hK => ?_)
      apply Exists.intro
      refine ⟨fun wq hq K' hK' => ?_, ?_⟩
      · obtain ⟨l0, l1, h0, h1, -⟩ := hq.cells
        go_wp2_with fail
        exact hK'
      go_simp
      refine hK _ ?_
      clear hK K
      refine tree_p rfl rfl rfl rfl _ rfl (by simp) (fun K hK => ?_)
      apply Exists.intro
      refine ⟨fun wq K' hK' => ?_, ?_⟩
      · go_wp2_with fail
        exact hK'
      go_simp
      refine hK _ ?_
      clear hK K
      refine tree_e rfl rfl (fun K hK => ?_)
      obtain ⟨l0, l1, h0, h1, f0, f1, f2, f3⟩ := hB.cells
      go_wp2_with fail
      try go_simp
      refine hK _ _ (hB.seta hxn2) ?_
      clear hK K
      replace hgw := gr_new hgw (set2_gr (w := w5) (g := xa2) (.int .i64 x0) (.int .i64 y0)) hxa2
      replace hB := hB.seta hxn2
      generalize (w5.setCell ⟨xa2, 0, none⟩ (.int .i64 x0)).setCell ⟨xa2, 1, none⟩ (.int .i64 y0) = w6 at *
      clear l0 l1 h0 h1 f0 f1 f2 f3
      refine tree_e0 (by kernel_rfl) rfl rfl (fun K hK => ?_)
      obtain ⟨l0, l1, h0, h1, f0, f1, f2, f3⟩ := hB.cells
      go_wp2_with fail
      try go_simp
      refine hK _ _ trivial ?_
      clear hK K
      refine tree_p rfl rfl rfl rfl _ rfl (by simp) (fun K hK => ?_)
      apply Exists.intro
      refine ⟨fun wq K' hK' => ?_, ?_⟩
      · go_wp2_with fail
        exact hK'
      go_simp
      refine hK _ ?_
      clear hK K
      refine tree_done ?_
      have hg5 := gr_new hgw (set2_gr (w := w6) (g := xb2) (.int .i64 x1) (.int .i64 y1)) hxb2
      have hB5 := hB.setb hxn2
      generalize (w6.setCell ⟨xb2, 0, none⟩ (.int .i64 x1)).setCell ⟨xb2, 1, none⟩ (.int .i64 y1) = w8 at *
      clear l0 l1 h0 h1 f0 f1 f2 f3 hB hgw
      obtain ⟨l0, l1, h0, h1, f0, f1, f2, f3⟩ := hB5.cells
      go_wp2_with fail
      exact bodyPost_ret (v := .tuple #[.agg #[.int .i64 x0, .int .i64 y0], .agg #[.int .i64 x1, .int .i64 y1], .bool s]) (by simp [results, Tryz.results62, go_sem, l0, l1, h0, h1, f0, f1, f2, f3]) rfl ⟨s, x0, y0, x1, y1, rfl, hfin.out, hg5⟩
    · refine hide ?_
      have hRn := hide (hRan.out.next hSx)
      have hB7 : Box2s w7 xa2 xb2 x0 y0 x1 y1 := ⟨hba.gr hg7 (by intro e; injection e with e; exact hra e.symm), hbb.gr hg7 (by intro e; injection e with e; exact hrb e.symm)⟩
      have hgw7 := gr_new hgw hg7 hr1
      clear hba hbb hR hRan hgw hg7 hSx
      go_upto_region 4 with fail
      clear hen
      obtain ⟨w5, hw5⟩ : ∃ x, x = (w7).alloc (.cells [.int .i64 kx, .int .i64 ky].toArray 89) := ⟨_, rfl⟩
      have hg5 : (w7).grownBy w5 none := by rw [hw5]; exact gr_alloc (World.grownBy.refl _ _) _
      have hb5 : Box w5 (w7).heap.size 89 [.int .i64 kx, .int .i64 ky] := by rw [hw5]; exact Box.new _ _ _
      have hxs5 := hb5.lt
      rw [← hw5]
      clear hw5
      obtain ⟨x5, hx5⟩ : ∃ x, x = (w7).heap.size := ⟨_, rfl⟩
      rw [← hx5] at hb5 hxs5 ⊢
      have hxl5 : (w7).heap.size ≤ x5 := by omega
      clear hx5
      have hR8 := hR7.kept hg5 (by simp) (by simp)
      have hB8 := hB7.pure hg5
      have hgw8 := hgw7.t hg5
      have hx5 : xa2 ≠ x5 ∧ xb2 ≠ x5 := by have := hB7.1.lt; have := hB7.2.lt; omega
      have hmea : cn7 < wr.rangeLeft b r := by rw [hleft]; exact hlt7
      clear hR7 hB7 hgw7 hg5 hleft
      cases s
      · have hV : ∀ u v, V u v = false := by
          rcases hst.out with ⟨-, h⟩ | ⟨h, -⟩
          · exact h
          · cases h
        have hB1 := hide (Box4.one (S := fun u v => V u v || decide (u = kx ∧ v = ky)) (a := kx) (b := ky) (fun u v => by rw [hV]; rfl))
        clear hst hV
        go_upto_region 5 with fail
        refine wp_region_tree (fun wx => Box wx x5 89 [.int .i64 kx, .int .i64 ky]) [1, 1, 0, 0, 2] (.bl 0 (.bl 1 (.ef 2 (.ef 3 (.bl 4 .done))))) (by kernel_rfl) (by kernel_rfl) (hb5.pure (gr_drew (World.grownBy.refl _ _))) ?_
        obtain ⟨v5, hv5⟩ : ∃ x, x = (w5).drew := ⟨_, rfl⟩
        rw [← hv5]
        have hgv5 : (w5).grownBy v5 none := by rw [hv5]; exact gr_drew (World.grownBy.refl _ _)
        clear hv5
        replace hb5 := hb5.pure hgv5
        replace hB8 := hB8.pure hgv5
        replace hR8 := hR8.kept hgv5 (by simp) (by simp)
        replace hgw8 := hgw8.t hgv5
        clear hgv5
        refine tree_b rfl rfl rfl rfl _ rfl (by simp) (fun K hK => ?_)
        apply Exists.intro
        refine ⟨fun wq hq K' hK' => ?_, ?_⟩
        · have q0 := (hq.c 0 rfl).1
          have q1 := (hq.c 1 rfl).1
          go_wp2_with fail
          exact hK'
        go_simp
        refine hK _ ?_
        clear hK K
        refine tree_b rfl rfl rfl rfl _ rfl (by simp) (fun K hK => ?_)
        apply Exists.intro
        refine ⟨fun wq hq K' hK' => ?_, ?_⟩
        · have q0 := (hq.c 0 rfl).1
          have q1 := (hq.c 1 rfl).1
          go_wp2_with fail
          exact hK'
        go_simp
        refine hK _ ?_
        clear hK K
        refine tree_e rfl rfl (fun K hK => ?_)
        obtain ⟨l0, l1, h0, h1, f0, f1, f2, f3⟩ := hB8.cells
        go_wp2_with fail
        try go_simp
        refine hK _ _ (hb5.gr (set2_gr _ _) (by intro e; injection e with e; exact hx5.1 e)) ?_
        clear hK K
        have hgs := set2_gr (w := v5) (g := xa2) (.int .i64 kx) (.int .i64 ky)
        replace hgw8 := gr_new hgw8 hgs hxa2
        replace hb5 := hb5.gr hgs (by intro e; injection e with e; exact hx5.1 e)
        replace hB8 := hB8.puta hxn2 kx ky
        replace hR8 := hR8.kept hgs (by intro e; injection e; omega) (by intro e; injection e with e; exact hra e)
        clear hgs l0 l1 h0 h1 f0 f1 f2 f3
        generalize (v5.setCell ⟨xa2, 0, none⟩ (.int .i64 kx)).setCell ⟨xa2, 1, none⟩ (.int .i64 ky) = v6 at *
        refine tree_e0 (by kernel_rfl) rfl rfl (fun K hK => ?_)
        obtain ⟨l0, l1, h0, h1, f0, f1, f2, f3⟩ := hB8.cells
        go_wp2_with fail
        try go_simp
        refine hK _ _ trivial ?_
        clear hK K
        have hgs := set2_gr (w := v6) (g := xb2) (.int .i64 kx) (.int .i64 ky)
        replace hgw8 := gr_new hgw8 hgs hxb2
        replace hb5 := hb5.gr hgs (by intro e; injection e with e; exact hx5.2 e)
        replace hB8 := hB8.putb hxn2 kx ky
        replace hR8 := hR8.kept hgs (by intro e; injection e; omega) (by intro e; injection e with e; exact hrb e)
        clear hgs l0 l1 h0 h1 f0 f1 f2 f3
        generalize (v6.setCell ⟨xb2, 0, none⟩ (.int .i64 kx)).setCell ⟨xb2, 1, none⟩ (.int .i64 ky) = v7 at *
        refine tree_p rfl rfl rfl rfl _ rfl (by simp) (fun K hK => ?_)
        apply Exists.intro
        refine ⟨fun wq K' hK' => ?_, ?_⟩
        · go_wp2_with fail
          exact hK'
        go_simp
        refine hK _ ?_
        clear hK K
        refine tree_done ?_
        go_upto_region 6 with fail
        refine wp_region_tree (fun wx => Box wx x5 89 [.int .i64 kx, .int .i64 ky] ∧ Box wx xb2 89 [.int .i64 kx, .int .i64 ky]) [2, 0, 2, 1, 2, 2, 0, 2, 1, 2, 2, 2, 1, 2, 1, 2, 2, 1, 2, 1, 2, 2, 0, 0] (.bl 0 (.bl 2 (.bl 3 (.bl 5 (.bl 7 (.bl 8 (.bl 11 (.bl 12 (.bl 13 (.bl 14 (.bl 15 (.bl 16 (.bl 17 (.bl 18 (.bl 19 (.bl 20 (.bl 21 (.alt (.ef 1 (.bl 4 (.ef 6 (.bl 9 (.bl 10 (.ef 22 (.ef 23 .done))))))) (.ef 6 (.bl 9 (.ef 1 (.bl 4 (.bl 10 (.ef 22 (.ef 23 .done))))))))))))))))))))))))) (by kernel_rfl) (by kernel_rfl) (⟨hb5.pure (gr_drew (World.grownBy.refl _ _)), hB8.2.pure (gr_drew (World.grownBy.refl _ _))⟩) ?_
        obtain ⟨u1, hu1⟩ : ∃ x, x = (v7).drew := ⟨_, rfl⟩
        rw [← hu1]
        have hgu1 : (v7).grownBy u1 none := by rw [hu1]; exact gr_drew (World.grownBy.refl _ _)
        clear hu1
        replace hb5 := hb5.pure hgu1
        replace hB8 := hB8.pure hgu1
        replace hR8 := hR8.kept hgu1 (by simp) (by simp)
        replace hgw8 := hgw8.t hgu1
        clear hgu1
        refine tree_p rfl rfl rfl rfl _ rfl (by simp) (fun K hK => ?_)
        apply Exists.intro
        refine ⟨fun wq K' hK' => ?_, ?_⟩
        · go_wp2_with fail
          exact hK'
        go_simp
        refine hK _ ?_
        clear hK K
        refine tree_p rfl rfl rfl rfl _ rfl (by simp) (fun K hK => ?_)
        apply Exists.intro
        refine ⟨fun wq K' hK' => ?_, ?_⟩
        · go_wp2_with fail
          exact hK'
        go_simp
        refine hK _ ?_
        clear hK K
        refine tree_b rfl rfl rfl rfl _ rfl (by simp) (fun K hK => ?_)
        apply Exists.intro
        refine ⟨fun wq hq K' hK' => ?_, ?_⟩
        · have q0 := (hq.1.c 0 rfl).1
          have q1 := (hq.1.c 1 rfl).1
          have q2 := (hq.2.c 0 rfl).1
          have q3 := (hq.2.c 1 rfl).1
          go_wp2_with fail
          exact hK'
        go_simp
        refine hK _ ?_
        clear hK K
        refine tree_p rfl rfl rfl rfl _ rfl (by simp) (fun K hK => ?_)
        apply Exists.intro
        refine ⟨fun wq K' hK' => ?_, ?_⟩
        · go_wp2_with fail
          exact hK'
        go_simp
        refine hK _ ?_
        clear hK K
        refine tree_p rfl rfl rfl rfl _ rfl (by simp) (fun K hK => ?_)
        apply Exists.intro
        refine ⟨fun wq K' hK' => ?_, ?_⟩
        · go_wp2_with fail
          exact hK'
        go_simp
        refine hK _ ?_
        clear hK K
        refine tree_b rfl rfl rfl rfl _ rfl (by simp) (fun K hK => ?_)
        apply Exists.intro
        refine ⟨fun wq hq K' hK' => ?_, ?_⟩
        · have q0 := (hq.1.c 0 rfl).1
          have q1 := (hq.1.c 1 rfl).1
          have q2 := (hq.2.c 0 rfl).1
          have q3 := (hq.2.c 1 rfl).1
          go_wp2_with fail
          exact hK'
        go_simp
        refine hK _ ?_
        clear hK K
        refine tree_p rfl rfl rfl rfl _ rfl (by simp) (fun K hK => ?_)
        apply Exists.intro
        refine ⟨fun wq K' hK' => ?_, ?_⟩
        · go_wp2_with fail
          exact hK'
        go_simp
        refine hK _ ?_
        clear hK K
        refine tree_b rfl rfl rfl rfl _ rfl (by simp) (fun K hK => ?_)
        apply Exists.intro
        refine ⟨fun wq hq K' hK' => ?_, ?_⟩
        · have q0 := (hq.1.c 0 rfl).1
          have q1 := (hq.1.c 1 rfl).1
          have q2 := (hq.2.c 0 rfl).1
          have q3 := (hq.2.c 1 rfl).1
          go_wp2_with fail
          exact hK'
        go_simp
        refine hK _ ?_
        clear hK K
        refine tree_p rfl rfl rfl rfl _ rfl (by simp) (fun K hK => ?_)
        apply Exists.intro
        refine ⟨fun wq K' hK' => ?_, ?_⟩
        · go_wp2_with fail
          exact hK'
        go_simp
        refine hK _ ?_
        clear hK K
        refine tree_b rfl rfl rfl rfl _ rfl (by simp) (fun K hK => ?_)
        apply Exists.intro
        refine ⟨fun wq hq K' hK' => ?_, ?_⟩
        · have q0 := (hq.1.c 0 rfl).1
          have q1 := (hq.1.c 1 rfl).1
          have q2 := (hq.2.c 0 rfl).1
          have q3 := (hq.2.c 1 rfl).1
          go_wp2_with fail
          exact hK'
        go_simp
        refine hK _ ?_
        clear hK K
        refine tree_p rfl rfl rfl rfl _ rfl (by simp) (fun K hK => ?_)
        apply Exists.intro
        refine ⟨fun wq K' hK' => ?_, ?_⟩
        · go_wp2_with fail
          exact hK'
        go_simp
        refine hK _ ?_
        clear hK K
        refine tree_p rfl rfl rfl rfl _ rfl (by simp) (fun K hK => ?_)
        apply Exists.intro
        refine ⟨fun wq K' hK' => ?_, ?_⟩
        · go_wp2_with fail
          exact hK'
        go_simp
        refine hK _ ?_
        clear hK K
        refine tree_b rfl rfl rfl rfl _ rfl (by simp) (fun K hK => ?_)
        apply Exists.intro
        refine ⟨fun wq hq K' hK' => ?_, ?_⟩
        · have q0 := (hq.1.c 0 rfl).1
          have q1 := (hq.1.c 1 rfl).1
          have q2 := (hq.2.c 0 rfl).1
          have q3 := (hq.2.c 1 rfl).1
          go_wp2_with fail
          exact hK'
        go_simp
        refine hK _ ?_
        clear hK K
        refine tree_p rfl rfl rfl rfl _ rfl (by simp) (fun K hK => ?_)
        apply Exists.intro
        refine ⟨fun wq K' hK' => ?_, ?_⟩
        · go_wp2_with fail
          exact hK'
        go_simp
        refine hK _ ?_
        clear hK K
        refine tree_b rfl rfl rfl rfl _ rfl (by simp) (fun K hK => ?_)
        apply Exists.intro
        refine ⟨fun wq hq K' hK' => ?_, ?_⟩
        · have q0 := (hq.1.c 0 rfl).1
          have q1 := (hq.1.c 1 rfl).1
          have q2 := (hq.2.c 0 rfl).1
          have q3 := (hq.2.c 1 rfl).1
          go_wp2_with fail
          exact hK'
        go_simp
        refine hK _ ?_
        clear hK K
        refine tree_p rfl rfl rfl rfl _ rfl (by simp) (fun K hK => ?_)
        apply Exists.intro
        refine ⟨fun wq K' hK' => ?_, ?_⟩
        · go_wp2_with fail
          exact hK'
        go_simp
        refine hK _ ?_
        clear hK K
        refine tree_p rfl rfl rfl rfl _ rfl (by simp) (fun K hK => ?_)
        apply Exists.intro
        refine ⟨fun wq K' hK' => ?_, ?_⟩
        · go_wp2_with fail
          exact hK'
        go_simp
        refine hK _ ?_
        clear hK K
        refine tree_alt ?_ ?_
        · refine tree_e rfl rfl (fun K hK => ?_)
          obtain ⟨l0, l1, h0, h1, f0, f1, f2, f3⟩ := hB8.cells
          go_wp2_with fail
          try go_simp
          refine hK _ _ (⟨hb5, hB8.2⟩) ?_
          clear hK K
          clear l0 l1 h0 h1 f0 f1 f2 f3
          refine tree_p rfl rfl rfl rfl _ rfl (by simp) (fun K hK => ?_)
          apply Exists.intro
          refine ⟨fun wq K' hK' => ?_, ?_⟩
          · go_wp2_with fail
            exact hK'
          go_simp
          refine hK _ ?_
          clear hK K
          refine tree_e rfl rfl (fun K hK => ?_)
          obtain ⟨l0, l1, h0, h1, f0, f1, f2, f3⟩ := hB8.cells
          go_wp2_with fail
          try go_simp
          refine hK _ _ (⟨hb5, hB8.2⟩) ?_
          clear hK K
          clear l0 l1 h0 h1 f0 f1 f2 f3
          refine tree_p rfl rfl rfl rfl _ rfl (by simp) (fun K hK => ?_)
          apply Exists.intro
          refine ⟨fun wq K' hK' => ?_, ?_⟩
          · go_wp2_with fail
            exact hK'
          go_simp
          refine hK _ ?_
          clear hK K
          refine tree_p rfl rfl rfl rfl _ rfl (by simp) (fun K hK => ?_)
          apply Exists.intro
          refine ⟨fun wq K' hK' => ?_, ?_⟩
          · go_wp2_with fail
            exact hK'
          go_simp
          refine hK _ ?_
          clear hK K
          refine tree_e rfl rfl (fun K hK => ?_)
          obtain ⟨l0, l1, h0, h1, f0, f1, f2, f3⟩ := hB8.cells
          go_wp2_with fail
          try go_simp
          refine hK _ _ (⟨hb5.gr (set2_gr _ _) (by intro e; injection e with e; exact hx5.1 e), hB8.2.gr (set2_gr _ _) (by intro e; injection e with e; exact hxn2 e)⟩) ?_
          clear hK K
          obtain ⟨u2, hu2⟩ : ∃ x, x = (u1.setCell ⟨xa2, 0, none⟩ (.int .i64 (min kx kx))).setCell ⟨xa2, 1, none⟩ (.int .i64 (min ky ky)) := ⟨_, rfl⟩
          have hgs : u1.grownBy u2 (some xa2) := by rw [hu2]; exact set2_gr _ _
          replace hgw8 := gr_new hgw8 hgs hxa2
          replace hB8 : Box2s u2 xa2 xb2 (min kx kx) (min ky ky) kx ky := by rw [hu2]; exact hB8.puta hxn2 _ _
          replace hR8 := hR8.kept hgs (by intro e; injection e; omega) (by intro e; injection e with e; exact hra e)
          try simp only [Int.min_self] at hu2
          rw [← hu2]
          clear hgs hu2 hb5 l0 l1 h0 h1 f0 f1 f2 f3
          refine tree_e0 (by kernel_rfl) rfl rfl (fun K hK => ?_)
          obtain ⟨l0, l1, h0, h1, f0, f1, f2, f3⟩ := hB8.cells
          go_wp2_with fail
          try go_simp
          refine hK _ _ trivial ?_
          clear hK K
          refine tree_done ?_
          obtain ⟨u3, hu3⟩ : ∃ x, x = (u2.setCell ⟨xb2, 0, none⟩ (.int .i64 (max kx kx))).setCell ⟨xb2, 1, none⟩ (.int .i64 (max ky ky)) := ⟨_, rfl⟩
          have hgs : u2.grownBy u3 (some xb2) := by rw [hu3]; exact set2_gr _ _
          replace hgw8 := gr_new hgw8 hgs hxb2
          replace hB8 : Box2s u3 xa2 xb2 (min kx kx) (min ky ky) (max kx kx) (max ky ky) := by rw [hu3]; exact hB8.putb hxn2 _ _
          replace hR8 := hR8.kept hgs (by intro e; injection e; omega) (by intro e; injection e with e; exact hrb e)
          try simp only [Int.max_self] at hu3
          rw [← hu3]
          clear hgs hu3 l0 l1 h0 h1 f0 f1 f2 f3
          have hfin : Hid (BoxSt (fun u v => V u v || decide (u = kx ∧ v = ky)) true (min kx kx) (min ky ky) (max kx kx) (max ky ky)) := by
            have h := hB1.out
            refine .inr ⟨rfl, ?_⟩
            first | exact h | (simp only [Int.min_self, Int.max_self]; exact h)
          have hm3 : u3.rangeLeft b r < wr.rangeLeft b r := by rw [hR8.left]; exact hmea
          go_wp2_with fail
          go_roundw
          case rel => exact ⟨_, _, cn7, true, _, _, _, _, rfl, hR8, hRn, hfin, hB8.1, hB8.2, hgw8⟩
          case measure => exact hm3
        · refine tree_e rfl rfl (fun K hK => ?_)
          obtain ⟨l0, l1, h0, h1, f0, f1, f2, f3⟩ := hB8.cells
          go_wp2_with fail
          try go_simp
          refine hK _ _ (⟨hb5, hB8.2⟩) ?_
          clear hK K
          clear l0 l1 h0 h1 f0 f1 f2 f3
          refine tree_p rfl rfl rfl rfl _ rfl (by simp) (fun K hK => ?_)
          apply Exists.intro
          refine ⟨fun wq K' hK' => ?_, ?_⟩
          · go_wp2_with fail
            exact hK'
          go_simp
          refine hK _ ?_
          clear hK K
          refine tree_e rfl rfl (fun K hK => ?_)
          obtain ⟨l0, l1, h0, h1, f0, f1, f2, f3⟩ := hB8.cells
          go_wp2_with fail
          try go_simp
          refine hK _ _ (⟨hb5, hB8.2⟩) ?_
          clear hK K
          clear l0 l1 h0 h1 f0 f1 f2 f3
          refine tree_p rfl rfl rfl rfl _ rfl (by simp) (fun K hK => ?_)
          apply Exists.intro
          refine ⟨fun wq K' hK' => ?_, ?_⟩
          · go_wp2_with fail
            exact hK'
          go_simp
          refine hK _ ?_
          clear hK K
          refine tree_p rfl rfl rfl rfl _ rfl (by simp) (fun K hK => ?_)
          apply Exists.intro
          refine ⟨fun wq K' hK' => ?_, ?_⟩
          · go_wp2_with fail
            exact hK'
          go_simp
          refine hK _ ?_
          clear hK K
          refine tree_e rfl rfl (fun K hK => ?_)
          obtain ⟨l0, l1, h0, h1, f0, f1, f2, f3⟩ := hB8.cells
          go_wp2_with fail
          try go_simp
          refine hK _ _ (⟨hb5.gr (set2_gr _ _) (by intro e; injection e with e; exact hx5.1 e), hB8.2.gr (set2_gr _ _) (by intro e; injection e with e; exact hxn2 e)⟩) ?_
          clear hK K
          obtain ⟨u2, hu2⟩ : ∃ x, x = (u1.setCell ⟨xa2, 0, none⟩ (.int .i64 (min kx kx))).setCell ⟨xa2, 1, none⟩ (.int .i64 (min ky ky)) := ⟨_, rfl⟩
          have hgs : u1.grownBy u2 (some xa2) := by rw [hu2]; exact set2_gr _ _
          replace hgw8 := gr_new hgw8 hgs hxa2
          replace hB8 : Box2s u2 xa2 xb2 (min kx kx) (min ky ky) kx ky := by rw [hu2]; exact hB8.puta hxn2 _ _
          replace hR8 := hR8.kept hgs (by intro e; injection e; omega) (by intro e; injection e with e; exact hra e)
          try simp only [Int.min_self] at hu2
          rw [← hu2]
          clear hgs hu2 hb5 l0 l1 h0 h1 f0 f1 f2 f3
          refine tree_e0 (by kernel_rfl) rfl rfl (fun K hK => ?_)
          obtain ⟨l0, l1, h0, h1, f0, f1, f2, f3⟩ := hB8.cells
          go_wp2_with fail
          try go_simp
          refine hK _ _ trivial ?_
          clear hK K
          refine tree_done ?_
          obtain ⟨u3, hu3⟩ : ∃ x, x = (u2.setCell ⟨xb2, 0, none⟩ (.int .i64 (max kx kx))).setCell ⟨xb2, 1, none⟩ (.int .i64 (max ky ky)) := ⟨_, rfl⟩
          have hgs : u2.grownBy u3 (some xb2) := by rw [hu3]; exact set2_gr _ _
          replace hgw8 := gr_new hgw8 hgs hxb2
          replace hB8 : Box2s u3 xa2 xb2 (min kx kx) (min ky ky) (max kx kx) (max ky ky) := by rw [hu3]; exact hB8.putb hxn2 _ _
          replace hR8 := hR8.kept hgs (by intro e; injection e; omega) (by intro e; injection e with e; exact hrb e)
          try simp only [Int.max_self] at hu3
          rw [← hu3]
          clear hgs hu3 l0 l1 h0 h1 f0 f1 f2 f3
          have hfin : Hid (BoxSt (fun u v => V u v || decide (u = kx ∧ v = ky)) true (min kx kx) (min ky ky) (max kx kx) (max ky ky)) := by
            have h := hB1.out
            refine .inr ⟨rfl, ?_⟩
            first | exact h | (simp only [Int.min_self, Int.max_self]; exact h)
          have hm3 : u3.rangeLeft b r < wr.rangeLeft b r := by rw [hR8.left]; exact hmea
          go_wp2_with fail
          go_roundw
          case rel => exact ⟨_, _, cn7, true, _, _, _, _, rfl, hR8, hRn, hfin, hB8.1, hB8.2, hgw8⟩
          case measure => exact hm3
      · have hB1 : Box4 V x0 y0 x1 y1 := by
          rcases hst.out with ⟨h, -⟩ | ⟨-, h⟩
          · cases h
          · exact h
        have hB2 := hide (hB1.more (T := fun u v => V u v || decide (u = kx ∧ v = ky)) (a := kx) (b := ky) (fun u v => rfl))
        clear hst hB1
        go_upto_region 6 with fail
        refine wp_region_tree (fun wx => Box wx x5 89 [.int .i64 kx, .int .i64 ky] ∧ Box wx xb2 89 [.int .i64 x1, .int .i64 y1]) [2, 0, 2, 1, 2, 2, 0, 2, 1, 2, 2, 2, 1, 2, 1, 2, 2, 1, 2, 1, 2, 2, 0, 0] (.bl 0 (.bl 2 (.bl 3 (.bl 5 (.bl 7 (.bl 8 (.bl 11 (.bl 12 (.bl 13 (.bl 14 (.bl 15 (.bl 16 (.bl 17 (.bl 18 (.bl 19 (.bl 20 (.bl 21 (.alt (.ef 1 (.bl 4 (.ef 6 (.bl 9 (.bl 10 (.ef 22 (.ef 23 .done))))))) (.ef 6 (.bl 9 (.ef 1 (.bl 4 (.bl 10 (.ef 22 (.ef 23 .done))))))))))))))))))))))))) (by kernel_rfl) (by kernel_rfl) (⟨hb5.pure (gr_drew (World.grownBy.refl _ _)), hB8.2.pure (gr_drew (World.grownBy.refl _ _))⟩) ?_
        obtain ⟨u1, hu1⟩ : ∃ x, x = (w5).drew := ⟨_, rfl⟩
        rw [← hu1]
        have hgu1 : (w5).grownBy u1 none := by rw [hu1]; exact gr_drew (World.grownBy.refl _ _)
        clear hu1
        replace hb5 := hb5.pure hgu1
        replace hB8 := hB8.pure hgu1
        replace hR8 := hR8.kept hgu1 (by simp) (by simp)
        replace hgw8 := hgw8.t hgu1
        clear hgu1
        refine tree_p rfl rfl rfl rfl _ rfl (by simp) (fun K hK => ?_)
        apply Exists.intro
        refine ⟨fun wq K' hK' => ?_, ?_⟩
        · go_wp2_with fail
          exact hK'
        go_simp
        refine hK _ ?_
        clear hK K
        refine tree_p rfl rfl rfl rfl _ rfl (by simp) (fun K hK => ?_)
        apply Exists.intro
        refine ⟨fun wq K' hK' => ?_, ?_⟩
        · go_wp2_with fail
          exact hK'
        go_simp
        refine hK _ ?_
        clear hK K
        refine tree_b rfl rfl rfl rfl _ rfl (by simp) (fun K hK => ?_)
        apply Exists.intro
        refine ⟨fun wq hq K' hK' => ?_, ?_⟩
        · have q0 := (hq.1.c 0 rfl).1
          have q1 := (hq.1.c 1 rfl).1
          have q2 := (hq.2.c 0 rfl).1
          have q3 := (hq.2.c 1 rfl).1
          go_wp2_with fail
          exact hK'
        go_simp
        refine hK _ ?_
        clear hK K
        refine tree_p rfl rfl rfl rfl _ rfl (by simp) (fun K hK => ?_)
        apply Exists.intro
        refine ⟨fun wq K' hK' => ?_, ?_⟩
        · go_wp2_with fail
          exact hK'
        go_simp
        refine hK _ ?_
        clear hK K
        refine tree_p rfl rfl rfl rfl _ rfl (by simp) (fun K hK => ?_)
        apply Exists.intro
        refine ⟨fun wq K' hK' => ?_, ?_⟩
        · go_wp2_with fail
          exact hK'
        go_simp
        refine hK _ ?_
        clear hK K
        refine tree_b rfl rfl rfl rfl _ rfl (by simp) (fun K hK => ?_)
        apply Exists.intro
        refine ⟨fun wq hq K' hK' => ?_, ?_⟩
        · have q0 := (hq.1.c 0 rfl).1
          have q1 := (hq.1.c 1 rfl).1
          have q2 := (hq.2.c 0 rfl).1
          have q3 := (hq.2.c 1 rfl).1
          go_wp2_with fail
          exact hK'
        go_simp
        refine hK _ ?_
        clear hK K
        refine tree_p rfl rfl rfl rfl _ rfl (by simp) (fun K hK => ?_)
        apply Exists.intro
        refine ⟨fun wq K' hK' => ?_, ?_⟩
        · go_wp2_with fail
          exact hK'
        go_simp
        refine hK _ ?_
        clear hK K
        refine tree_b rfl rfl rfl rfl _ rfl (by simp) (fun K hK => ?_)
        apply Exists.intro
        refine ⟨fun wq hq K' hK' => ?_, ?_⟩
        · have q0 := (hq.1.c 0 rfl).1
          have q1 := (hq.1.c 1 rfl).1
          have q2 := (hq.2.c 0 rfl).1
          have q3 := (hq.2.c 1 rfl).1
          go_wp2_with fail
          exact hK'
        go_simp
        refine hK _ ?_
        clear hK K
        refine tree_p rfl rfl rfl rfl _ rfl (by simp) (fun K hK => ?_)
        apply Exists.intro
        refine ⟨fun wq K' hK' => ?_, ?_⟩
        · go_wp2_with fail
          exact hK'
        go_simp
        refine hK _ ?_
        clear hK K
        refine tree_b rfl rfl rfl rfl _ rfl (by simp) (fun K hK => ?_)
        apply Exists.intro
        refine ⟨fun wq hq K' hK' => ?_, ?_⟩
        · have q0 := (hq.1.c 0 rfl).1
          have q1 := (hq.1.c 1 rfl).1
          have q2 := (hq.2.c 0 rfl).1
          have q3 := (hq.2.c 1 rfl).1
          go_wp2_with fail
          exact hK'
        go_simp
        refine hK _ ?_
        clear hK K
        refine tree_p rfl rfl rfl rfl _ rfl (by simp) (fun K hK => ?_)
        apply Exists.intro
        refine ⟨fun wq K' hK' => ?_, ?_⟩
        · go_wp2_with fail
          exact hK'
        go_simp
        refine hK _ ?_
        clear hK K
        refine tree_p rfl rfl rfl rfl _ rfl (by simp) (fun K hK => ?_)
        apply Exists.intro
        refine ⟨fun wq K' hK' => ?_, ?_⟩
        · go_wp2_with fail
          exact hK'
        go_simp
        refine hK _ ?_
        clear hK K
        refine tree_b rfl rfl rfl rfl _ rfl (by simp) (fun K hK => ?_)
        apply Exists.intro
        refine ⟨fun wq hq K' hK' => ?_, ?_⟩
        · have q0 := (hq.1.c 0 rfl).1
          have q1 := (hq.1.c 1 rfl).1
          have q2 := (hq.2.c 0 rfl).1
          have q3 := (hq.2.c 1 rfl).1
          go_wp2_with fail
          exact hK'
        go_simp
        refine hK _ ?_
        clear hK K
        refine tree_p rfl rfl rfl rfl _ rfl (by simp) (fun K hK => ?_)
        apply Exists.intro
        refine ⟨fun wq K' hK' => ?_, ?_⟩
        · go_wp2_with fail
          exact hK'
        go_simp
        refine hK _ ?_
        clear hK K
        refine tree_b rfl rfl rfl rfl _ rfl (by simp) (fun K hK => ?_)
        apply Exists.intro
        refine ⟨fun wq hq K' hK' => ?_, ?_⟩
        · have q0 := (hq.1.c 0 rfl).1
          have q1 := (hq.1.c 1 rfl).1
          have q2 := (hq.2.c 0 rfl).1
          have q3 := (hq.2.c 1 rfl).1
          go_wp2_with fail
          exact hK'
        go_simp
        refine hK _ ?_
        clear hK K
        refine tree_p rfl rfl rfl rfl _ rfl (by simp) (fun K hK => ?_)
        apply Exists.intro
        refine ⟨fun wq K' hK' => ?_, ?_⟩
        · go_wp2_with fail
          exact hK'
        go_simp
        refine hK _ ?_
        clear hK K
        refine tree_p rfl rfl rfl rfl _ rfl (by simp) (fun K hK => ?_)
        apply Exists.intro
        refine ⟨fun wq K' hK' => ?_, ?_⟩
        · go_wp2_with fail
          exact hK'
        go_simp
        refine hK _ ?_
        clear hK K
        refine tree_alt ?_ ?_
        · refine tree_e rfl rfl (fun K hK => ?_)
          obtain ⟨l0, l1, h0, h1, f0, f1, f2, f3⟩ := hB8.cells
          go_wp2_with fail
          try go_simp
          refine hK _ _ (⟨hb5, hB8.2⟩) ?_
          clear hK K
          clear l0 l1 h0 h1 f0 f1 f2 f3
          refine tree_p rfl rfl rfl rfl _ rfl (by simp) (fun K hK => ?_)
          apply Exists.intro
          refine ⟨fun wq K' hK' => ?_, ?_⟩
          · go_wp2_with fail
            exact hK'
          go_simp
          refine hK _ ?_
          clear hK K
          refine tree_e rfl rfl (fun K hK => ?_)
          obtain ⟨l0, l1, h0, h1, f0, f1, f2, f3⟩ := hB8.cells
          go_wp2_with fail
          try go_simp
          refine hK _ _ (⟨hb5, hB8.2⟩) ?_
          clear hK K
          clear l0 l1 h0 h1 f0 f1 f2 f3
          refine tree_p rfl rfl rfl rfl _ rfl (by simp) (fun K hK => ?_)
          apply Exists.intro
          refine ⟨fun wq K' hK' => ?_, ?_⟩
          · go_wp2_with fail
            exact hK'
          go_simp
          refine hK _ ?_
          clear hK K
          refine tree_p rfl rfl rfl rfl _ rfl (by simp) (fun K hK => ?_)
          apply Exists.intro
          refine ⟨fun wq K' hK' => ?_, ?_⟩
          · go_wp2_with fail
            exact hK'
          go_simp
          refine hK _ ?_
          clear hK K
          refine tree_e rfl rfl (fun K hK => ?_)
          obtain ⟨l0, l1, h0, h1, f0, f1, f2, f3⟩ := hB8.cells
          go_wp2_with fail
          try go_simp
          refine hK _ _ (⟨hb5.gr (set2_gr _ _) (by intro e; injection e with e; exact hx5.1 e), hB8.2.gr (set2_gr _ _) (by intro e; injection e with e; exact hxn2 e)⟩) ?_
          clear hK K
          obtain ⟨u2, hu2⟩ : ∃ x, x = (u1.setCell ⟨xa2, 0, none⟩ (.int .i64 (min x0 kx))).setCell ⟨xa2, 1, none⟩ (.int .i64 (min y0 ky)) := ⟨_, rfl⟩
          have hgs : u1.grownBy u2 (some xa2) := by rw [hu2]; exact set2_gr _ _
          replace hgw8 := gr_new hgw8 hgs hxa2
          replace hB8 : Box2s u2 xa2 xb2 (min x0 kx) (min y0 ky) x1 y1 := by rw [hu2]; exact hB8.puta hxn2 _ _
          replace hR8 := hR8.kept hgs (by intro e; injection e; omega) (by intro e; injection e with e; exact hra e)
          try simp only [Int.min_self] at hu2
          rw [← hu2]
          clear hgs hu2 hb5 l0 l1 h0 h1 f0 f1 f2 f3
          refine tree_e0 (by kernel_rfl) rfl rfl (fun K hK => ?_)
          obtain ⟨l0, l1, h0, h1, f0, f1, f2, f3⟩ := hB8.cells
          go_wp2_with fail
          try go_simp
          refine hK _ _ trivial ?_
          clear hK K
          refine tree_done ?_
          obtain ⟨u3, hu3⟩ : ∃ x, x = (u2.setCell ⟨xb2, 0, none⟩ (.int .i64 (max x1 kx))).setCell ⟨xb2, 1, none⟩ (.int .i64 (max y1 ky)) := ⟨_, rfl⟩
          have hgs : u2.grownBy u3 (some xb2) := by rw [hu3]; exact set2_gr _ _
          replace hgw8 := gr_new hgw8 hgs hxb2
          replace hB8 : Box2s u3 xa2 xb2 (min x0 kx) (min y0 ky) (max x1 kx) (max y1 ky) := by rw [hu3]; exact hB8.putb hxn2 _ _
          replace hR8 := hR8.kept hgs (by intro e; injection e; omega) (by intro e; injection e with e; exact hrb e)
          try simp only [Int.max_self] at hu3
          rw [← hu3]
          clear hgs hu3 l0 l1 h0 h1 f0 f1 f2 f3
          have hfin : Hid (BoxSt (fun u v => V u v || decide (u = kx ∧ v = ky)) true (min x0 kx) (min y0 ky) (max x1 kx) (max y1 ky)) := by
            have h := hB2.out
            refine .inr ⟨rfl, ?_⟩
            first | exact h | (simp only [Int.min_self, Int.max_self]; exact h)
          have hm3 : u3.rangeLeft b r < wr.rangeLeft b r := by rw [hR8.left]; exact hmea
          go_wp2_with fail
          go_roundw
          case rel => exact ⟨_, _, cn7, true, _, _, _, _, rfl, hR8, hRn, hfin, hB8.1, hB8.2, hgw8⟩
          case measure => exact hm3
        · refine tree_e rfl rfl (fun K hK => ?_)
          obtain ⟨l0, l1, h0, h1, f0, f1, f2, f3⟩ := hB8.cells
          go_wp2_with fail
          try go_simp
          refine hK _ _ (⟨hb5, hB8.2⟩) ?_
          clear hK K
          clear l0 l1 h0 h1 f0 f1 f2 f3
          refine tree_p rfl rfl rfl rfl _ rfl (by simp) (fun K hK => ?_)
          apply Exists.intro
          refine ⟨fun wq K' hK' => ?_, ?_⟩
          · go_wp2_with fail
            exact hK'
          go_simp
          refine hK _ ?_
          clear hK K
          refine tree_e rfl rfl (fun K hK => ?_)
          obtain ⟨l0, l1, h0, h1, f0, f1, f2, f3⟩ := hB8.cells
          go_wp2_with fail
          try go_simp
          refine hK _ _ (⟨hb5, hB8.2⟩) ?_
          clear hK K
          clear l0 l1 h0 h1 f0 f1 f2 f3
          refine tree_p rfl rfl rfl rfl _ rfl (by simp) (fun K hK => ?_)
          apply Exists.intro
          refine ⟨fun wq K' hK' => ?_, ?_⟩
          · go_wp2_with fail
            exact hK'
          go_simp
          refine hK _ ?_
          clear hK K
          refine tree_p rfl rfl rfl rfl _ rfl (by simp) (fun K hK => ?_)
          apply Exists.intro
          refine ⟨fun wq K' hK' => ?_, ?_⟩
          · go_wp2_with fail
            exact hK'
          go_simp
          refine hK _ ?_
          clear hK K
          refine tree_e rfl rfl (fun K hK => ?_)
          obtain ⟨l0, l1, h0, h1, f0, f1, f2, f3⟩ := hB8.cells
          go_wp2_with fail
          try go_simp
          refine hK _ _ (⟨hb5.gr (set2_gr _ _) (by intro e; injection e with e; exact hx5.1 e), hB8.2.gr (set2_gr _ _) (by intro e; injection e with e; exact hxn2 e)⟩) ?_
          clear hK K
          obtain ⟨u2, hu2⟩ : ∃ x, x = (u1.setCell ⟨xa2, 0, none⟩ (.int .i64 (min x0 kx))).setCell ⟨xa2, 1, none⟩ (.int .i64 (min y0 ky)) := ⟨_, rfl⟩
          have hgs : u1.grownBy u2 (some xa2) := by rw [hu2]; exact set2_gr _ _
          replace hgw8 := gr_new hgw8 hgs hxa2
          replace hB8 : Box2s u2 xa2 xb2 (min x0 kx) (min y0 ky) x1 y1 := by rw [hu2]; exact hB8.puta hxn2 _ _
          replace hR8 := hR8.kept hgs (by intro e; injection e; omega) (by intro e; injection e with e; exact hra e)
          try simp only [Int.min_self] at hu2
          rw [← hu2]
          clear hgs hu2 hb5 l0 l1 h0 h1 f0 f1 f2 f3
          refine tree_e0 (by kernel_rfl) rfl rfl (fun K hK => ?_)
          obtain ⟨l0, l1, h0, h1, f0, f1, f2, f3⟩ := hB8.cells
          go_wp2_with fail
          try go_simp
          refine hK _ _ trivial ?_
          clear hK K
          refine tree_done ?_
          obtain ⟨u3, hu3⟩ : ∃ x, x = (u2.setCell ⟨xb2, 0, none⟩ (.int .i64 (max x1 kx))).setCell ⟨xb2, 1, none⟩ (.int .i64 (max y1 ky)) := ⟨_, rfl⟩
          have hgs : u2.grownBy u3 (some xb2) := by rw [hu3]; exact set2_gr _ _
          replace hgw8 := gr_new hgw8 hgs hxb2
          replace hB8 : Box2s u3 xa2 xb2 (min x0 kx) (min y0 ky) (max x1 kx) (max y1 ky) := by rw [hu3]; exact hB8.putb hxn2 _ _
          replace hR8 := hR8.kept hgs (by intro e; injection e; omega) (by intro e; injection e with e; exact hrb e)
          try simp only [Int.max_self] at hu3
          rw [← hu3]
          clear hgs hu3 l0 l1 h0 h1 f0 f1 f2 f3
          have hfin : Hid (BoxSt (fun u v => V u v || decide (u = kx ∧ v = ky)) true (min x0 kx) (min y0 ky) (max x1 kx) (max y1 ky)) := by
            have h := hB2.out
            refine .inr ⟨rfl, ?_⟩
            first | exact h | (simp only [Int.min_self, Int.max_self]; exact h)
          have hm3 : u3.rangeLeft b r < wr.rangeLeft b r := by rw [hR8.left]; exact hmea
          go_wp2_with fail
          go_roundw
          case rel => exact ⟨_, _, cn7, true, _, _, _, _, rfl, hR8, hRn, hfin, hB8.1, hB8.2, hgw8⟩
          case measure => exact hm3

end Go.Proofs.YtgcpegjggakemaaGreatDoor

/- Contracts of functions that this seat's laws reach, each: what one call returns and what it leaves in memory; no condition beyond each theorem's own hypotheses. -/
import Derived.Test.YtgcpegjggakemaaGreatDoorZqRepA
import Derived.Test.YtgcpegjggakemaaGreatDoorZqQueA
import Derived.Test.YtgcpegjggakemaaGreatDoorZqCntB
import Derived.Test.YtgcpegjggakemaaGreatDoorSortSpot
set_option linter.unusedVariables false
set_option linter.unusedSimpArgs false
namespace Go.Proofs.YtgcpegjggakemaaGreatDoor
open Go Go.RowKit Go.Bl Go.Sort Go.Lib Go.Maps Go.WideShapes

set_option maxRecDepth 100000 in
theorem insNilSp (w : World) (f : Value) : Calls Tryz.prog 223 #[.slice none 0 0, .int .i64 0, .int .i64 0, f] w fun e w' => e = .returned (.tuple #[]) ∧ w = w' := by
  go_enter Tryz.func223, Tryz.ntmps223
  go_wp2_with fail
  refine wp_loop_once ?_
  go_wp2_with fail
  go_end0
  exact ⟨rfl, rfl⟩

set_option maxRecDepth 100000 in
theorem pdqNilSp (w : World) (f : Value) : Calls Tryz.prog 185 #[.slice none 0 0, .int .i64 0, .int .i64 0, .int .i64 0, f] w fun e w' => e = .returned (.tuple #[]) ∧ w = w' := by
  go_enter Tryz.func185, Tryz.ntmps185
  go_wp2_with fail
  refine wp_loop_once ?_
  go_wp2_with (go_at_call 223; refine (insNilSp _ _).mono ?_; rintro e w' ⟨rfl, rfl⟩)
  first
    | (go_ret; exact ⟨rfl, rfl⟩)
    | exact bodyPost_ret (v := .tuple #[]) rfl rfl ⟨rfl, rfl⟩
    | exact bodyPost_ret (v := .tuple #[]) (by simp [results, Tryz.results185]) rfl ⟨rfl, rfl⟩

set_option maxRecDepth 100000 in
theorem sortNilSp (w : World) (f : Value) : Calls Tryz.prog 155 #[.slice none 0 0, f] w fun e w' => e = .returned (.tuple #[]) ∧ w = w' := by
  go_enter Tryz.func155, Tryz.ntmps155
  go_wp2_with fail
  refine (lenBitsS_any _).mono ?_
  rintro e w' ⟨rfl, rfl⟩
  go_wp2_with fail
  refine (pdqNilSp _ _).mono ?_
  rintro e w' ⟨rfl, rfl⟩
  go_wp2_with fail
  go_end0
  exact ⟨rfl, rfl⟩

set_option maxHeartbeats 2000000 in
set_option maxRecDepth 100000 in
theorem bySpot_any (a b : Pt) (w : World) :
    Calls Tryz.prog 156 #[.agg #[.int .i64 a.x, .int .i64 a.y], .agg #[.int .i64 b.x, .int .i64 b.y]] w fun e w' => e = .returned (.int .i64 (cmpPt a b)) ∧ Qt w w' := by
  have hC1 := hide fun W => Tryz.cmp_Compare_int a.y b.y W
  have hC2 := hide fun W => Tryz.cmp_Compare_int a.x b.x W
  have hR : Hid (orL [Lib.compareInt a.y b.y, Lib.compareInt a.x b.x] = cmpPt a b) := rfl
  obtain ⟨c1, hc1⟩ : ∃ q, q = Lib.compareInt a.y b.y := ⟨_, rfl⟩
  obtain ⟨c2, hc2⟩ : ∃ q, q = Lib.compareInt a.x b.x := ⟨_, rfl⟩
  rw [← hc1] at hC1 hR
  rw [← hc2] at hC2 hR
  clear hc1 hc2
  go_enter Tryz.func156, Tryz.ntmps156
  go_upto_region 1 with fail
  obtain ⟨w2, hw2⟩ : ∃ x, x = ((w).alloc (.cells [.int .i64 a.x, .int .i64 a.y].toArray 89)).alloc (.cells [.int .i64 b.x, .int .i64 b.y].toArray 89) := ⟨_, rfl⟩
  have hba2 : Box w2 (w).heap.size 89 [.int .i64 a.x, .int .i64 a.y] := by
    rw [hw2]; exact (Box.new (w) [.int .i64 a.x, .int .i64 a.y] 89).pure (gr_alloc (World.grownBy.refl _ _) _)
  have hbb2 : Box w2 ((w).heap.size + 1) 89 [.int .i64 b.x, .int .i64 b.y] := by
    have h := Box.new ((w).alloc (.cells [.int .i64 a.x, .int .i64 a.y].toArray 89)) [.int .i64 b.x, .int .i64 b.y] 89
    rw [show ((w).alloc (.cells [.int .i64 a.x, .int .i64 a.y].toArray 89)).heap.size = (w).heap.size + 1 by simp] at h
    rw [hw2]; exact h
  have hq2 : Qt (w) w2 := by rw [hw2]; exact (Qt.alloc _ _).trans (Qt.alloc _ _)
  rw [← hw2]
  clear hw2
  obtain ⟨xb2, hxb2⟩ : ∃ x, x = (w).heap.size + 1 := ⟨_, rfl⟩
  rw [← hxb2] at hbb2 ⊢
  obtain ⟨xa2, hxa2⟩ : ∃ x, x = (w).heap.size := ⟨_, rfl⟩
  rw [← hxa2] at hba2 ⊢
  clear hxa2 hxb2
  refine wp_region_tree (fun wx => Qt w2 wx) [2, 1, 2, 1, 0, 2, 1, 2, 1, 0, 0, 0, 2] (.bl 0 (.bl 1 (.bl 2 (.bl 3 (.bl 5 (.bl 6 (.bl 7 (.bl 8 (.ef 4 (.ef 9 (.ef 10 (.ef 11 (.bl 12 .done))))))))))))) (by kernel_rfl) (by kernel_rfl) (Qt.drew _) ?_
  obtain ⟨u0, hu0⟩ : ∃ x, x = (w2).drew := ⟨_, rfl⟩
  rw [← hu0]
  have hqu0 : Qt (w2) u0 := by rw [hu0]; exact Qt.drew _
  clear hu0
  refine tree_p rfl rfl rfl rfl _ rfl (by simp) (fun K hK => ?_)
  apply Exists.intro
  refine ⟨fun wq K' hK' => ?_, ?_⟩
  · go_wp2_with fail
    exact hK'
  go_simp
  refine hK _ ?_
  clear hK K
  refine tree_b rfl rfl rfl rfl _ rfl (by simp) (fun K hK => ?_)
  apply Exists.intro
  refine ⟨fun wq hq K' hK' => ?_, ?_⟩
  · obtain ⟨d0, -⟩ := (hba2.pure hq.g).c 0 rfl
    obtain ⟨d1, -⟩ := (hba2.pure hq.g).c 1 rfl
    obtain ⟨d2, -⟩ := (hbb2.pure hq.g).c 0 rfl
    obtain ⟨d3, -⟩ := (hbb2.pure hq.g).c 1 rfl
    go_wp2_with fail
    exact hK'
  go_simp
  refine hK _ ?_
  clear hK K
  refine tree_p rfl rfl rfl rfl _ rfl (by simp) (fun K hK => ?_)
  apply Exists.intro
  refine ⟨fun wq K' hK' => ?_, ?_⟩
  · go_wp2_with fail
    exact hK'
  go_simp
  refine hK _ ?_
  clear hK K
  refine tree_b rfl rfl rfl rfl _ rfl (by simp) (fun K hK => ?_)
  apply Exists.intro
  refine ⟨fun wq hq K' hK' => ?_, ?_⟩
  · obtain ⟨d0, -⟩ := (hba2.pure hq.g).c 0 rfl
    obtain ⟨d1, -⟩ := (hba2.pure hq.g).c 1 rfl
    obtain ⟨d2, -⟩ := (hbb2.pure hq.g).c 0 rfl
    obtain ⟨d3, -⟩ := (hbb2.pure hq.g).c 1 rfl
    go_wp2_with fail
    exact hK'
  go_simp
  refine hK _ ?_
  clear hK K
  refine tree_p rfl rfl rfl rfl _ rfl (by simp) (fun K hK => ?_)
  apply Exists.intro
  refine ⟨fun wq K' hK' => ?_, ?_⟩
  · go_wp2_with fail
    exact hK'
  go_simp
  refine hK _ ?_
  clear hK K
  refine tree_b rfl rfl rfl rfl _ rfl (by simp) (fun K hK => ?_)
  apply Exists.intro
  refine ⟨fun wq hq K' hK' => ?_, ?_⟩
  · obtain ⟨d0, -⟩ := (hba2.pure hq.g).c 0 rfl
    obtain ⟨d1, -⟩ := (hba2.pure hq.g).c 1 rfl
    obtain ⟨d2, -⟩ := (hbb2.pure hq.g).c 0 rfl
    obtain ⟨d3, -⟩ := (hbb2.pure hq.g).c 1 rfl
    go_wp2_with fail
    exact hK'
  go_simp
  refine hK _ ?_
  clear hK K
  refine tree_p rfl rfl rfl rfl _ rfl (by simp) (fun K hK => ?_)
  apply Exists.intro
  refine ⟨fun wq K' hK' => ?_, ?_⟩
  · go_wp2_with fail
    exact hK'
  go_simp
  refine hK _ ?_
  clear hK K
  refine tree_b rfl rfl rfl rfl _ rfl (by simp) (fun K hK => ?_)
  apply Exists.intro
  refine ⟨fun wq hq K' hK' => ?_, ?_⟩
  · obtain ⟨d0, -⟩ := (hba2.pure hq.g).c 0 rfl
    obtain ⟨d1, -⟩ := (hba2.pure hq.g).c 1 rfl
    obtain ⟨d2, -⟩ := (hbb2.pure hq.g).c 0 rfl
    obtain ⟨d3, -⟩ := (hbb2.pure hq.g).c 1 rfl
    go_wp2_with fail
    exact hK'
  go_simp
  refine hK _ ?_
  clear hK K
  refine tree_e rfl rfl (fun K hK => ?_)
  go_wp2_with fail
  refine (hC1.out u0).mono ?_
  rintro e wq ⟨rfl, hwq⟩
  rw [hwq]
  clear hwq wq
  go_wp2_with fail
  try go_simp
  refine hK _ _ (hqu0) ?_
  clear hK K
  refine tree_e0 (by kernel_rfl) rfl rfl (fun K hK => ?_)
  go_wp2_with fail
  refine (hC2.out u0).mono ?_
  rintro e wq ⟨rfl, hwq⟩
  rw [hwq]
  clear hwq wq
  go_wp2_with fail
  try go_simp
  refine hK _ _ trivial ?_
  clear hK K
  refine tree_e0 (by kernel_rfl) rfl rfl (fun K hK => ?_)
  go_wp2_with fail
  try go_simp
  refine hK _ _ trivial ?_
  clear hK K
  refine tree_e0 (by kernel_rfl) rfl rfl (fun K hK => ?_)
  go_wp2_with fail
  refine (orInt_any (some ⟨u0.heap.size, 0, none⟩) 2 2 [c1, c2] (u0.alloc (.cells #[.int .i64 c1, .int .i64 c2] 3)) (sl_intsAt _ _ _ _ _ rfl (Nat.zero_le _) (by simp [maxLen])) rfl).mono ?_
  rintro e wq ⟨rfl, hwq⟩
  rw [hwq]
  clear hwq wq
  go_wp2_with fail
  try go_simp
  refine hK _ _ trivial ?_
  clear hK K
  refine tree_p rfl rfl rfl rfl _ rfl (by simp) (fun K hK => ?_)
  apply Exists.intro
  refine ⟨fun wq K' hK' => ?_, ?_⟩
  · go_wp2_with fail
    exact hK'
  go_simp
  refine hK _ ?_
  clear hK K
  refine tree_done ?_
  go_wp2_with fail
  go_ret
  exact ⟨ret_int hR.out, hq2.trans (hqu0.trans (Qt.alloc _ _))⟩

theorem isAgg_sp (w : World) : (isAgg 89).run Tryz.prog w = .ok true w := Tryz.isAgg89 w

theorem sizeOf_sp (w : World) : (Go.sizeOf 89).run Tryz.prog w = .ok 2 w := Tryz.sizeOf89 w

set_option maxHeartbeats 1000000 in
theorem sortSp_any (A : Option Addr) (c : Nat) (lo : Nat) (l : List Pt) (w : World) (ho : Own w lo 89 A c l) (hl : l.length ≤ 1000000) :
    Calls Tryz.prog 155 #[.slice A l.length c, .func (.func 156) #[] #[]] w fun e w' => e = .returned (.tuple #[]) ∧ ∃ l' : List Pt, l'.Perm l ∧ (∀ i j (hi : i < l'.length) (hj : j < l'.length), i < j → ¬ (l'[j].y < l'[i].y ∨ l'[j].y = l'[i].y ∧ l'[j].x < l'[i].x)) ∧ Own w' lo 89 A c l' ∧ w.grownBy w' (blk A) := by
  rcases Own.cases ho with ⟨rfl, rfl, rfl⟩ | ⟨g, rfl⟩
  · refine (sortNilSp w _).mono ?_
    rintro e w' ⟨rfl, rfl⟩
    exact ⟨rfl, [], List.Perm.refl _, fun i j hi => by simp at hi, ho, World.grownBy.refl _ _⟩
  · have eg : ∀ args w, (callFunc 156 args).run Tryz.prog w = .ok (.enter 156 args) w := enters_of Tryz.func156 (by kernel_rfl) rfl
    have hsz : l.toArray.size < 4611686018427387904 := by
      simp only [List.size_toArray]; omega
    have hcon := AnyQ.slices_SortFunc Tryz.sortSpot 2 isAgg_sp sizeOf_sp EncL.e (fun x => EncL.len x) (fun x v hv => EncL.one x v hv) cmpPt swoPt 156 #[] g 0 c l.toArray w eg (fun m os dk _ x y => (bySpot_any x y _).mono fun _ _ h => ⟨h.1, h.2.eq⟩) ho.holds (ho.blk_lt rfl).2 hsz
    change Calls Tryz.prog 155 _ _ _ at hcon
    refine hcon.mono ?_
    rintro e w' ⟨rfl, d', n, os, hp, hs, rfl⟩
    obtain ⟨h1, h2, h3⟩ := ho.sorted (n := n) (os := os) hp
    refine ⟨rfl, d'.toList, h1, fun i j hi hj hij => ?_, h2, h3⟩
    have hsz2 : d'.size = l.length := by simpa using (permIn_all hp).2
    have := hs i j (Nat.zero_le _) hij (by simpa [hsz2] using hj)
    rw [ltPt] at this
    simp only [Array.length_toList] at hi hj
    rw [getElem!_pos d' i hi, getElem!_pos d' j hj] at this
    simpa using this

theorem setC_drop (S : Int → Int → Bool) (x y : Int) : (fun z => if z = (⟨x, y⟩ : Pt) then none else setC S z) = setC (fun u v => S u v && !decide (u = x ∧ v = y)) := by
  funext z
  cases z with | mk u v =>
  unfold setC
  by_cases h : u = x ∧ v = y
  · obtain ⟨rfl, rfl⟩ := h
    simp
  · simp only [Pt.mk.injEq, h, if_false, decide_false, Bool.not_false, Bool.and_true]

theorem SetAt.drop {w : World} {b n : Nat} {S : Int → Int → Bool} (h : SetAt w b n S) {x y : Int} (hx : okSp ⟨x, y⟩) (ty : TypeId) :
    ∃ w', (Builtin.delete_ #[92, 89] ty #[.map (some b), .agg #[.int .i64 x, .int .i64 y]]).run Tryz.prog w = .ok (.tuple #[]) w' ∧ SetAt w' b n (fun u v => S u v && !decide (u = x ∧ v = y)) ∧ w.grownBy w' (some b) := by
  obtain ⟨D, h1, h2⟩ := h
  obtain ⟨w', hrun, h3, h4⟩ := h1.drop sp_law Tryz.underlying92 (sp_key ⟨x, y⟩ hx) ty
  refine ⟨w', hrun, ?_, h4.grown⟩
  unfold SetAt
  rw [← setC_drop]
  refine ⟨_, h3, fun z hz => ?_⟩
  by_cases e : z = ⟨x, y⟩
  · subst e
    simp only [if_true]
    exact ⟨fun y' e => (by cases e), fun zd => atKey_del_same zd⟩
  · simp only [e, if_false]
    exact ⟨(h2 z hz).1, fun zd => (atKey_del_other (fun e' => e (spM.klinj hz hx e')) zd).trans ((h2 z hz).2 zd)⟩

set_option maxHeartbeats 4000000 in
set_option maxRecDepth 100000 in
theorem sortedSet_any (b : Nat) (S : Int → Int → Bool) (w : World) (hS : SetAt w b 1000000 S) (hbd : Hid (∀ x y, S x y = true → (-3000000 ≤ x ∧ x ≤ 3000000) ∧ -3000000 ≤ y ∧ y ≤ 3000000)) :
    Calls Tryz.prog 104 #[.map (some b)] w fun e w' => ∃ (A : Option Addr) (c : Nat) (l : List Pt), e = .returned (.slice A l.length c) ∧ Own w' w.heap.size 89 A c l ∧ l.Nodup ∧ (∀ p, p ∈ l ↔ S p.x p.y = true) ∧ (∀ i j (hi : i < l.length) (hj : j < l.length), i < j → ¬ (l[j].y < l[i].y ∨ l[j].y = l[i].y ∧ l[j].x < l[i].x)) ∧ l.length ≤ 1000000 ∧ w.grownBy w' none := by
  obtain ⟨i0, hi, hz, h1, h2⟩ := info_parts info_spot
  go_enter Tryz.func104, Tryz.ntmps104
  go_upto_region 2 with fail
  go_wp2_with (at_range; refine wpList_range_C _ rfl _ rfl b _ _ rfl hS ?_; intro w5 cnt hR hg5 hs5)
  obtain ⟨r, hr⟩ : ∃ r, r = w.heap.size := ⟨_, rfl⟩
  rw [← hr] at hR ⊢
  have hr1 : w.heap.size ≤ r := by omega
  clear hr
  have hgw := hg5
  have hRan := hide (RanL.start S)
  obtain ⟨-, hcnt⟩ := hs5
  have hbr : b < r := by have := hS.lt; omega
  clear hS hg5
  go_frame
  go_loopw [3] (fun v wr => ∃ (R : Pt → Prop) (l : List Pt) (cn : Nat) (A : Option Addr) (c : Nat), v = .slice A l.length c ∧ RangeOf spM wr b r 1000000 (setC S) R cn ∧ Hid (RanL S R l) ∧ Hid (cn + l.length ≤ 1000000) ∧ Own wr (r + 1) 89 A c l ∧ w.grownBy wr none) (fun _ wr => wr.rangeLeft b r)
  case atStart => exact ⟨_, [], cnt, none, 0, rfl, hR, hRan, by show cnt + 0 ≤ 1000000; omega, Own.nil _ _ _, hgw⟩
  case round =>
    clear hR hRan hgw hcnt
    obtain ⟨R, l, cn, A, c, rfl, hR, hRan, hcn, hO, hgw⟩ := hrel
    have hleft := hR.left
    have hne := hR.ne
    have hlr := hR.lt
    go_wp2_with (at_next; refine wpList_next_C _ rfl _ rfl b r _ _ R cn rfl hR (fun h0 hnS => Hid.out ?_) (fun kx ky w7 cn7 hox hSx hR7 hlt7 hg7 hen => Hid.out ?_))
    · refine hide ?_
      have hno : ∀ k, ¬ R k := fun k hk => by
        have hs := ((hRan.out.rem k).1 hk).1
        have := hbd.out _ _ hs
        exact hnS k (okSp_of (by omega) (by omega)) hk
      have hall := hide (hRan.out.done hno)
      have hnd := hide hRan.out.nd
      have hll : l.length ≤ 1000000 := by have := hcn.out; omega
      have hSo := hide (sortSp_any A c _ l wr hO hll)
      clear hnS hR hRan hno
      go_wp2_with fail
      refine hSo.out.mono ?_
      rintro e w8 ⟨rfl, l', hp, hs, hO8, hg8⟩
      have hl8 : l.length = l'.length := hp.length_eq.symm
      have hgy := gr_row hgw hg8 (fun g e => by have := (hO.blk_lt e).1; omega)
      have hnd8 := hide (hp.nodup_iff.2 hnd.out)
      have hm8 : Hid (∀ p, p ∈ l' ↔ S p.x p.y = true) := fun p => (hp.mem_iff).trans (hall.out p)
      replace hs := hide hs
      replace hl8 := hide hl8
      clear hSo hO hgw hp hg8
      go_wp2_with fail
      go_ret
      exact ⟨A, c, l', by rw [hl8.out]; rfl, hO8.lower (by omega), hnd8.out, hm8.out, hs.out, by rw [← hl8.out]; exact hll, hgy⟩
    · refine hide ?_
      have hRan2 := hide (hRan.out.next hSx)
      have hcn2 : Hid (cn7 + (l ++ [(⟨kx, ky⟩ : Pt)]).length ≤ 1000000) := by have := hcn.out; rw [Hid, List.length_append]; simp only [List.length_cons, List.length_nil]; omega
      have hll : l.length ≤ 1000000 := by have := hcn.out; omega
      have hgw7 := gr_new hgw hg7 hr1
      have hO7 := hO.keep hg7 (fun g e => by injection e with e; omega)
      clear hR hRan hcn hSx hgw hO hg7
      go_upto_region 5 with fail
      clear hen
      obtain ⟨w4, hw4⟩ : ∃ x, x = (w7).alloc (.cells [.int .i64 kx, .int .i64 ky].toArray 89) := ⟨_, rfl⟩
      have hg4 : (w7).grownBy w4 none := by rw [hw4]; exact gr_alloc (World.grownBy.refl _ _) _
      have hb4 : Box w4 (w7).heap.size 89 [.int .i64 kx, .int .i64 ky] := by rw [hw4]; exact Box.new _ _ _
      have hxs4 := hb4.lt
      rw [← hw4]
      clear hw4
      obtain ⟨x4, hx4⟩ : ∃ x, x = (w7).heap.size := ⟨_, rfl⟩
      rw [← hx4] at hb4 hxs4 ⊢
      have hxl4 : (w7).heap.size ≤ x4 := by omega
      clear hx4
      have hR8 := hR7.kept hg4 (by simp) (by simp)
      have hgw8 := hgw7.t hg4
      have hO8 := hO7.pure hg4
      have hgs : r + 1 ≤ w4.heap.size := by
        have := hg4.size
        have hq := hR7.lt
        omega
      obtain ⟨d0, -⟩ := hb4.c 0 rfl
      obtain ⟨d1, -⟩ := hb4.c 1 rfl
      clear hR7 hgw7 hO7 hb4 hg4 hxs4 hxl4
      go_wp2_with (at_builtin; refine wpList_pushAt (α := Pt) _ rfl (.tmp 11) (.tmp 13) _ rfl (r + 1) 89 i0 _ 16 Tryz.underlying122 hi hz h1 h2 rfl _ _ _ l rfl rfl (by exact hO8.pure (gr_alloc (World.grownBy.refl _ _) _)) 0 ⟨_, 0, none⟩ 1 1 [⟨kx, ky⟩] rfl rfl (by exact sl_oneAt _ 0 [.int .i64 kx, .int .i64 ky] _ _ _ (by first | rfl | simp) (Nat.zero_le _) rfl) ?d2 ?d3 ?d4 ?_)
      case d2 => first | omega | (simp; omega)
      case d3 => first | (simp [maxLen]; omega) | (unfold maxLen; omega)
      case d4 => first | omega | (simp; omega)
      intro A6 c6 w6 hO6 hG6
      have hga := gr_alloc (World.grownBy.refl w4 none) (.cells #[.int .i64 kx, .int .i64 ky] 89)
      have hnb : ∀ q, blk A = some q → r + 1 ≤ q := fun q e => ((hO8.pure hga).blk_lt e).1
      have hRN := (hR8.kept hga (by simp) (by simp)).kept hG6.1 (fun e => by have := hnb b e; omega) (fun e => by have := hnb r e; omega)
      have hgN := gr_row (hgw8.t hga) hG6.1 (fun g e => by have := hnb g e; omega)
      clear hR8 hgw8 hO8 hG6 hga hnb
      go_wp2_with fail
      go_roundw
      case rel => exact ⟨_, l ++ [⟨kx, ky⟩], cn7, A6, c6, by rw [List.length_append]; rfl, hRN, hRan2, hcn2, hO6, hgN⟩
      case measure => rw [hRN.left, hleft]; exact hlt7

end Go.Proofs.YtgcpegjggakemaaGreatDoor

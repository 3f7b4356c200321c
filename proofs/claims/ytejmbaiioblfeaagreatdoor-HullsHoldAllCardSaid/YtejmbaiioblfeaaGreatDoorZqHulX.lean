/- Contracts of functions that this seat's laws reach, each: what one call returns and what it leaves in memory; no condition beyond each theorem's own hypotheses. -/
import Derived.Test.YtejmbaiioblfeaaGreatDoorZqSortK
import Derived.Test.YtejmbaiioblfeaaGreatDoorSortSide
import Derived.Test.YtejmbaiioblfeaaGreatDoorShelf
import Derived.Test.YtejmbaiioblfeaaGreatDoorZqFlowD
import Derived.Test.YtejmbaiioblfeaaGreatDoorZqTree
import Derived.Test.YtejmbaiioblfeaaGreatDoorZqJm
set_option linter.unusedVariables false
set_option linter.unusedSimpArgs false
namespace Go.Proofs.YtejmbaiioblfeaaGreatDoor
open Go Go.RowKit Go.Bl Go.Sort Go.Lib

def lowX (s : Sid) : Int := min s.a.x s.b.x

def cmpSd (x y : Sid) : Int := compareInt (lowX x) (lowX y)

theorem ltSd (x y : Sid) : ltOf cmpSd x y = decide (lowX x < lowX y) := by
  unfold ltOf cmpSd compareInt
  by_cases h1 : lowX x < lowX y
  · simp [h1]
  · by_cases h2 : lowX y < lowX x <;> simp [h1, h2]

theorem swoSd : SWO (ltOf cmpSd) where
  irrefl x := by rw [ltSd]; simp
  trans x y z h1 h2 := by rw [ltSd] at *; simp at *; omega
  ntrans x y z h1 h2 := by rw [ltSd] at *; simp at *; omega

theorem isAgg_side (w : World) : (isAgg 86).run Tryz.prog w = .ok true w := Tryz.isAgg86 w

theorem sizeOf_side (w : World) : (Go.sizeOf 86).run Tryz.prog w = .ok 5 w := Tryz.sizeOf86 w

set_option maxHeartbeats 1000000 in
theorem cmpSide_any (x y : Sid) (W : World) : Calls Tryz.prog 72 #[.agg #[.int .i64 x.ring, .int .i64 x.a.x, .int .i64 x.a.y, .int .i64 x.b.x, .int .i64 x.b.y], .agg #[.int .i64 y.ring, .int .i64 y.a.x, .int .i64 y.a.y, .int .i64 y.b.x, .int .i64 y.b.y]] W fun e w' => e = .returned (.int .i64 (cmpSd x y)) ∧ ∃ q os', w' = grow (W.drewN q) os' := by
  have hcon := hide fun W' => Tryz.cmp_Compare_int (min x.a.x x.b.x) (min y.a.x y.b.x) W'
  have hV : Hid (cmpSd x y = compareInt (min x.a.x x.b.x) (min y.a.x y.b.x)) := rfl
  rw [← hV.out] at hcon
  generalize cmpSd x y = r at hcon hV ⊢
  generalize hm1 : min x.a.x x.b.x = m1 at *
  generalize hm2 : min y.a.x y.b.x = m2 at *
  go_enter Tryz.func72, Tryz.ntmps72
  go_wp2_with fail
  refine (hcon.out _).mono ?_
  rintro e w' ⟨rfl, rfl⟩
  go_wp2_with fail
  go_ret
  exact ⟨rfl, 0, _, by rw [alloc_eq_grow, alloc_eq_grow, grow_grow]; rfl⟩

set_option maxHeartbeats 1000000 in
theorem sortSide_any (g c : Nat) (lo : Nat) (l : List Sid) (w : World) (ho : Own w lo 86 (some ⟨g, 0, none⟩) c l) (hl : l.length ≤ 1000000) :
    Calls Tryz.prog 71 #[.slice (some ⟨g, 0, none⟩) l.length c, .func (.func 72) #[] #[]] w fun e w' => e = .returned (.tuple #[]) ∧ ∃ l' : List Sid, l'.Perm l ∧ (∀ i j (hi : i < l'.length) (hj : j < l'.length), i < j → lowX l'[i] ≤ lowX l'[j]) ∧ Own w' lo 86 (some ⟨g, 0, none⟩) c l' ∧ w.grownBy w' (some g) := by
  have eg : ∀ args w, (callFunc 72 args).run Tryz.prog w = .ok (.enter 72 args) w := enters_of Tryz.func72 (by kernel_rfl) rfl
  have hsz : l.toArray.size < 4611686018427387904 := by
    simp only [List.size_toArray]; omega
  have hcon := AnyQ.slices_SortFunc Tryz.sortSide 5 isAgg_side sizeOf_side EncL.e (fun x => EncL.len x) (fun x v hv => EncL.one x v hv) cmpSd swoSd 72 #[] g 0 c l.toArray w eg (fun m os dk _ x y => cmpSide_any x y _) ho.holds (ho.blk_lt rfl).2 hsz
  change Calls Tryz.prog 71 _ _ _ at hcon
  refine hcon.mono ?_
  rintro e w' ⟨rfl, d', n, os, hp, hs, rfl⟩
  obtain ⟨h1, h2, h3⟩ := ho.sorted (n := n) (os := os) hp
  refine ⟨rfl, d'.toList, h1, fun i j hi hj hij => ?_, h2, h3⟩
  have hsz2 : d'.size = l.length := by simpa using (permIn_all hp).2
  have := hs i j (Nat.zero_le _) hij (by simpa [hsz2] using hj)
  rw [ltSd] at this
  simp only [Array.length_toList] at hi hj
  rw [getElem!_pos d' i hi, getElem!_pos d' j hj] at this
  simp at this
  simpa using this

theorem lenBitsS_any (w : World) : Calls Tryz.prog 76 #[.int .u64 0] w fun e w' => e = .returned (.int .i64 0) ∧ w = w' :=
  (Tryz.bits_Len 0 w (by omega) (by omega)).mono fun _ _ ⟨he, hw⟩ => ⟨he, hw.symm⟩

set_option maxRecDepth 100000 in
theorem insNilS_any (w : World) (f : Value) : Calls Tryz.prog 117 #[.slice none 0 0, .int .i64 0, .int .i64 0, f] w fun e w' => e = .returned (.tuple #[]) ∧ w = w' := by
  go_enter Tryz.func117, Tryz.ntmps117
  go_wp2_with fail
  refine wp_loop_once ?_
  go_wp2_with fail
  go_end0
  exact ⟨rfl, rfl⟩

set_option maxRecDepth 100000 in
theorem pdqNilS_any (w : World) (f : Value) : Calls Tryz.prog 94 #[.slice none 0 0, .int .i64 0, .int .i64 0, .int .i64 0, f] w fun e w' => e = .returned (.tuple #[]) ∧ w = w' := by
  go_enter Tryz.func94, Tryz.ntmps94
  go_wp2_with fail
  refine wp_loop_once ?_
  go_wp2_with (go_at_call 117; refine (insNilS_any _ _).mono ?_; rintro e w' ⟨rfl, rfl⟩)
  first
    | (go_ret; exact ⟨rfl, rfl⟩)
    | exact bodyPost_ret (v := .tuple #[]) rfl rfl ⟨rfl, rfl⟩
    | exact bodyPost_ret (v := .tuple #[]) (by simp [results, Tryz.results94]) rfl ⟨rfl, rfl⟩

set_option maxRecDepth 100000 in
theorem sortNilS_any (w : World) (f : Value) : Calls Tryz.prog 71 #[.slice none 0 0, f] w fun e w' => e = .returned (.tuple #[]) ∧ w = w' := by
  go_enter Tryz.func71, Tryz.ntmps71
  go_wp2_with fail
  refine (lenBitsS_any _).mono ?_
  rintro e w' ⟨rfl, rfl⟩
  go_wp2_with fail
  refine (pdqNilS_any _ _).mono ?_
  rintro e w' ⟨rfl, rfl⟩
  go_wp2_with fail
  go_end0
  exact ⟨rfl, rfl⟩

theorem Own.cases {α : Type} [Enc α] {w : World} {lo : Nat} {e : TypeId} {A : Option Addr} {c : Nat} {l : List α} (h : Own w lo e A c l) : (A = none ∧ c = 0 ∧ l = []) ∨ ∃ g, A = some ⟨g, 0, none⟩ := by
  obtain ⟨_, cs, _, ho⟩ := h
  rcases ho.2 with ⟨h1, h2⟩ | ⟨g, cap, cur, hv, _⟩
  · injection h1 with h1 h3 h4
    exact .inl ⟨h1, h4, List.eq_nil_of_length_eq_zero h2⟩
  · injection hv with hv
    exact .inr ⟨g, hv⟩

theorem sortS_any (A : Option Addr) (c : Nat) (lo : Nat) (l : List Sid) (w : World) (ho : Own w lo 86 A c l) (hl : l.length ≤ 1000000) :
    Calls Tryz.prog 71 #[.slice A l.length c, .func (.func 72) #[] #[]] w fun e w' => e = .returned (.tuple #[]) ∧ ∃ l' : List Sid, l'.Perm l ∧ (∀ i j (hi : i < l'.length) (hj : j < l'.length), i < j → lowX l'[i] ≤ lowX l'[j]) ∧ Own w' lo 86 A c l' ∧ w.grownBy w' (blk A) := by
  rcases Own.cases ho with ⟨rfl, rfl, rfl⟩ | ⟨g, rfl⟩
  · refine (sortNilS_any w _).mono ?_
    rintro e w' ⟨rfl, rfl⟩
    exact ⟨rfl, [], List.Perm.refl _, fun i j hi => by simp at hi, ho, World.grownBy.refl _ _⟩
  · exact sortSide_any g c lo l w ho hl

end Go.Proofs.YtejmbaiioblfeaaGreatDoor

namespace Go.Bl
open Go

def cmpPt (a b : Pt) : Int := orL [Lib.compareInt a.y b.y, Lib.compareInt a.x b.x]

theorem cmpPt_neg (a b : Pt) : cmpPt a b < 0 ↔ a.y < b.y ∨ a.y = b.y ∧ a.x < b.x := by
  unfold cmpPt orL orL orL Lib.compareInt
  repeat' split
  all_goals first | omega | simp_all <;> omega

theorem ltPt (a b : Pt) : Go.Proofs.ltOf cmpPt a b = decide (a.y < b.y ∨ a.y = b.y ∧ a.x < b.x) := by
  unfold Go.Proofs.ltOf
  rw [decide_eq_decide, cmpPt_neg]

theorem swoPt : Go.Sort.SWO (Go.Proofs.ltOf cmpPt) where
  irrefl x := by rw [ltPt]; simp
  trans x y z h1 h2 := by rw [ltPt] at *; simp at *; omega
  ntrans x y z h1 h2 := by rw [ltPt] at *; simp only [decide_eq_false_iff_not] at *; omega
/-- a step that only draws and lays blocks -/
structure Qt (w w' : World) : Prop where
  g : w.grownBy w' none
  d : w.drawn ≤ w'.drawn

theorem Qt.refl (w : World) : Qt w w := ⟨World.grownBy.refl _ _, Nat.le_refl _⟩

theorem Qt.trans {w w' w'' : World} (h : Qt w w') (k : Qt w' w'') : Qt w w'' := ⟨gr_trans h.g k.g, Nat.le_trans h.d k.d⟩

theorem Qt.alloc (w : World) (o : Obj) : Qt w (w.alloc o) := ⟨gr_alloc (World.grownBy.refl _ _) _, by simp⟩

theorem Qt.drew (w : World) : Qt w w.drew := ⟨gr_drew (World.grownBy.refl _ _), by simp⟩

theorem Qt.drewN (w : World) (n : Nat) : Qt w (w.drewN n) := ⟨gr_drewN (World.grownBy.refl _ _) n, Nat.le_add_right _ _⟩

theorem Qt.eq {w w' : World} (h : Qt w w') : ∃ q os, w' = Go.Sort.grow (w.drewN q) os := by
  refine ⟨w'.drawn - w.drawn, w'.heap.extract w.heap.size w'.heap.size, ?_⟩
  obtain ⟨⟨h1, h2, h3, h4, h5⟩, h6⟩ := h
  obtain ⟨hp, tp, dr, os, op⟩ := w
  obtain ⟨hp', tp', dr', os', op'⟩ := w'
  simp only at h1 h2 h3 h4 h5 h6
  subst h1 h2 h3
  simp only [Go.Sort.grow, World.drewN, World.mk.injEq, true_and, and_true]
  refine ⟨?_, by omega⟩
  apply Array.ext_getElem?
  intro k
  rw [Array.getElem?_append]
  by_cases hk : k < hp.size
  · rw [if_pos hk]; exact h5 k hk (by simp)
  · rw [if_neg hk, Array.getElem?_extract]
    by_cases hk2 : k < hp'.size
    · rw [if_pos (by omega)]; congr 1; omega
    · rw [if_neg (by omega), Array.getElem?_eq_none (by omega)]

end Go.Bl
namespace Go.Proofs.YtejmbaiioblfeaaGreatDoor
open Go Go.RowKit Go.Bl

set_option maxHeartbeats 400000 in
theorem orInt_any (A : Option Addr) (n c : Nat) (l : List Int) (w : World) (hl : Sl w 0 A l) (hn : n = l.length) :
    Calls Tryz.prog 74 #[.slice A n c] w fun e w' => e = .returned (.int .i64 (orL l)) ∧ w' = w := by
  have hm := hl.1
  unfold maxLen at hm
  subst hn
  go_enter Tryz.func74, Tryz.ntmps74
  go_wp2
  go_loop [8] (fun i => ∃ k : Nat, k ≤ l.length ∧ i = .int .i64 k ∧ Hid (orL (l.drop k) = orL l)) (fun i => l.length - (intOf i).toNat)
  case atStart => exact ⟨0, Nat.zero_le _, rfl, rfl⟩
  case round =>
    obtain ⟨k, hk, rfl, hd⟩ := hrel
    by_cases hlt : k < l.length
    · obtain ⟨g, o, cx, rfl, hb0, hb1, rfl, hc⟩ := hl.at_ (by decide) hlt
      have c0 : w.cell? ⟨g, o + k, none⟩ = some (.int .i64 l[k]) := by have := hc 0 _ rfl; rwa [show Enc.sz Int = 1 from rfl, Nat.mul_one] at this
      clear hc
      by_cases hz : l[k] = 0
      · have HS : Hid (orL (l.drop (k + 1)) = orL l) := by have := hd.out; rw [orL_drop hlt, if_neg (by simp [hz])] at this; exact this
        have hb : (l[k] != 0) = false := by simp [hz]
        clear hz
        go_wp2
        go_round
        case rel => exact ⟨k + 1, by omega, by go_num, HS⟩
        case measure => simp [intOf]; omega
      · have HS : Hid (l[k] = orL l) := by have := hd.out; rw [orL_drop hlt, if_pos hz] at this; exact this
        have hb : (l[k] != 0) = true := by simp [hz]
        clear hz
        go_wp2
        go_ret
        exact ⟨ret_int HS.out, rfl⟩
    · have HS : Hid ((0 : Int) = orL l) := by have := hd.out; rw [List.drop_of_length_le (by omega)] at this; exact this
      go_wp2
      go_ret
      exact ⟨ret_int HS.out, rfl⟩

set_option maxHeartbeats 2000000 in
set_option maxRecDepth 100000 in
theorem comparePoints_any (a b : Pt) (w : World) :
    Calls Tryz.prog 36 #[.agg #[.int .i64 a.x, .int .i64 a.y], .agg #[.int .i64 b.x, .int .i64 b.y]] w fun e w' => e = .returned (.int .i64 (cmpPt a b)) ∧ Qt w w' := by
  have hC1 := hide fun W => Tryz.cmp_Compare_int a.y b.y W
  have hC2 := hide fun W => Tryz.cmp_Compare_int a.x b.x W
  have hR : Hid (orL [Lib.compareInt a.y b.y, Lib.compareInt a.x b.x] = cmpPt a b) := rfl
  obtain ⟨c1, hc1⟩ : ∃ q, q = Lib.compareInt a.y b.y := ⟨_, rfl⟩
  obtain ⟨c2, hc2⟩ : ∃ q, q = Lib.compareInt a.x b.x := ⟨_, rfl⟩
  rw [← hc1] at hC1 hR
  rw [← hc2] at hC2 hR
  clear hc1 hc2
  go_enter Tryz.func36, Tryz.ntmps36
  go_upto_region 1 with fail
  obtain ⟨w2, hw2⟩ : ∃ x, x = ((w).alloc (.cells [.int .i64 a.x, .int .i64 a.y].toArray 29)).alloc (.cells [.int .i64 b.x, .int .i64 b.y].toArray 29) := ⟨_, rfl⟩
  have hba2 : Box w2 (w).heap.size 29 [.int .i64 a.x, .int .i64 a.y] := by
    rw [hw2]; exact (Box.new (w) [.int .i64 a.x, .int .i64 a.y] 29).pure (gr_alloc (World.grownBy.refl _ _) _)
  have hbb2 : Box w2 ((w).heap.size + 1) 29 [.int .i64 b.x, .int .i64 b.y] := by
    have h := Box.new ((w).alloc (.cells [.int .i64 a.x, .int .i64 a.y].toArray 29)) [.int .i64 b.x, .int .i64 b.y] 29
    rw [show ((w).alloc (.cells [.int .i64 a.x, .int .i64 a.y].toArray 29)).heap.size = (w).heap.size + 1 by simp] at h
    rw [hw2]; exact h
  have hq2 : Qt (w) w2 := by rw [hw2]; exact (Qt.alloc _ _).trans (Qt.alloc _ _)
  rw [← hw2]
  clear hw2
  obtain ⟨xb2, hxb2⟩ : ∃ x, x = (w).heap.size + 1 := ⟨_, rfl⟩
  rw [← hxb2] at hbb2 ⊢
  obtain ⟨xa2, hxa2⟩ : ∃ x, x = (w).heap.size := ⟨_, rfl⟩
  rw [← hxa2] at hba2 ⊢
  clear hxa2 hxb2
  refine wp_region_tree (fun wx => Qt w2 wx) [2, 1, 2, 1, 0, 2, 1, 2, 1, 0, 0, 0, 2] (.bl 0 (.bl 1 (.bl 2 (.bl 3 (.bl 5 (.bl 6 (.bl 7 (.bl 8 (.ef 4 (.ef 9 (.ef 10 (.ef 11 (.bl 12 .done))))))))))))) (by kernel_rfl) (by kernel_rfl) (Qt.drew _) ?_
  obtain ⟨u0, hu0⟩ : ∃ x, x = (w2).drew := ⟨_, rfl⟩
  rw [← hu0]
  have hqu0 : Qt (w2) u0 := by rw [hu0]; exact Qt.drew _
  clear hu0
  refine tree_p rfl rfl rfl rfl _ rfl (by simp) (fun K hK => ?_)
  apply Exists.intro
  refine ⟨fun wq K' hK' => ?_, ?_⟩
  · go_wp2_with fail
    exact hK'
  go_simp
  refine hK _ ?_
  clear hK K
  refine tree_b rfl rfl rfl rfl _ rfl (by simp) (fun K hK => ?_)
  apply Exists.intro
  refine ⟨fun wq hq K' hK' => ?_, ?_⟩
  · obtain ⟨d0, -⟩ := (hba2.pure hq.g).c 0 rfl
    obtain ⟨d1, -⟩ := (hba2.pure hq.g).c 1 rfl
    obtain ⟨d2, -⟩ := (hbb2.pure hq.g).c 0 rfl
    obtain ⟨d3, -⟩ := (hbb2.pure hq.g).c 1 rfl
    go_wp2_with fail
    exact hK'
  go_simp
  refine hK _ ?_
  clear hK K
  refine tree_p rfl rfl rfl rfl _ rfl (by simp) (fun K hK => ?_)
  apply Exists.intro
  refine ⟨fun wq K' hK' => ?_, ?_⟩
  · go_wp2_with fail
    exact hK'
  go_simp
  refine hK _ ?_
  clear hK K
  refine tree_b rfl rfl rfl rfl _ rfl (by simp) (fun K hK => ?_)
  apply Exists.intro
  refine ⟨fun wq hq K' hK' => ?_, ?_⟩
  · obtain ⟨d0, -⟩ := (hba2.pure hq.g).c 0 rfl
    obtain ⟨d1, -⟩ := (hba2.pure hq.g).c 1 rfl
    obtain ⟨d2, -⟩ := (hbb2.pure hq.g).c 0 rfl
    obtain ⟨d3, -⟩ := (hbb2.pure hq.g).c 1 rfl
    go_wp2_with fail
    exact hK'
  go_simp
  refine hK _ ?_
  clear hK K
  refine tree_p rfl rfl rfl rfl _ rfl (by simp) (fun K hK => ?_)
  apply Exists.intro
  refine ⟨fun wq K' hK' => ?_, ?_⟩
  · go_wp2_with fail
    exact hK'
  go_simp
  refine hK _ ?_
  clear hK K
  refine tree_b rfl rfl rfl rfl _ rfl (by simp) (fun K hK => ?_)
  apply Exists.intro
  refine ⟨fun wq hq K' hK' => ?_, ?_⟩
  · obtain ⟨d0, -⟩ := (hba2.pure hq.g).c 0 rfl
    obtain ⟨d1, -⟩ := (hba2.pure hq.g).c 1 rfl
    obtain ⟨d2, -⟩ := (hbb2.pure hq.g).c 0 rfl
    obtain ⟨d3, -⟩ := (hbb2.pure hq.g).c 1 rfl
    go_wp2_with fail
    exact hK'
  go_simp
  refine hK _ ?_
  clear hK K
  refine tree_p rfl rfl rfl rfl _ rfl (by simp) (fun K hK => ?_)
  apply Exists.intro
  refine ⟨fun wq K' hK' => ?_, ?_⟩
  · go_wp2_with fail
    exact hK'
  go_simp
  refine hK _ ?_
  clear hK K
  refine tree_b rfl rfl rfl rfl _ rfl (by simp) (fun K hK => ?_)
  apply Exists.intro
  refine ⟨fun wq hq K' hK' => ?_, ?_⟩
  · obtain ⟨d0, -⟩ := (hba2.pure hq.g).c 0 rfl
    obtain ⟨d1, -⟩ := (hba2.pure hq.g).c 1 rfl
    obtain ⟨d2, -⟩ := (hbb2.pure hq.g).c 0 rfl
    obtain ⟨d3, -⟩ := (hbb2.pure hq.g).c 1 rfl
    go_wp2_with fail
    exact hK'
  go_simp
  refine hK _ ?_
  clear hK K
  refine tree_e rfl rfl (fun K hK => ?_)
  go_wp2_with fail
  refine (hC1.out u0).mono ?_
  rintro e wq ⟨rfl, hwq⟩
  rw [hwq]
  clear hwq wq
  go_wp2_with fail
  try go_simp
  refine hK _ _ (hqu0) ?_
  clear hK K
  refine tree_e0 (by kernel_rfl) rfl rfl (fun K hK => ?_)
  go_wp2_with fail
  refine (hC2.out u0).mono ?_
  rintro e wq ⟨rfl, hwq⟩
  rw [hwq]
  clear hwq wq
  go_wp2_with fail
  try go_simp
  refine hK _ _ trivial ?_
  clear hK K
  refine tree_e0 (by kernel_rfl) rfl rfl (fun K hK => ?_)
  go_wp2_with fail
  try go_simp
  refine hK _ _ trivial ?_
  clear hK K
  refine tree_e0 (by kernel_rfl) rfl rfl (fun K hK => ?_)
  go_wp2_with fail
  refine (orInt_any (some ⟨u0.heap.size, 0, none⟩) 2 2 [c1, c2] (u0.alloc (.cells #[.int .i64 c1, .int .i64 c2] 3)) (sl_intsAt _ _ _ _ _ rfl (Nat.zero_le _) (by simp [maxLen])) rfl).mono ?_
  rintro e wq ⟨rfl, hwq⟩
  rw [hwq]
  clear hwq wq
  go_wp2_with fail
  try go_simp
  refine hK _ _ trivial ?_
  clear hK K
  refine tree_p rfl rfl rfl rfl _ rfl (by simp) (fun K hK => ?_)
  apply Exists.intro
  refine ⟨fun wq K' hK' => ?_, ?_⟩
  · go_wp2_with fail
    exact hK'
  go_simp
  refine hK _ ?_
  clear hK K
  refine tree_done ?_
  go_wp2_with fail
  go_ret
  exact ⟨ret_int hR.out, hq2.trans (hqu0.trans (Qt.alloc _ _))⟩

end Go.Proofs.YtejmbaiioblfeaaGreatDoor

namespace Go.Proofs.YtejmbaiioblfeaaGreatDoor
open Go Go.RowKit Go.Bl

/-- none of the first k points lies lower -/
def LowTo (l : List Pt) (k : Nat) (p : Pt) : Prop := ∀ x ∈ l.take k, ¬ cmpPt x p < 0

def MinStep (v : Int) (l : List Pt) (k : Nat) (p q : Pt) : Prop := (v < 0 → LowTo l (k + 1) q) ∧ (¬ v < 0 → LowTo l (k + 1) p)

theorem cmp_irrefl (p : Pt) : ¬ cmpPt p p < 0 := by rw [cmpPt_neg]; omega

end Go.Proofs.YtejmbaiioblfeaaGreatDoor

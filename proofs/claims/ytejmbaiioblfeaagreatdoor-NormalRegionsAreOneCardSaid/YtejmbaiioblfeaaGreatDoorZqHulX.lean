/- Contracts of functions that this seat's laws reach, each: what one call returns and what it leaves in memory; no condition beyond each theorem's own hypotheses. -/
import Derived.Test.YtejmbaiioblfeaaGreatDoorZqSortK
import Derived.Test.YtejmbaiioblfeaaGreatDoorSortSide
import Derived.Test.YtejmbaiioblfeaaGreatDoorShelf
import Derived.Test.YtejmbaiioblfeaaGreatDoorZqFlowD
import Derived.Test.YtejmbaiioblfeaaGreatDoorZqTree
import Derived.Test.YtejmbaiioblfeaaGreatDoorZqJm
set_option linter.unusedVariables false
set_option linter.unusedSimpArgs false
namespace Go.Proofs.YtejmbaiioblfeaaGreatDoor
open Go Go.RowKit Go.Bl Go.Sort Go.Lib

def lowX (s : Sid) : Int := min s.a.x s.b.x

def cmpSd (x y : Sid) : Int := compareInt (lowX x) (lowX y)

theorem ltSd (x y : Sid) : ltOf cmpSd x y = decide (lowX x < lowX y) := by
  unfold ltOf cmpSd compareInt
  by_cases h1 : lowX x < lowX y
  · simp [h1]
  · by_cases h2 : lowX y < lowX x <;> simp [h1, h2]

theorem swoSd : SWO (ltOf cmpSd) where
  irrefl x := by rw [ltSd]; simp
  trans x y z h1 h2 := by rw [ltSd] at *; simp at *; omega
  ntrans x y z h1 h2 := by rw [ltSd] at *; simp at *; omega

theorem isAgg_side (w : World) : (isAgg 86).run Tryz.prog w = .ok true w := Tryz.isAgg86 w

theorem sizeOf_side (w : World) : (Go.sizeOf 86).run Tryz.prog w = .ok 5 w := Tryz.sizeOf86 w

set_option maxHeartbeats 1000000 in
theorem cmpSide_any (x y : Sid) (W : World) : Calls Tryz.prog 72 #[.agg #[.int .i64 x.ring, .int .i64 x.a.x, .int .i64 x.a.y, .int .i64 x.b.x, .int .i64 x.b.y], .agg #[.int .i64 y.ring, .int .i64 y.a.x, .int .i64 y.a.y, .int .i64 y.b.x, .int .i64 y.b.y]] W fun e w' => e = .returned (.int .i64 (cmpSd x y)) ∧ ∃ q os', w' = grow (W.drewN q) os' := by
  have hcon := hide fun W' => Tryz.cmp_Compare_int (min x.a.x x.b.x) (min y.a.x y.b.x) W'
  have hV : Hid (cmpSd x y = compareInt (min x.a.x x.b.x) (min y.a.x y.b.x)) := rfl
  rw [← hV.out] at hcon
  generalize cmpSd x y = r at hcon hV ⊢
  generalize hm1 : min x.a.x x.b.x = m1 at *
  generalize hm2 : min y.a.x y.b.x = m2 at *
  go_enter Tryz.func72, Tryz.ntmps72
  go_wp2_with fail
  refine (hcon.out _).mono ?_
  rintro e w' ⟨rfl, rfl⟩
  go_wp2_with fail
  go_ret
  exact ⟨rfl, 0, _, by rw [alloc_eq_grow, alloc_eq_grow, grow_grow]; rfl⟩

set_option maxHeartbeats 1000000 in
theorem sortSide_any (g c : Nat) (lo : Nat) (l : List Sid) (w : World) (ho : Own w lo 86 (some ⟨g, 0, none⟩) c l) (hl : l.length ≤ 1000000) :
    Calls Tryz.prog 71 #[.slice (some ⟨g, 0, none⟩) l.length c, .func (.func 72) #[] #[]] w fun e w' => e = .returned (.tuple #[]) ∧ ∃ l' : List Sid, l'.Perm l ∧ (∀ i j (hi : i < l'.length) (hj : j < l'.length), i < j → lowX l'[i] ≤ lowX l'[j]) ∧ Own w' lo 86 (some ⟨g, 0, none⟩) c l' ∧ w.grownBy w' (some g) := by
  have eg : ∀ args w, (callFunc 72 args).run Tryz.prog w = .ok (.enter 72 args) w := enters_of Tryz.func72 (by kernel_rfl) rfl
  have hsz : l.toArray.size < 4611686018427387904 := by
    simp only [List.size_toArray]; omega
  have hcon := AnyQ.slices_SortFunc Tryz.sortSide 5 isAgg_side sizeOf_side EncL.e (fun x => EncL.len x) (fun x v hv => EncL.one x v hv) cmpSd swoSd 72 #[] g 0 c l.toArray w eg (fun m os dk _ x y => cmpSide_any x y _) ho.holds (ho.blk_lt rfl).2 hsz
  change Calls Tryz.prog 71 _ _ _ at hcon
  refine hcon.mono ?_
  rintro e w' ⟨rfl, d', n, os, hp, hs, rfl⟩
  obtain ⟨h1, h2, h3⟩ := ho.sorted (n := n) (os := os) hp
  refine ⟨rfl, d'.toList, h1, fun i j hi hj hij => ?_, h2, h3⟩
  have hsz2 : d'.size = l.length := by simpa using (permIn_all hp).2
  have := hs i j (Nat.zero_le _) hij (by simpa [hsz2] using hj)
  rw [ltSd] at this
  simp only [Array.length_toList] at hi hj
  rw [getElem!_pos d' i hi, getElem!_pos d' j hj] at this
  simp at this
  simpa using this

theorem lenBitsS_any (w : World) : Calls Tryz.prog 76 #[.int .u64 0] w fun e w' => e = .returned (.int .i64 0) ∧ w = w' :=
  (Tryz.bits_Len 0 w (by omega) (by omega)).mono fun _ _ ⟨he, hw⟩ => ⟨he, hw.symm⟩

set_option maxRecDepth 100000 in
theorem insNilS_any (w : World) (f : Value) : Calls Tryz.prog 117 #[.slice none 0 0, .int .i64 0, .int .i64 0, f] w fun e w' => e = .returned (.tuple #[]) ∧ w = w' := by
  go_enter Tryz.func117, Tryz.ntmps117
  go_wp2_with fail
  refine wp_loop_once ?_
  go_wp2_with fail
  go_end0
  exact ⟨rfl, rfl⟩

set_option maxRecDepth 100000 in
theorem pdqNilS_any (w : World) (f : Value) : Calls Tryz.prog 94 #[.slice none 0 0, .int .i64 0, .int .i64 0, .int .i64 0, f] w fun e w' => e = .returned (.tuple #[]) ∧ w = w' := by
  go_enter Tryz.func94, Tryz.ntmps94
  go_wp2_with fail
  refine wp_loop_once ?_
  go_wp2_with (go_at_call 117; refine (insNilS_any _ _).mono ?_; rintro e w' ⟨rfl, rfl⟩)
  first
    | (go_ret; exact ⟨rfl, rfl⟩)
    | exact bodyPost_ret (v := .tuple #[]) rfl rfl ⟨rfl, rfl⟩
    | exact bodyPost_ret (v := .tuple #[]) (by simp [results, Tryz.results94]) rfl ⟨rfl, rfl⟩

set_option maxRecDepth 100000 in
theorem sortNilS_any (w : World) (f : Value) : Calls Tryz.prog 71 #[.slice none 0 0, f] w fun e w' => e = .returned (.tuple #[]) ∧ w = w' := by
  go_enter Tryz.func71, Tryz.ntmps71
  go_wp2_with fail
  refine (lenBitsS_any _).mono ?_
  rintro e w' ⟨rfl, rfl⟩
  go_wp2_with fail
  refine (pdqNilS_any _ _).mono ?_
  rintro e w' ⟨rfl, rfl⟩
  go_wp2_with fail
  go_end0
  exact ⟨rfl, rfl⟩

theorem Own.cases {α : Type} [Enc α] {w : World} {lo : Nat} {e : TypeId} {A : Option Addr} {c : Nat} {l : List α} (h : Own w lo e A c l) : (A = none ∧ c = 0 ∧ l = []) ∨ ∃ g, A = some ⟨g, 0, none⟩ := by
  obtain ⟨_, cs, _, ho⟩ := h
  rcases ho.2 with ⟨h1, h2⟩ | ⟨g, cap, cur, hv, _⟩
  · injection h1 with h1 h3 h4
    exact .inl ⟨h1, h4, List.eq_nil_of_length_eq_zero h2⟩
  · injection hv with hv
    exact .inr ⟨g, hv⟩

theorem sortS_any (A : Option Addr) (c : Nat) (lo : Nat) (l : List Sid) (w : World) (ho : Own w lo 86 A c l) (hl : l.length ≤ 1000000) :
    Calls Tryz.prog 71 #[.slice A l.length c, .func (.func 72) #[] #[]] w fun e w' => e = .returned (.tuple #[]) ∧ ∃ l' : List Sid, l'.Perm l ∧ (∀ i j (hi : i < l'.length) (hj : j < l'.length), i < j → lowX l'[i] ≤ lowX l'[j]) ∧ Own w' lo 86 A c l' ∧ w.grownBy w' (blk A) := by
  rcases Own.cases ho with ⟨rfl, rfl, rfl⟩ | ⟨g, rfl⟩
  · refine (sortNilS_any w _).mono ?_
    rintro e w' ⟨rfl, rfl⟩
    exact ⟨rfl, [], List.Perm.refl _, fun i j hi => by simp at hi, ho, World.grownBy.refl _ _⟩
  · exact sortSide_any g c lo l w ho hl

end Go.Proofs.YtejmbaiioblfeaaGreatDoor

namespace Go.Bl
open Go

def cmpPt (a b : Pt) : Int := orL [Lib.compareInt a.y b.y, Lib.compareInt a.x b.x]

theorem cmpPt_neg (a b : Pt) : cmpPt a b < 0 ↔ a.y < b.y ∨ a.y = b.y ∧ a.x < b.x := by
  unfold cmpPt orL orL orL Lib.compareInt
  repeat' split
  all_goals first | omega | simp_all <;> omega

theorem ltPt (a b : Pt) : Go.Proofs.ltOf cmpPt a b = decide (a.y < b.y ∨ a.y = b.y ∧ a.x < b.x) := by
  unfold Go.Proofs.ltOf
  rw [decide_eq_decide, cmpPt_neg]

theorem swoPt : Go.Sort.SWO (Go.Proofs.ltOf cmpPt) where
  irrefl x := by rw [ltPt]; simp
  trans x y z h1 h2 := by rw [ltPt] at *; simp at *; omega
  ntrans x y z h1 h2 := by rw [ltPt] at *; simp only [decide_eq_false_iff_not] at *; omega
/-- a step that only draws and lays blocks -/
structure Qt (w w' : World) : Prop where
  g : w.grownBy w' none
  d : w.drawn ≤ w'.drawn

theorem Qt.refl (w : World) : Qt w w := ⟨World.grownBy.refl _ _, Nat.le_refl _⟩

theorem Qt.trans {w w' w'' : World} (h : Qt w w') (k : Qt w' w'') : Qt w w'' := ⟨gr_trans h.g k.g, Nat.le_trans h.d k.d⟩

theorem Qt.alloc (w : World) (o : Obj) : Qt w (w.alloc o) := ⟨gr_alloc (World.grownBy.refl _ _) _, by simp⟩

theorem Qt.drew (w : World) : Qt w w.drew := ⟨gr_drew (World.grownBy.refl _ _), by simp⟩

theorem Qt.drewN (w : World) (n : Nat) : Qt w (w.drewN n) := ⟨gr_drewN (World.grownBy.refl _ _) n, Nat.le_add_right _ _⟩

theorem Qt.eq {w w' : World} (h : Qt w w') : ∃ q os, w' = Go.Sort.grow (w.drewN q) os := by
  refine ⟨w'.drawn - w.drawn, w'.heap.extract w.heap.size w'.heap.size, ?_⟩
  obtain ⟨⟨h1, h2, h3, h4, h5⟩, h6⟩ := h
  obtain ⟨hp, tp, dr, os, op⟩ := w
  obtain ⟨hp', tp', dr', os', op'⟩ := w'
  simp only at h1 h2 h3 h4 h5 h6
  subst h1 h2 h3
  simp only [Go.Sort.grow, World.drewN, World.mk.injEq, true_and, and_true]
  refine ⟨?_, by omega⟩
  apply Array.ext_getElem?
  intro k
  rw [Array.getElem?_append]
  by_cases hk : k < hp.size
  · rw [if_pos hk]; exact h5 k hk (by simp)
  · rw [if_neg hk, Array.getElem?_extract]
    by_cases hk2 : k < hp'.size
    · rw [if_pos (by omega)]; congr 1; omega
    · rw [if_neg (by omega), Array.getElem?_eq_none (by omega)]

end Go.Bl
namespace Go.Proofs.YtejmbaiioblfeaaGreatDoor
open Go Go.RowKit Go.Bl

set_option maxHeartbeats 400000 in
theorem orInt_any (A : Option Addr) (n c : Nat) (l : List Int) (w : World) (hl : Sl w 0 A l) (hn : n = l.length) :
    Calls Tryz.prog 74 #[.slice A n c] w fun e w' => e = .returned (.int .i64 (orL l)) ∧ w' = w := by
  have hm := hl.1
  unfold maxLen at hm
  subst hn
  go_enter Tryz.func74, Tryz.ntmps74
  go_wp2
  go_loop [8] (fun i => ∃ k : Nat, k ≤ l.length ∧ i = .int .i64 k ∧ Hid (orL (l.drop k) = orL l)) (fun i => l.length - (intOf i).toNat)
  case atStart => exact ⟨0, Nat.zero_le _, rfl, rfl⟩
  case round =>
    obtain ⟨k, hk, rfl, hd⟩ := hrel
    by_cases hlt : k < l.length
    · obtain ⟨g, o, cx, rfl, hb0, hb1, rfl, hc⟩ := hl.at_ (by decide) hlt
      have c0 : w.cell? ⟨g, o + k, none⟩ = some (.int .i64 l[k]) := by have := hc 0 _ rfl; rwa [show Enc.sz Int = 1 from rfl, Nat.mul_one] at this
      clear hc
      by_cases hz : l[k] = 0
      · have HS : Hid (orL (l.drop (k + 1)) = orL l) := by have := hd.out; rw [orL_drop hlt, if_neg (by simp [hz])] at this; exact this
        have hb : (l[k] != 0) = false := by simp [hz]
        clear hz
        go_wp2
        go_round
        case rel => exact ⟨k + 1, by omega, by go_num, HS⟩
        case measure => simp [intOf]; omega
      · have HS : Hid (l[k] = orL l) := by have := hd.out; rw [orL_drop hlt, if_pos hz] at this; exact this
        have hb : (l[k] != 0) = true := by simp [hz]
        clear hz
        go_wp2
        go_ret
        exact ⟨ret_int HS.out, rfl⟩
    · have HS : Hid ((0 : Int) = orL l) := by have := hd.out; rw [List.drop_of_length_le (by omega)] at this; exact this
      go_wp2
      go_ret
      exact ⟨ret_int HS.out, rfl⟩

set_option maxHeartbeats 2000000 in
set_option maxRecDepth 100000 in
theorem comparePoints_any (a b : Pt) (w : World) :
    Calls Tryz.prog 36 #[.agg #[.int .i64 a.x, .int .i64 a.y], .agg #[.int .i64 b.x, .int .i64 b.y]] w fun e w' => e = .returned (.int .i64 (cmpPt a b)) ∧ Qt w w' := by
  have hC1 := hide fun W => Tryz.cmp_Compare_int a.y b.y W
  have hC2 := hide fun W => Tryz.cmp_Compare_int a.x b.x W
  have hR : Hid (orL [Lib.compareInt a.y b.y, Lib.compareInt a.x b.x] = cmpPt a b) := rfl
  obtain ⟨c1, hc1⟩ : ∃ q, q = Lib.compareInt a.y b.y := ⟨_, rfl⟩
  obtain ⟨c2, hc2⟩ : ∃ q, q = Lib.compareInt a.x b.x := ⟨_, rfl⟩
  rw [← hc1] at hC1 hR
  rw [← hc2] at hC2 hR
  clear hc1 hc2
  go_enter Tryz.func36, Tryz.ntmps36
  go_upto_region 1 with fail
  obtain ⟨w2, hw2⟩ : ∃ x, x = ((w).alloc (.cells [.int .i64 a.x, .int .i64 a.y].toArray 29)).alloc (.cells [.int .i64 b.x, .int .i64 b.y].toArray 29) := ⟨_, rfl⟩
  have hba2 : Box w2 (w).heap.size 29 [.int .i64 a.x, .int .i64 a.y] := by
    rw [hw2]; exact (Box.new (w) [.int .i64 a.x, .int .i64 a.y] 29).pure (gr_alloc (World.grownBy.refl _ _) _)
  have hbb2 : Box w2 ((w).heap.size + 1) 29 [.int .i64 b.x, .int .i64 b.y] := by
    have h := Box.new ((w).alloc (.cells [.int .i64 a.x, .int .i64 a.y].toArray 29)) [.int .i64 b.x, .int .i64 b.y] 29
    rw [show ((w).alloc (.cells [.int .i64 a.x, .int .i64 a.y].toArray 29)).heap.size = (w).heap.size + 1 by simp] at h
    rw [hw2]; exact h
  have hq2 : Qt (w) w2 := by rw [hw2]; exact (Qt.alloc _ _).trans (Qt.alloc _ _)
  rw [← hw2]
  clear hw2
  obtain ⟨xb2, hxb2⟩ : ∃ x, x = (w).heap.size + 1 := ⟨_, rfl⟩
  rw [← hxb2] at hbb2 ⊢
  obtain ⟨xa2, hxa2⟩ : ∃ x, x = (w).heap.size := ⟨_, rfl⟩
  rw [← hxa2] at hba2 ⊢
  clear hxa2 hxb2
  refine wp_region_tree (fun wx => Qt w2 wx) [2, 1, 2, 1, 0, 2, 1, 2, 1, 0, 0, 0, 2] (.bl 0 (.bl 1 (.bl 2 (.bl 3 (.bl 5 (.bl 6 (.bl 7 (.bl 8 (.ef 4 (.ef 9 (.ef 10 (.ef 11 (.bl 12 .done))))))))))))) (by kernel_rfl) (by kernel_rfl) (Qt.drew _) ?_
  obtain ⟨u0, hu0⟩ : ∃ x, x = (w2).drew := ⟨_, rfl⟩
  rw [← hu0]
  have hqu0 : Qt (w2) u0 := by rw [hu0]; exact Qt.drew _
  clear hu0
  refine tree_p rfl rfl rfl rfl _ rfl (by simp) (fun K hK => ?_)
  apply Exists.intro
  refine ⟨fun wq K' hK' => ?_, ?_⟩
  · go_wp2_with fail
    exact hK'
  go_simp
  refine hK _ ?_
  clear hK K
  refine tree_b rfl rfl rfl rfl _ rfl (by simp) (fun K hK => ?_)
  apply Exists.intro
  refine ⟨fun wq hq K' hK' => ?_, ?_⟩
  · obtain ⟨d0, -⟩ := (hba2.pure hq.g).c 0 rfl
    obtain ⟨d1, -⟩ := (hba2.pure hq.g).c 1 rfl
    obtain ⟨d2, -⟩ := (hbb2.pure hq.g).c 0 rfl
    obtain ⟨d3, -⟩ := (hbb2.pure hq.g).c 1 rfl
    go_wp2_with fail
    exact hK'
  go_simp
  refine hK _ ?_
  clear hK K
  refine tree_p rfl rfl rfl rfl _ rfl (by simp) (fun K hK => ?_)
  apply Exists.intro
  refine ⟨fun wq K' hK' => ?_, ?_⟩
  · go_wp2_with fail
    exact hK'
  go_simp
  refine hK _ ?_
  clear hK K
  refine tree_b rfl rfl rfl rfl _ rfl (by simp) (fun K hK => ?_)
  apply Exists.intro
  refine ⟨fun wq hq K' hK' => ?_, ?_⟩
  · obtain ⟨d0, -⟩ := (hba2.pure hq.g).c 0 rfl
    obtain ⟨d1, -⟩ := (hba2.pure hq.g).c 1 rfl
    obtain ⟨d2, -⟩ := (hbb2.pure hq.g).c 0 rfl
    obtain ⟨d3, -⟩ := (hbb2.pure hq.g).c 1 rfl
    go_wp2_with fail
    exact hK'
  go_simp
  refine hK _ ?_
  clear hK K
  refine tree_p rfl rfl rfl rfl _ rfl (by simp) (fun K hK => ?_)
  apply Exists.intro
  refine ⟨fun wq K' hK' => ?_, ?_⟩
  · go_wp2_with fail
    exact hK'
  go_simp
  refine hK _ ?_
  clear hK K
  refine tree_b rfl rfl rfl rfl _ rfl (by simp) (fun K hK => ?_)
  apply Exists.intro
  refine ⟨fun wq hq K' hK' => ?_, ?_⟩
  · obtain ⟨d0, -⟩ := (hba2.pure hq.g).c 0 rfl
    obtain ⟨d1, -⟩ := (hba2.pure hq.g).c 1 rfl
    obtain ⟨d2, -⟩ := (hbb2.pure hq.g).c 0 rfl
    obtain ⟨d3, -⟩ := (hbb2.pure hq.g).c 1 rfl
    go_wp2_with fail
    exact hK'
  go_simp
  refine hK _ ?_
  clear hK K
  refine tree_p rfl rfl rfl rfl _ rfl (by simp) (fun K hK => ?_)
  apply Exists.intro
  refine ⟨fun wq K' hK' => ?_, ?_⟩
  · go_wp2_with fail
    exact hK'
  go_simp
  refine hK _ ?_
  clear hK K
  refine tree_b rfl rfl rfl rfl _ rfl (by simp) (fun K hK => ?_)
  apply Exists.intro
  refine ⟨fun wq hq K' hK' => ?_, ?_⟩
  · obtain ⟨d0, -⟩ := (hba2.pure hq.g).c 0 rfl
    obtain ⟨d1, -⟩ := (hba2.pure hq.g).c 1 rfl
    obtain ⟨d2, -⟩ := (hbb2.pure hq.g).c 0 rfl
    obtain ⟨d3, -⟩ := (hbb2.pure hq.g).c 1 rfl
    go_wp2_with fail
    exact hK'
  go_simp
  refine hK _ ?_
  clear hK K
  refine tree_e rfl rfl (fun K hK => ?_)
  go_wp2_with fail
  refine (hC1.out u0).mono ?_
  rintro e wq ⟨rfl, hwq⟩
  rw [hwq]
  clear hwq wq
  go_wp2_with fail
  try go_simp
  refine hK _ _ (hqu0) ?_
  clear hK K
  refine tree_e0 (by kernel_rfl) rfl rfl (fun K hK => ?_)
  go_wp2_with fail
  refine (hC2.out u0).mono ?_
  rintro e wq ⟨rfl, hwq⟩
  rw [hwq]
  clear hwq wq
  go_wp2_with fail
  try go_simp
  refine hK _ _ trivial ?_
  clear hK K
  refine tree_e0 (by kernel_rfl) rfl rfl (fun K hK => ?_)
  go_wp2_with fail
  try go_simp
  refine hK _ _ trivial ?_
  clear hK K
  refine tree_e0 (by kernel_rfl) rfl rfl (fun K hK => ?_)
  go_wp2_with fail
  refine (orInt_any (some ⟨u0.heap.size, 0, none⟩) 2 2 [c1, c2] (u0.alloc (.cells #[.int .i64 c1, .int .i64 c2] 3)) (sl_intsAt _ _ _ _ _ rfl (Nat.zero_le _) (by simp [maxLen])) rfl).mono ?_
  rintro e wq ⟨rfl, hwq⟩
  rw [hwq]
  clear hwq wq
  go_wp2_with fail
  try go_simp
  refine hK _ _ trivial ?_
  clear hK K
  refine tree_p rfl rfl rfl rfl _ rfl (by simp) (fun K hK => ?_)
  apply Exists.intro
  refine ⟨fun wq K' hK' => ?_, ?_⟩
  · go_wp2_with fail
    exact hK'
  go_simp
  refine hK _ ?_
  clear hK K
  refine tree_done ?_
  go_wp2_with fail
  go_ret
  exact ⟨ret_int hR.out, hq2.trans (hqu0.trans (Qt.alloc _ _))⟩

theorem notinI_snoc {l : List Pt} {s : Pt} {k : Nat} (h : k < l.length) (h1 : s ∉ l.take k) (h2 : s ≠ l[k]) : s ∉ l.take (k + 1) := by
  rw [take_snoc h, List.mem_append]
  rintro (e | e)
  · exact h1 e
  · exact h2 (List.mem_singleton.1 e)

end Go.Proofs.YtejmbaiioblfeaaGreatDoor

namespace Go.Proofs.YtejmbaiioblfeaaGreatDoor
open Go Go.RowKit Go.Bl

/-- none of the first k points lies lower -/
def LowTo (l : List Pt) (k : Nat) (p : Pt) : Prop := ∀ x ∈ l.take k, ¬ cmpPt x p < 0

def MinStep (v : Int) (l : List Pt) (k : Nat) (p q : Pt) : Prop := (v < 0 → LowTo l (k + 1) q) ∧ (¬ v < 0 → LowTo l (k + 1) p)

theorem cmp_irrefl (p : Pt) : ¬ cmpPt p p < 0 := by rw [cmpPt_neg]; omega

theorem minStep_of {l : List Pt} {k : Nat} {p : Pt} (hk : k < l.length) (h : LowTo l k p) : MinStep (cmpPt l[k] p) l k p l[k] := by
  refine ⟨fun hv x hx => ?_, fun hv x hx => ?_⟩
  · rw [take_snoc hk] at hx
    rcases List.mem_append.1 hx with hx | hx
    · have := h x hx
      rw [cmpPt_neg] at *
      omega
    · rw [List.mem_singleton.1 hx]; exact cmp_irrefl _
  · rw [take_snoc hk] at hx
    rcases List.mem_append.1 hx with hx | hx
    · exact h x hx
    · rw [List.mem_singleton.1 hx]; exact hv

set_option maxHeartbeats 2000000 in
set_option maxRecDepth 100000 in
theorem minLow_any (A : Option Addr) (c : Nat) (l : List Pt) (w : World) (hl : Sl w 0 A l) (h0 : 0 < l.length) :
    Calls Tryz.prog 35 #[.slice A l.length c, .func (.func 36) #[] #[]] w fun e w' => ∃ p : Pt, e = .returned (.agg #[.int .i64 p.x, .int .i64 p.y]) ∧ p ∈ l ∧ LowTo l l.length p ∧ w.grownBy w' none := by
  have hm := hl.1
  unfold maxLen at hm
  obtain ⟨g, o, rfl, -, hgl, hc⟩ := hl.pt h0
  have hcl := hide fun k (hk : k < l.length) W (h : w.grownBy W none) => (⟨h.k (hc k hk).1, h.k (hc k hk).2⟩ : _ ∧ _)
  have hmem := hide fun k (hk : k < l.length) => List.getElem_mem hk
  clear hc hl
  go_enter Tryz.func35, Tryz.ntmps35
  go_upto_region 1 with fail
  obtain ⟨w4, hw4⟩ : ∃ x, x = (w).alloc (.cells [.int .i64 0, .int .i64 0].toArray 29) := ⟨_, rfl⟩
  have hg4 : (w).grownBy w4 none := by rw [hw4]; exact gr_alloc (World.grownBy.refl _ _) _
  have hb4 : Box w4 (w).heap.size 29 [.int .i64 0, .int .i64 0] := by rw [hw4]; exact Box.new _ _ _
  have hxs4 := hb4.lt
  rw [← hw4]
  clear hw4
  obtain ⟨x4, hx4⟩ : ∃ x, x = (w).heap.size := ⟨_, rfl⟩
  rw [← hx4] at hb4 hxs4 ⊢
  have hxl4 : (w).heap.size ≤ x4 := by omega
  clear hx4
  obtain ⟨c0, c1⟩ := hcl.out 0 h0 w4 hg4
  have m0 := hmem.out 0 h0
  have hlow0 : Hid (LowTo l 1 l[0]) := fun x hx => by
    rw [show 1 = 0 + 1 from rfl, take_snoc h0, List.take_zero, List.nil_append] at hx
    rw [List.mem_singleton.1 hx]; exact cmp_irrefl _
  generalize l[0] = P at *
  simp only [Nat.zero_mul, Nat.add_zero] at c0 c1
  go_upto_region 4 with fail
  obtain ⟨w5, hw5⟩ : ∃ x, x = (w4).alloc (.cells [.int .i64 P.x, .int .i64 P.y].toArray 29) := ⟨_, rfl⟩
  have hg5 : (w4).grownBy w5 none := by rw [hw5]; exact gr_alloc (World.grownBy.refl _ _) _
  have hb5 : Box w5 (w4).heap.size 29 [.int .i64 P.x, .int .i64 P.y] := by rw [hw5]; exact Box.new _ _ _
  have hxs5 := hb5.lt
  rw [← hw5]
  clear hw5
  obtain ⟨x5, hx5⟩ : ∃ x, x = (w4).heap.size := ⟨_, rfl⟩
  rw [← hx5] at hb5 hxs5 ⊢
  have hxl5 : (w4).heap.size ≤ x5 := by omega
  clear hx5
  have hb45 := hb4.pure hg5
  have hgw5 := hg4.t hg5
  have hne : x4 ≠ x5 := by have := hb4.lt; omega
  have hx4w : w.heap.size ≤ x4 := hxl4
  have hx5w : w.heap.size ≤ x5 := by omega
  clear hb4 hg4 hg5 hxs4 hxl4 hxs5 hxl5 c0 c1
  go_wp2_with fail
  go_loopw [6] (fun i wr => ∃ (k : Nat) (p : Pt), 1 ≤ k ∧ k ≤ l.length ∧ i = .int .i64 k ∧ p ∈ l ∧ Hid (LowTo l k p) ∧ Box wr x5 29 [.int .i64 p.x, .int .i64 p.y] ∧ Box wr x4 29 [.int .i64 0, .int .i64 0] ∧ w.grownBy wr none) (fun i _ => l.length - (intOf i).toNat)
  case atStart => exact ⟨1, P, by omega, by omega, rfl, m0, hlow0, hb5, hb45, hgw5⟩
  case round =>
    clear hb5 hb45 hgw5 m0 hlow0
    obtain ⟨k, p, hk1, hk, rfl, hp, hlow, hbp, hbz, hgr⟩ := hrel
    replace hp := hide hp
    by_cases hlt : k < l.length
    · obtain ⟨c0, c1⟩ := hcl.out k hlt wr hgr
      have hcl2 := hide fun W (h : wr.grownBy W none) => hcl.out k hlt W (gr_trans hgr h)
      have hmq := hide (hmem.out k hlt)
      have hst := hide (minStep_of hlt hlow.out)
      generalize l[k] = q at *
      have hCo := hide fun W => comparePoints_any q p W
      go_upto_region 7 with fail
      refine wp_region_tree (fun wx => wr.grownBy wx none) [2, 2, 2, 2, 1, 1, 0, 2] (.bl 0 (.bl 1 (.bl 2 (.bl 3 (.bl 4 (.bl 5 (.ef 6 (.bl 7 .done)))))))) (by kernel_rfl) (by kernel_rfl) (gr_drew (World.grownBy.refl _ _)) ?_
      obtain ⟨u0, hu0⟩ : ∃ x, x = (wr).drew := ⟨_, rfl⟩
      rw [← hu0]
      have hgu0 : (wr).grownBy u0 none := by rw [hu0]; exact gr_drew (World.grownBy.refl _ _)
      clear hu0
      refine tree_p rfl rfl rfl rfl _ rfl (by simp) (fun K hK => ?_)
      apply Exists.intro
      refine ⟨fun wq K' hK' => ?_, ?_⟩
      · go_wp2_with fail
        exact hK'
      go_simp
      refine hK _ ?_
      clear hK K
      refine tree_p rfl rfl rfl rfl _ rfl (by simp) (fun K hK => ?_)
      apply Exists.intro
      refine ⟨fun wq K' hK' => ?_, ?_⟩
      · go_wp2_with fail
        exact hK'
      go_simp
      refine hK _ ?_
      clear hK K
      refine tree_p rfl rfl rfl rfl _ rfl (by simp) (fun K hK => ?_)
      apply Exists.intro
      refine ⟨fun wq K' hK' => ?_, ?_⟩
      · go_wp2_with fail
        exact hK'
      go_simp
      refine hK _ ?_
      clear hK K
      refine tree_p rfl rfl rfl rfl _ rfl (by simp) (fun K hK => ?_)
      apply Exists.intro
      refine ⟨fun wq K' hK' => ?_, ?_⟩
      · go_wp2_with fail
        exact hK'
      go_simp
      refine hK _ ?_
      clear hK K
      refine tree_b rfl rfl rfl rfl _ rfl (by simp) (fun K hK => ?_)
      apply Exists.intro
      refine ⟨fun wq hq K' hK' => ?_, ?_⟩
      · obtain ⟨d0, d1⟩ := hcl2.out wq hq
        obtain ⟨e0, -⟩ := (hbp.pure hq).c 0 rfl
        obtain ⟨e1, -⟩ := (hbp.pure hq).c 1 rfl
        go_wp2_with fail
        exact hK'
      go_simp
      refine hK _ ?_
      clear hK K
      refine tree_b rfl rfl rfl rfl _ rfl (by simp) (fun K hK => ?_)
      apply Exists.intro
      refine ⟨fun wq hq K' hK' => ?_, ?_⟩
      · obtain ⟨d0, d1⟩ := hcl2.out wq hq
        obtain ⟨e0, -⟩ := (hbp.pure hq).c 0 rfl
        obtain ⟨e1, -⟩ := (hbp.pure hq).c 1 rfl
        go_wp2_with fail
        exact hK'
      go_simp
      refine hK _ ?_
      clear hK K
      refine tree_e0 (by kernel_rfl) rfl rfl (fun K hK => ?_)
      go_wp2_with fail
      refine (hCo.out u0).mono ?_
      rintro e w6 ⟨rfl, hq6⟩
      have hg6 := hq6.g
      go_wp2_with fail
      try go_simp
      refine hK _ _ trivial ?_
      clear hK K
      refine tree_p rfl rfl rfl rfl _ rfl (by simp) (fun K hK => ?_)
      apply Exists.intro
      refine ⟨fun wq K' hK' => ?_, ?_⟩
      · go_wp2_with fail
        exact hK'
      go_simp
      refine hK _ ?_
      clear hK K
      refine tree_done ?_
      have hgz := gr_trans hgu0 hg6
      clear hq6
      obtain ⟨d0, d1⟩ := hcl2.out w6 hgz
      have hbp6 := hbp.pure hgz
      have hbz6 := hbz.pure hgz
      obtain ⟨e0, e0f⟩ := hbp6.c 0 rfl
      obtain ⟨e1, e1f⟩ := hbp6.c 1 rfl
      have hgy := gr_trans hgr hgz
      generalize cmpPt q p = v at *
      by_cases hv : v < 0
      · go_wp2_with fail
        have hs1 := gr_set (gr_set (World.grownBy.refl w6 (some x5)) (p := ⟨x5, 0, none⟩) (.inl rfl) (.int .i64 q.x)) (p := ⟨x5, 1, none⟩) (.inl rfl) (.int .i64 q.y)
        (go_roundw; (case rel => exact ⟨k + 1, q, by omega, by omega, by go_num, hmq.out, hst.out.1 hv, (hbp6.set_ 0 (.int .i64 q.x) (by simp)).set_ 1 (.int .i64 q.y) (by simp), hbz6.gr hs1 (by intro e; injection e with e; exact hne e.symm), gr_new hgy hs1 hx5w⟩); (case measure => simp [intOf]; omega))
      · go_wp2_with fail
        (go_roundw; (case rel => exact ⟨k + 1, p, by omega, by omega, by go_num, hp.out, hst.out.2 hv, hbp6, hbz6, hgy⟩); (case measure => simp [intOf]; omega))
    · have hkl : Hid (LowTo l l.length p) := by rw [show l.length = k from by omega]; exact hlow
      clear hlow
      obtain ⟨e0, -⟩ := hbp.c 0 rfl
      obtain ⟨e1, -⟩ := hbp.c 1 rfl
      obtain ⟨z0, f0⟩ := hbz.c 0 rfl
      obtain ⟨z1, f1⟩ := hbz.c 1 rfl
      have hs1 := gr_set (gr_set (World.grownBy.refl wr (some x4)) (p := ⟨x4, 0, none⟩) (.inl rfl) (.int .i64 p.x)) (p := ⟨x4, 1, none⟩) (.inl rfl) (.int .i64 p.y)
      go_wp2_with fail
      have hbzz := (hbz.set_ 0 (.int .i64 p.x) (by simp)).set_ 1 (.int .i64 p.y) (by simp)
      obtain ⟨r0, -⟩ := hbzz.c 0 rfl
      obtain ⟨r1, -⟩ := hbzz.c 1 rfl
      exact bodyPost_ret (v := .agg #[.int .i64 p.x, .int .i64 p.y]) (by simp [results, Tryz.results35, go_sem, r0, r1]) rfl ⟨p, rfl, hp.out, hkl.out, gr_new hgr hs1 hx4w⟩

set_option maxHeartbeats 800000 in
theorem indexAt_any (A : Option Addr) (c : Nat) (l : List Pt) (s : Pt) (w : World) (hl : Sl w 0 A l) (hs : s ∈ l) :
    Calls Tryz.prog 34 #[.slice A l.length c, .agg #[.int .i64 s.x, .int .i64 s.y]] w fun e w' => ∃ k : Nat, e = .returned (.int .i64 k) ∧ k < l.length ∧ l.getD k default = s ∧ w.grownBy w' none := by
  replace hs := hide hs
  have hm := hl.1
  unfold maxLen at hm
  have hg0 := gr_alloc (World.grownBy.refl w none) (.cells #[.int .i64 s.x, .int .i64 s.y] 29)
  have b0 := hide ((Cell.new w [.int .i64 s.x, .int .i64 s.y] 29 0 _ rfl _ rfl).1)
  have b1 := hide ((Cell.new w [.int .i64 s.x, .int .i64 s.y] 29 1 _ rfl _ rfl).1)
  go_enter Tryz.func34, Tryz.ntmps34
  go_wp2_with fail
  generalize w.alloc (.cells #[.int .i64 s.x, .int .i64 s.y] 29) = W at *
  have hWW := World.grownBy.refl W none
  go_loopw [8] (fun i wr => ∃ k : Nat, k ≤ l.length ∧ i = .int .i64 k ∧ w.grownBy wr none ∧ W.grownBy wr none ∧ Hid (s ∉ l.take k)) (fun i _ => l.length - (intOf i).toNat)
  case atStart => exact ⟨0, Nat.zero_le _, rfl, hg0, hWW, by simp [Hid]⟩
  case round =>
    obtain ⟨k, hk, rfl, hg, hgW, hall⟩ := hrel
    replace b0 := hgW.k b0.out
    replace b1 := hgW.k b1.out
    by_cases hlt : k < l.length
    · obtain ⟨g, o, cx, rfl, hb0, hb1, rfl, hc⟩ := (hl.pure hg).at_ (by decide) hlt
      have v0 : wr.cell? ⟨g, o + k * 2, none⟩ = some (.int .i64 l[k].x) := hc 0 _ rfl
      have v1 : wr.cell? ⟨g, o + k * 2 + 1, none⟩ = some (.int .i64 l[k].y) := hc 1 _ rfl
      clear hc
      have HN : Hid (¬ (s.x = l[k].x ∧ s.y = l[k].y) → s ∉ l.take (k + 1)) := fun h => notinI_snoc hlt hall.out (fun e => h (by rw [e]; exact ⟨rfl, rfl⟩))
      have HG : Hid (l.getD k default = l[k]) := by rw [Hid, List.getD_eq_getElem?_getD, List.getElem?_eq_getElem hlt, Option.getD_some]
      generalize l[k] = y at *
      go_wp2_with fail
      refine wp_region_fix 5 ((fun wx => wr.grownBy wx none)) (by kernel_rfl) (by kernel_rfl) (gr_drew (World.grownBy.refl _ _)) ?_
      simp only [List.take_succ_cons, List.take_zero, List.drop_succ_cons, List.drop_zero]
      iterate 5 ((refine fix_b (fun K hK => ?_); apply Exists.intro; refine ⟨fun wx hC K' hK' => ?_, ?_⟩; (focus (replace hK' := hide hK'; (have c0 := hC.k b0; have c1 := hC.k b1; have c2 := hC.k v0; have c3 := hC.k v1); go_wp2_with fail; exact hK'.out _ hC)); go_simp; refine hK _ ?_; clear hK K))
      refine fix_nil ?_
      intro wz hC
      replace hg := gr_trans hg hC
      replace hgW := gr_trans hgW hC
      obtain ⟨su, sv⟩ := s
      obtain ⟨yu, yv⟩ := y
      simp only at *
      by_cases h1 : su = yu
      · subst h1
        by_cases h2 : sv = yv
        · subst h2
          go_wp2
          go_ret
          exact ⟨k, rfl, hlt, HG.out, hg⟩
        · go_wp2
          go_roundw
          case rel => exact ⟨k + 1, by omega, by go_num, hg, hgW, HN.out (fun h => h2 h.2)⟩
          case measure => simp [intOf]; omega
      · go_wp2
        go_roundw
        case rel => exact ⟨k + 1, by omega, by go_num, hg, hgW, HN.out (fun h => h1 h.1)⟩
        case measure => simp [intOf]; omega
    · have HB : s ∉ l := by have := hall.out; rwa [List.take_of_length_le (by omega)] at this
      exact absurd hs.out HB

end Go.Proofs.YtejmbaiioblfeaaGreatDoor

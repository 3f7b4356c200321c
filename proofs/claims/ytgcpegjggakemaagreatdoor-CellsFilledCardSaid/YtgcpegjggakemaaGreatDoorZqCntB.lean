/- Contracts of functions that this seat's laws reach, each: what one call returns and what it leaves in memory; no condition beyond each theorem's own hypotheses. -/
import Derived.Test.YtgcpegjggakemaaGreatDoorZqMapLen
import Derived.Test.YtgcpegjggakemaaGreatDoorZqHasB
import Derived.Test.YtgcpegjggakemaaGreatDoorZqCelS
import Derived.Test.YtgcpegjggakemaaGreatDoorZqPathA
set_option linter.unusedVariables false
set_option linter.unusedSimpArgs false
namespace Go.Bl
open Go
/-- the four neighbours of a cell -/
def nb4E (p : Pt) : List Pt := [⟨p.x - 1, p.y⟩, ⟨p.x + 1, p.y⟩, ⟨p.x, p.y - 1⟩, ⟨p.x, p.y + 1⟩]
/-- how many of the first j neighbours are not in a set -/
def edJ (S : Int → Int → Bool) (p : Pt) (j : Nat) : Nat := ((nb4E p).take j).countP fun q => !S q.x q.y

def edN (S : Int → Int → Bool) (p : Pt) : Nat := edJ S p 4

def edL (S : Int → Int → Bool) (l : List Pt) : Nat := (l.map (edN S)).sum

theorem edJ_next (S : Int → Int → Bool) (p : Pt) {j : Nat} (h : j < 4) : edJ S p (j + 1) = edJ S p j + if !S ((nb4E p)[j]'h).x ((nb4E p)[j]'h).y then 1 else 0 := by
  unfold edJ
  rw [List.take_succ_eq_append_getElem (show j < (nb4E p).length from h), List.countP_append, List.countP_singleton]
  rfl

theorem edJ_le (S : Int → Int → Bool) (p : Pt) (j : Nat) : edJ S p j ≤ 4 := by
  unfold edJ
  refine Nat.le_trans List.countP_le_length ?_
  rw [List.length_take]
  exact Nat.min_le_right _ _

theorem edL_snoc (S : Int → Int → Bool) (l : List Pt) (p : Pt) : edL S (l ++ [p]) = edL S l + edN S p := by simp [edL]

theorem edL_le (S : Int → Int → Bool) : ∀ l : List Pt, edL S l ≤ 4 * l.length
  | [] => by simp [edL]
  | p :: l => by
    have h1 := edL_le S l
    have h2 : edN S p ≤ 4 := edJ_le S p 4
    simp only [edL, List.map_cons, List.sum_cons, List.length_cons] at *
    omega

theorem edL_perm {S : Int → Int → Bool} {l m : List Pt} (h : l.Perm m) : edL S l = edL S m := by
  unfold edL
  exact (h.map _).sum_nat

theorem nodup_snoc {l : List Pt} {p : Pt} (h : l.Nodup) (hp : p ∉ l) : (l ++ [p]).Nodup := by
  rw [List.nodup_append]
  refine ⟨h, by simp, fun a ha b hb e => ?_⟩
  simp at hb
  subst hb; subst e
  exact hp ha
/-- a range over a set: R are the cells still to come, l those that were there -/
structure RanL (S : Int → Int → Bool) (R : Pt → Prop) (l : List Pt) : Prop where
  nd : l.Nodup
  sub : ∀ p ∈ l, S p.x p.y = true
  rem : ∀ p, R p ↔ S p.x p.y = true ∧ p ∉ l

theorem RanL.start (S : Int → Int → Bool) : RanL S (fun k => S k.x k.y = true) [] := ⟨by simp, fun p h => by simp at h, fun p => by simp⟩

theorem RanL.next {S : Int → Int → Bool} {R : Pt → Prop} {l : List Pt} (h : RanL S R l) {k : Pt} (hk : R k) : RanL S (fun z => R z ∧ z ≠ k) (l ++ [k]) := by
  obtain ⟨h1, h2⟩ := (h.rem k).1 hk
  refine ⟨nodup_snoc h.nd h2, fun p hp => ?_, fun p => ?_⟩
  · rcases List.mem_append.1 hp with hp | hp
    · exact h.sub p hp
    · simp at hp; subst hp; exact h1
  · rw [h.rem p, List.mem_append, List.mem_singleton]
    constructor
    · rintro ⟨⟨a, b⟩, c⟩; exact ⟨a, fun e => e.elim b c⟩
    · rintro ⟨a, b⟩; exact ⟨⟨a, fun e => b (.inl e)⟩, fun e => b (.inr e)⟩

theorem RanL.done {S : Int → Int → Bool} {R : Pt → Prop} {l : List Pt} (h : RanL S R l) (hn : ∀ k, ¬ R k) (p : Pt) : p ∈ l ↔ S p.x p.y = true := by
  constructor
  · exact h.sub p
  · intro hs
    apply Classical.byContradiction
    intro hp
    exact hn p ((h.rem p).2 ⟨hs, hp⟩)

theorem on_bd {c : Cel} (hf : CFit c) {x y : Int} (h : onC c x y = true) : (-20000000000 ≤ x ∧ x ≤ 20000000000) ∧ -20000000000 ≤ y ∧ y ≤ 20000000000 := by
  obtain ⟨h1, h2, h3⟩ := onC_row h
  obtain ⟨h4, h5⟩ := bit_in h3
  have b1 := div_bd hf.s.1 hf.x.1 hf.x.2 (by omega)
  have b2 := div_bd hf.s.1 hf.y.1 hf.y.2 (by omega)
  have b3 := hf.n
  have b4 := (hf.row _ h4).1
  rw [getD_of h4] at h5
  omega

end Go.Bl
namespace Go.Proofs.YtgcpegjggakemaaGreatDoor
open Go Go.RowKit Go.Bl

set_option maxHeartbeats 1000000 in
theorem neighbours_any (x y : Int) (w : World) (hx : -1000000000000 ≤ x ∧ x ≤ 1000000000000) (hy : -1000000000000 ≤ y ∧ y ≤ 1000000000000) :
    Calls Tryz.prog 87 #[.agg #[.int .i64 x, .int .i64 y]] w fun e w' => ∃ A, e = .returned (.slice A 4 4) ∧ Sl w' w.heap.size A (nb4E ⟨x, y⟩) ∧ w.grownBy w' none := by
  obtain ⟨px, hpx⟩ : ∃ q, q = x := ⟨_, rfl⟩
  obtain ⟨py, hpy⟩ : ∃ q, q = y := ⟨_, rfl⟩
  rw [← hpx] at hx ⊢
  rw [← hpy] at hy ⊢
  clear hpx hpy
  go_enter Tryz.func87, Tryz.ntmps87
  go_upto_region 1 with fail
  obtain ⟨w1, hw1⟩ : ∃ x, x = (w).alloc (.cells [.int .i64 px, .int .i64 py].toArray 89) := ⟨_, rfl⟩
  have hg1 : (w).grownBy w1 none := by rw [hw1]; exact gr_alloc (World.grownBy.refl _ _) _
  have hb1 : Box w1 (w).heap.size 89 [.int .i64 px, .int .i64 py] := by rw [hw1]; exact Box.new _ _ _
  have hxs1 := hb1.lt
  rw [← hw1]
  clear hw1
  obtain ⟨x1, hx1⟩ : ∃ x, x = (w).heap.size := ⟨_, rfl⟩
  rw [← hx1] at hb1 hxs1 ⊢
  have hxl1 : (w).heap.size ≤ x1 := by omega
  clear hx1
  obtain ⟨d0, -⟩ := hb1.c 0 rfl
  obtain ⟨d1, -⟩ := hb1.c 1 rfl
  go_wp2_with fail
  go_ret
  exact ⟨_, rfl, sl_lit w1 w.heap.size [.int .i64 (px - 1), .int .i64 py, .int .i64 (px + 1), .int .i64 py, .int .i64 px, .int .i64 (py - 1), .int .i64 px, .int .i64 (py + 1)] _ _ hg1.size (by simp [maxLen, nb4E]) ⟨_, _, rfl, rfl, _, _, rfl, rfl, _, _, rfl, rfl, _, [], rfl, rfl, rfl⟩, hg1.t (gr_alloc (World.grownBy.refl _ _) _)⟩

set_option maxHeartbeats 8000000 in
set_option maxRecDepth 100000 in
theorem countOfR_any (c : Cel) (A : Option Addr) (n cc : Nat) (w : World) (ha : CArg w c A n) (hf : CFit c) :
    Calls Tryz.prog 20 #[.agg #[.int .i64 (c).step, .int .i64 (c).x, .int .i64 (c).y, .slice A n cc]] w fun e w' => ∃ l : List Pt, e = .returned (.tuple #[.int .i64 (l.length : Nat), .int .i64 (edL (onC c) l : Nat)]) ∧ l.Nodup ∧ (∀ p, p ∈ l ↔ onC c p.x p.y = true) ∧ w.grownBy w' none := by
  have hS := hide fun W (h : w.grownBy W none) => setOf_any c A n cc W (ha.pure h) hf
  have hbd := hide fun x y (h : onC c x y = true) => on_bd hf h
  generalize onC c = S at *
  clear ha hf
  go_enter Tryz.func20, Tryz.ntmps20
  go_upto_region 1 with fail
  obtain ⟨w1, hw1⟩ : ∃ x, x = (w).alloc (.cells [.int .i64 (c).step, .int .i64 (c).x, .int .i64 (c).y, .slice A n cc].toArray 34) := ⟨_, rfl⟩
  have hg1 : (w).grownBy w1 none := by rw [hw1]; exact gr_alloc (World.grownBy.refl _ _) _
  have hb1 : Box w1 (w).heap.size 34 [.int .i64 (c).step, .int .i64 (c).x, .int .i64 (c).y, .slice A n cc] := by rw [hw1]; exact Box.new _ _ _
  have hxs1 := hb1.lt
  rw [← hw1]
  clear hw1
  obtain ⟨x1, hx1⟩ : ∃ x, x = (w).heap.size := ⟨_, rfl⟩
  rw [← hx1] at hb1 hxs1 ⊢
  have hxl1 : (w).heap.size ≤ x1 := by omega
  clear hx1
  obtain ⟨⟨a0, -⟩, ⟨a1, -⟩, ⟨a2, -⟩, ⟨a3, -⟩⟩ := box4_c hb1
  go_wp2_with fail
  refine (hS.out w1 hg1).mono ?_
  rintro e w2 ⟨b, rfl, hM, hg2, hb⟩
  clear a0 a1 a2 a3 hS hb1
  have hgw2 := hg1.t hg2
  have hbl : w.heap.size ≤ b := by have := hg1.size; omega
  have hML : Hid (∀ W (l : List Pt), SetAt W b 1000000 S → l.Nodup → (∀ p : Pt, p ∈ l ↔ S p.x p.y = true) → ∀ ty, (Builtin.len_ #[92] ty #[.map (some b)]).run Tryz.prog W = .ok (.int .i64 (l.length : Nat)) W) := fun W l h h1 h2 ty =>
    MapOf.len h Tryz.underlying92 h1 (fun x => by
      rw [setC_some, h2]
      constructor
      · intro hx
        have := hbd.out _ _ hx
        exact ⟨okSp_of (by omega) (by omega), hx⟩
      · exact fun hx => hx.2) ty
  clear hg1 hg2 hb
  go_upto_region 3 with fail
  go_wp2_with (at_range; refine wpList_range_C _ rfl _ rfl b _ _ rfl hM ?_; intro w5 cnt hR hg5 hs5)
  obtain ⟨r, hr⟩ : ∃ r, r = w2.heap.size := ⟨_, rfl⟩
  rw [← hr] at hR ⊢
  have hr1 : w.heap.size ≤ r := by have := hgw2.size; omega
  clear hr
  have hgw := hgw2.t hg5
  have hRan := hide (RanL.start S)
  obtain ⟨-, hcnt⟩ := hs5
  clear hM hg5 hgw2
  go_frame
  go_loopw [5] (fun v wr => ∃ (R : Pt → Prop) (l : List Pt) (cn : Nat), v = .int .i64 (edL S l : Nat) ∧ RangeOf spM wr b r 1000000 (setC S) R cn ∧ Hid (RanL S R l) ∧ Hid (cn + l.length ≤ 1000000) ∧ w.grownBy wr none) (fun _ wr => wr.rangeLeft b r)
  case atStart => exact ⟨_, [], cnt, rfl, hR, hRan, by show cnt + 0 ≤ 1000000; omega, hgw⟩
  case round =>
    clear hR hRan hgw hcnt
    obtain ⟨R, l, cn, rfl, hR, hRan, hcn, hgw⟩ := hrel
    have hleft := hR.left
    have hne := hR.ne
    have hlr := hR.lt
    go_wp2_with (at_next; refine wpList_next_C _ rfl _ rfl b r _ _ R cn rfl hR (fun h0 hnS => Hid.out ?_) (fun kx ky w7 cn7 hox hSx hR7 hlt7 hg7 hen => Hid.out ?_))
    · refine hide ?_
      have hno : ∀ k, ¬ R k := fun k hk => by
        have hs := ((hRan.out.rem k).1 hk).1
        have := hbd.out _ _ hs
        exact hnS k (okSp_of (by omega) (by omega)) hk
      have hall := hRan.out.done hno
      have hlen := hML.out wr l hR.map hRan.out.nd hall
      have hnd := hide hRan.out.nd
      replace hall := hide hall
      have hll : l.length ≤ 1000000 := by have := hcn.out; omega
      have hee := edL_le S l
      clear hnS hR hRan hno hML
      go_wp2_with fail
      exact bodyPost_ret (v := .tuple #[.int .i64 (l.length : Nat), .int .i64 (edL S l : Nat)]) (by simp [results, Tryz.results20, go_sem]) rfl ⟨l, rfl, hnd.out, hall.out, hgw⟩
    · refine hide ?_
      have hkS := (hRan.out.rem ⟨kx, ky⟩).1 hSx
      have hRan2 := hide (hRan.out.next hSx)
      have hkb := hbd.out _ _ hkS.1
      have hcn2 : Hid (cn7 + (l ++ [(⟨kx, ky⟩ : Pt)]).length ≤ 1000000) := by have := hcn.out; rw [Hid, List.length_append]; simp only [List.length_cons, List.length_nil]; omega
      have hll : l.length ≤ 1000000 := by have := hcn.out; omega
      have hee := edL_le S l
      have hsnoc : Hid (edL S (l ++ [(⟨kx, ky⟩ : Pt)]) = edL S l + edJ S ⟨kx, ky⟩ 4) := edL_snoc S l ⟨kx, ky⟩
      have hgw7 := gr_new hgw hg7 hr1
      simp only at hkb
      have hN := hide fun W => neighbours_any kx ky W (by omega) (by omega)
      have hJ0 : edJ S ⟨kx, ky⟩ 0 = 0 := rfl
      have hJn : Hid (∀ j (h : j < 4), edJ S ⟨kx, ky⟩ (j + 1) = edJ S ⟨kx, ky⟩ j + if !S ((nb4E ⟨kx, ky⟩)[j]'h).x ((nb4E ⟨kx, ky⟩)[j]'h).y then 1 else 0) := fun j h => edJ_next S _ h
      have hJl : Hid (∀ j, edJ S ⟨kx, ky⟩ j ≤ 4) := fun j => edJ_le S _ j
      have hPb : Hid (∀ j (h : j < 4), (-100000000000 ≤ ((nb4E ⟨kx, ky⟩)[j]'h).x ∧ ((nb4E ⟨kx, ky⟩)[j]'h).x ≤ 100000000000) ∧ -100000000000 ≤ ((nb4E ⟨kx, ky⟩)[j]'h).y ∧ ((nb4E ⟨kx, ky⟩)[j]'h).y ≤ 100000000000) := fun j h => by
        rcases (by omega : j = 0 ∨ j = 1 ∨ j = 2 ∨ j = 3) with rfl | rfl | rfl | rfl <;> simp only [nb4E, List.getElem_cons_zero, List.getElem_cons_succ] <;> omega
      clear hRan hcn hkS hSx hR hg7 hgw hML hbd hox
      generalize edJ S ⟨kx, ky⟩ = EJ at *
      go_upto_region 6 with fail
      obtain ⟨w6, hw6⟩ : ∃ x, x = (w7).alloc (.cells [.int .i64 kx, .int .i64 ky].toArray 89) := ⟨_, rfl⟩
      have hg6 : (w7).grownBy w6 none := by rw [hw6]; exact gr_alloc (World.grownBy.refl _ _) _
      have hb6 : Box w6 (w7).heap.size 89 [.int .i64 kx, .int .i64 ky] := by rw [hw6]; exact Box.new _ _ _
      have hxs6 := hb6.lt
      rw [← hw6]
      clear hw6
      obtain ⟨x6, hx6⟩ : ∃ x, x = (w7).heap.size := ⟨_, rfl⟩
      rw [← hx6] at hb6 hxs6 ⊢
      have hxl6 : (w7).heap.size ≤ x6 := by omega
      clear hx6
      obtain ⟨d0, -⟩ := hb6.c 0 rfl
      obtain ⟨d1, -⟩ := hb6.c 1 rfl
      have hR6 := hR7.kept hg6 (by simp) (by simp)
      have hgw6 := hgw7.t hg6
      clear hR7 hgw7 hen hg6 hb6
      go_wp2_with fail
      refine (hN.out w6).mono ?_
      rintro e w8 ⟨A8, rfl, hs8, hg8⟩
      have hR8 := hR6.kept hg8 (by simp) (by simp)
      have hgw8 := hgw6.t hg8
      have hself := World.grownBy.refl w8 none
      clear d0 d1 hN hR6 hgw6 hg8
      replace hs8 := hs8.mono (Nat.zero_le _)
      go_wp2_with fail
      obtain ⟨wa, rfl⟩ : ∃ x, x = wr := ⟨wr, rfl⟩
      go_loopw [5, 20] (fun v i wx => ∃ j : Nat, j ≤ 4 ∧ i = .int .i64 j ∧ v = .int .i64 ((edL S l + EJ j : Nat) : Int) ∧ RangeOf spM wx b r 1000000 (setC S) (fun z => R z ∧ z ≠ ⟨kx, ky⟩) cn7 ∧ w8.grownBy wx none ∧ w.grownBy wx none) (fun _ i _ => 4 - (intOf i).toNat)
      case atStart => exact ⟨0, by omega, rfl, by rw [hJ0]; rfl, hR8, hself, hgw8⟩
      case round =>
        clear hR8 hself hgw8
        obtain ⟨j, hj, rfl, rfl, hR, hg8x, hgw⟩ := hrel
        by_cases hlt : j < 4
        · have hlt' : j < (nb4E ⟨kx, ky⟩).length := hlt
          obtain ⟨q, o, cx, rfl, hb0, hb1, hrr, hcc⟩ := (hs8.pure hg8x).at_ (by decide) hlt'
          have hb := hPb.out j hlt
          have hJ := hJn.out j hlt
          have hJb := hJl.out j
          generalize (nb4E ⟨kx, ky⟩)[j] = P at *
          subst hrr
          have p0 : wr.cell? ⟨q, o + j * 2, none⟩ = some (.int .i64 P.x) := hcc 0 _ rfl
          have p1 : wr.cell? ⟨q, o + j * 2 + 1, none⟩ = some (.int .i64 P.y) := hcc 1 _ rfl
          obtain ⟨qx, qy⟩ := P
          simp only at hb p0 p1 hJ
          clear hcc hlt'
          go_upto_region 9 with fail
          obtain ⟨w18, hw18⟩ : ∃ x, x = (wr).alloc (.cells [.int .i64 qx, .int .i64 qy].toArray 89) := ⟨_, rfl⟩
          have hg18 : (wr).grownBy w18 none := by rw [hw18]; exact gr_alloc (World.grownBy.refl _ _) _
          have hb18 : Box w18 (wr).heap.size 89 [.int .i64 qx, .int .i64 qy] := by rw [hw18]; exact Box.new _ _ _
          have hxs18 := hb18.lt
          rw [← hw18]
          clear hw18
          obtain ⟨x18, hx18⟩ : ∃ x, x = (wr).heap.size := ⟨_, rfl⟩
          rw [← hx18] at hb18 hxs18 ⊢
          have hxl18 : (wr).heap.size ≤ x18 := by omega
          clear hx18
          obtain ⟨e0, -⟩ := hb18.c 0 rfl
          obtain ⟨e1, -⟩ := hb18.c 1 rfl
          have hR18 := hR.kept hg18 (by simp) (by simp)
          have hlk := SetAt.look (show SetAt w18 b 1000000 S from hR18.map) (x := qx) (y := qy) (okSp_of (by omega) (by omega))
          have hgx18 := hg8x.t hg18
          have hgw18 := hgw.t hg18
          have hJc : Hid (((edL S l + EJ (j + 1) : Nat) : Int) = ((edL S l + EJ j : Nat) : Int) + if !S qx qy then 1 else 0) := by
            rw [Hid, hJ]; cases S qx qy <;> simp <;> omega
          generalize S qx qy = sv at *
          clear p0 p1 hR hg8x hgw hg18 hb18 hJ
          generalize hE0e : edL S l = E0 at *
          replace hE0e := hide hE0e
          go_wp2_with fail
          refine (truth_any _ _).mono ?_
          rintro e w19 ⟨rfl, rfl⟩
          clear e0 e1 hlk
          cases sv
          all_goals
            simp only [Bool.not_true, Bool.not_false, if_true, if_false, Bool.false_eq_true] at hJc ⊢
            go_wp2_with fail
            (go_roundw; (case rel => exact ⟨j + 1, by omega, by go_num, by have h := hJc.out; rw [hE0e.out]; exact congrArg (Value.int .i64) (by omega), hR18, hgx18, hgw18⟩); (case measure => simp [intOf]; omega))
        · obtain rfl : j = 4 := by omega
          rw [← hsnoc.out]
          clear hJn hJl hPb hs8
          go_wp2_with fail
          go_roundw
          case rel => exact ⟨_, l ++ [⟨kx, ky⟩], cn7, rfl, hR, hRan2, hcn2, hgw⟩
          case measure => rw [hR.left, hleft]; exact hlt7

end Go.Proofs.YtgcpegjggakemaaGreatDoor

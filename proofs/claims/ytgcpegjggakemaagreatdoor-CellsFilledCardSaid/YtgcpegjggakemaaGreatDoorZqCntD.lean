/- Contracts of functions that this seat's laws reach, each: what one call returns and what it leaves in memory; no condition beyond each theorem's own hypotheses. -/
import Derived.Test.YtgcpegjggakemaaGreatDoorZqCelAC
import Derived.Test.YtgcpegjggakemaaGreatDoorZqCompData
import Derived.Test.YtgcpegjggakemaaGreatDoorZqCntB
set_option linter.unusedVariables false
set_option linter.unusedSimpArgs false
namespace Go.Bl
open Go

def st4 : List Pt := [⟨0, -1⟩, ⟨-1, 0⟩, ⟨1, 0⟩, ⟨0, 1⟩]
/-- how many of the first j steps lead out of a set -/
def edS (S : Int → Int → Bool) (p : Pt) (j : Nat) : Nat := (st4.take j).countP fun q => !S (p.x + q.x) (p.y + q.y)

theorem edS_next (S : Int → Int → Bool) (p : Pt) {j : Nat} (h : j < 4) : edS S p (j + 1) = edS S p j + if !S (p.x + (st4[j]'h).x) (p.y + (st4[j]'h).y) then 1 else 0 := by
  unfold edS
  rw [List.take_succ_eq_append_getElem (show j < st4.length from h), List.countP_append, List.countP_singleton]
  rfl

theorem edS_le (S : Int → Int → Bool) (p : Pt) (j : Nat) : edS S p j ≤ 4 := by
  unfold edS
  refine Nat.le_trans List.countP_le_length ?_
  rw [List.length_take]
  exact Nat.min_le_right _ _

theorem edS_all (S : Int → Int → Bool) (p : Pt) : edS S p 4 = edN S p := by
  cases p with | mk x y =>
  unfold edS edN edJ st4 nb4E
  have e1 : x + -1 = x - 1 := by omega
  have e2 : y + -1 = y - 1 := by omega
  simp only [List.take, List.countP_cons, List.countP_nil, Int.add_zero, e1, e2]
  omega

theorem cellsG_lenE (G : Grd) (k : Nat) : (cellsG G k).length ≤ k := by
  unfold cellsG
  rw [List.length_map]
  exact Nat.le_trans (List.length_filter_le _ _) (by simp)

end Go.Bl
namespace Go.Proofs.YtgcpegjggakemaaGreatDoor
open Go Go.RowKit Go.Bl

set_option maxHeartbeats 2000000 in
set_option maxRecDepth 100000 in
theorem countCloE_any (g b gc ge gg : Nat) (G : Grd) (n e x y : Int) (w : World) (hc : Box w gc 3 [.int .i64 n]) (he : Box w ge 3 [.int .i64 e]) (hgg : Box w gg 97 [.pointer (some ⟨g, 0, none⟩)]) (hG : GridAt w g b G)
    (hn : gc ≠ ge ∧ gc ≠ gg ∧ ge ≠ gg ∧ gc ≠ g ∧ gc ≠ b ∧ ge ≠ g ∧ ge ≠ b) (hb : 0 ≤ n ∧ n ≤ 10000000 ∧ 0 ≤ e ∧ e ≤ 10000000) (hx : -99999999 ≤ x ∧ x ≤ 99999999) (hy : -99999999 ≤ y ∧ y ≤ 99999999) :
    Calls Tryz.prog 83 #[.int .i64 x, .int .i64 y, .pointer (some ⟨gc, 0, none⟩), .pointer (some ⟨gg, 0, none⟩), .pointer (some ⟨ge, 0, none⟩)] w fun e1 w' => e1 = .returned (.tuple #[]) ∧ ∃ e2 : Int, e2 = e + ((edS G.at ⟨x, y⟩ 4 : Nat) : Int) ∧ Box w' gc 3 [.int .i64 (n + 1)] ∧ Box w' ge 3 [.int .i64 e2] ∧ (∀ w0 : World, w0.grownBy w none → w0.heap.size ≤ gc → w0.heap.size ≤ ge → w0.grownBy w' none) ∧ Box w' gg 97 [.pointer (some ⟨g, 0, none⟩)] ∧ GridAt w' g b G := by
  have hJ0 : edS G.at ⟨x, y⟩ 0 = 0 := rfl
  have hJn : Hid (∀ j (h : j < 4), edS G.at ⟨x, y⟩ (j + 1) = edS G.at ⟨x, y⟩ j + if !G.at (x + (st4[j]'h).x) (y + (st4[j]'h).y) then 1 else 0) := fun j h => edS_next G.at ⟨x, y⟩ h
  have hJl : Hid (∀ j, edS G.at ⟨x, y⟩ j ≤ 4) := fun j => edS_le _ _ j
  generalize edS G.at ⟨x, y⟩ = EJ at *
  obtain ⟨c0, f0⟩ := hc.c 0 rfl
  go_enter Tryz.func83, Tryz.ntmps83
  go_upto_region 1 with fail
  clear c0 f0
  have hgs := gr_set (World.grownBy.refl w (some gc)) (p := ⟨gc, 0, none⟩) (.inl rfl) (.int .i64 (n + 1))
  have hc1 : Box (w.setCell ⟨gc, 0, none⟩ (.int .i64 (n + 1))) gc 3 [.int .i64 (n + 1)] := hc.set_ 0 (.int .i64 (n + 1)) (by simp)
  have he1 := he.gr hgs (by intro e; injection e with e; exact hn.1 e)
  have hgg1 := hgg.gr hgs (by intro e; injection e with e; exact hn.2.1 e)
  have hG1 := hG.gr hgs (by intro e; injection e with e; exact hn.2.2.2.1 e) (by intro e; injection e with e; exact hn.2.2.2.2.1 e)
  have hnew : Hid (∀ w0 : World, w0.grownBy w none → w0.heap.size ≤ gc → w0.grownBy (w.setCell ⟨gc, 0, none⟩ (.int .i64 (n + 1))) none) := fun w0 h h1 => gr_new h hgs h1
  generalize w.setCell ⟨gc, 0, none⟩ (.int .i64 (n + 1)) = w1 at *
  clear hc he hgg hG hgs
  go_wp2_with fail
  refine (steps_any w1).mono ?_
  rintro e9 w2 ⟨A, rfl, hsl, hg2⟩
  have hgeb : ge < w1.heap.size := he1.lt
  replace he1 := he1.pure hg2
  have hfx : Hid (∀ wx, w2.grownBy wx (some ge) → Box wx gc 3 [.int .i64 (n + 1)] ∧ Box wx gg 97 [.pointer (some ⟨g, 0, none⟩)] ∧ GridAt wx g b G ∧ (∀ w0 : World, w0.grownBy w none → w0.heap.size ≤ gc → w0.heap.size ≤ ge → w0.grownBy wx none)) := fun wx h =>
    ⟨(hc1.pure hg2).gr h (by intro e; injection e with e; exact hn.1 e.symm), (hgg1.pure hg2).gr h (by intro e; injection e with e; exact hn.2.2.1 e), (hG1.pure hg2).gr h (by intro e; injection e with e; exact hn.2.2.2.2.2.1 e) (by intro e; injection e with e; exact hn.2.2.2.2.2.2 e),
      fun w0 h0 h1 h2 => gr_new ((hnew.out w0 h0 h1).t hg2) h h2⟩
  have hself := World.grownBy.refl w2 (some ge)
  replace hn := hide hn
  clear hc1 hgg1 hG1 hnew hg2
  go_wp2_with fail
  go_loopw [13] (fun i wr => ∃ (j : Nat) (e2 : Int), j ≤ 4 ∧ i = .int .i64 j ∧ e2 = e + ((EJ j : Nat) : Int) ∧ Box wr ge 3 [.int .i64 e2] ∧ w2.grownBy wr (some ge)) (fun i _ => 4 - (intOf i).toNat)
  case atStart => exact ⟨0, e, by omega, rfl, by rw [hJ0]; omega, he1, hself⟩
  case round =>
    clear he1 hself
    obtain ⟨j, e2, hj, rfl, hee, hbe, hgr⟩ := hrel
    have heb : e ≤ e2 ∧ e2 ≤ e + 4 := by have := hJl.out j; omega
    replace hee := hide hee
    by_cases hlt : j < 4
    · obtain ⟨-, k2, k3, -⟩ := hfx.out wr hgr
      have hlt' : j < ([⟨0, -1⟩, ⟨-1, 0⟩, ⟨1, 0⟩, ⟨0, 1⟩] : List Pt).length := hlt
      have hslr := hsl.gr hgr (fun q e => by injection e; omega)
      obtain ⟨P, hP⟩ : ∃ P, P = ([⟨0, -1⟩, ⟨-1, 0⟩, ⟨1, 0⟩, ⟨0, 1⟩] : List Pt)[j]'hlt' := ⟨_, rfl⟩
      have hJ := hJn.out j hlt
      rw [show st4[j]'hlt = P from hP.symm] at hJ
      have hJb := hJl.out j
      have hPb : (-1 ≤ P.x ∧ P.x ≤ 1) ∧ (-1 ≤ P.y ∧ P.y ≤ 1) := by
        rw [hP]
        rcases (show j = 0 ∨ j = 1 ∨ j = 2 ∨ j = 3 by omega) with rfl | rfl | rfl | rfl <;> simp
      obtain ⟨q, o, cx, rfl, hb0, hb1, hrr, hcc⟩ := hslr.at_ (by decide) hlt'
      rw [← hP] at hrr
      subst hrr
      have p0 : wr.cell? ⟨q, o + j * 2, none⟩ = some (.int .i64 P.x) := hcc 0 _ rfl
      have p1 : wr.cell? ⟨q, o + j * 2 + 1, none⟩ = some (.int .i64 P.y) := hcc 1 _ rfl
      obtain ⟨px, py⟩ := P
      simp only at hPb p0 p1 hJ
      clear hcc hP hlt' hslr
      go_upto_region 4 with fail
      clear p0 p1
      obtain ⟨w8, hw8⟩ : ∃ x, x = (wr).alloc (.cells [.int .i64 px, .int .i64 py].toArray 30) := ⟨_, rfl⟩
      have hg8 : (wr).grownBy w8 none := by rw [hw8]; exact gr_alloc (World.grownBy.refl _ _) _
      have hb8 : Box w8 (wr).heap.size 30 [.int .i64 px, .int .i64 py] := by rw [hw8]; exact Box.new _ _ _
      have hxs8 := hb8.lt
      rw [← hw8]
      clear hw8
      obtain ⟨x8, hx8⟩ : ∃ x, x = (wr).heap.size := ⟨_, rfl⟩
      rw [← hx8] at hb8 hxs8 ⊢
      have hxl8 : (wr).heap.size ≤ x8 := by omega
      clear hx8
      obtain ⟨m0, -⟩ := (k2.pure hg8).c 0 rfl
      obtain ⟨e0, -⟩ := hb8.c 0 rfl
      obtain ⟨e1, -⟩ := hb8.c 1 rfl
      have hA := hide (at_any g b G (x + px) (y + py) w8 (k3.pure hg8) (by omega) (by omega))
      have hgb := gr_trans hgr (gr_any hg8)
      replace hbe := hbe.pure hg8
      clear k2 k3 hb0 hb1 hsl hgr hb8
      go_wp2_with fail
      refine hA.out.mono ?_
      rintro e9 w9 ⟨rfl, hg9⟩
      replace hbe := hbe.pure hg9
      replace hgb := gr_trans hgb (gr_any hg9)
      clear hA m0 e0 e1 hg9
      generalize G.at (x + px) (y + py) = v at *
      replace hJ := hide hJ
      cases v
      · obtain ⟨z0, zf⟩ := hbe.c 0 rfl
        go_wp2_with fail
        (go_roundw; (case rel => exact ⟨j + 1, e2 + 1, by omega, by go_num, by have h := hJ.out; have h2 := hee.out; simp at h; omega, hbe.set_ 0 _ (by simp), gr_set hgb (.inl rfl) _⟩); (case measure => simp [intOf]; omega))
      · go_wp2_with fail
        (go_roundw; (case rel => exact ⟨j + 1, e2, by omega, by go_num, by have h := hJ.out; have h2 := hee.out; simp at h; omega, hbe, hgb⟩); (case measure => simp [intOf]; omega))
    · obtain rfl : j = 4 := by omega
      obtain ⟨k1, k2, k3, k4⟩ := hfx.out wr hgr
      clear hJn hJl
      go_wp2_with fail
      go_end0
      exact ⟨rfl, e2, hee.out, k1, hbe, k4, k2, k3⟩

def CntE (w0 : World) (g b gc ge gg : Nat) (G : Grd) (k : Nat) (w : World) : Prop :=
  ∃ e : Int, e = ((edL G.at (cellsG G k) : Nat) : Int) ∧ Box w gc 3 [.int .i64 (cntK G k)] ∧ Box w ge 3 [.int .i64 e] ∧ w0.grownBy w none ∧ Box w gg 97 [.pointer (some ⟨g, 0, none⟩)] ∧ GridAt w g b G

theorem CntE.pure {w0 w w' : World} {g b gc ge gg : Nat} {G : Grd} {k : Nat} (h : CntE w0 g b gc ge gg G k w) (hg : w.grownBy w' none) : CntE w0 g b gc ge gg G k w' :=
  let ⟨e, h1, h2, h3, h4, h5, h6⟩ := h
  ⟨e, h1, h2.pure hg, h3.pure hg, h4.t hg, h5.pure hg, h6.pure hg⟩

theorem CntE.skip {w0 w : World} {g b gc ge gg : Nat} {G : Grd} {k : Nat} (h : CntE w0 g b gc ge gg G k w) (hv : G.on.getD k false = false) : CntE w0 g b gc ge gg G (k + 1) w :=
  let ⟨e, h1, h2, h3, h4, h5, h6⟩ := h
  ⟨e, by rw [cellsG_next, hv]; simpa using h1, by rw [cntK_next, hv]; exact h2, h3, h4, h5, h6⟩

set_option maxHeartbeats 4000000 in
set_option maxRecDepth 100000 in
theorem countE_any (c : Cel) (A : Option Addr) (n cc : Nat) (w : World) (ha : CArg w c A n) :
    Calls Tryz.prog 16 #[.agg #[.int .i64 (c).step, .int .i64 (c).x, .int .i64 (c).y, .slice A n cc]] w fun e w' => ∃ N E : Int, e = .returned (.tuple #[.int .i64 N, .int .i64 E, .int .i64 (cellsF c)]) ∧ (CellsOk c → N = cntK (gridOf c) (gridOf c).on.length ∧ E = ((edL (gridOf c).at (cellsG (gridOf c) (gridOf c).on.length) : Nat) : Int)) ∧ (cellsF c ≠ 0 → N = 0 ∧ E = 0) ∧ w.grownBy w' none := by
  have hCh := hide (fun W (h : w.grownBy W none) => checkArg_any c A n cc W (ha.pure h))
  have hGr := hide (fun W (h : w.grownBy W none) (hok : CellsOk c) => gridArg_any c A n cc W (ha.pure h) hok)
  clear ha
  have hok' : Hid (cellsF c = 0 ↔ CellsOk c) := cells_ok
  go_enter Tryz.func16, Tryz.ntmps16
  go_upto_region 1 with fail
  obtain ⟨w0, hw0⟩ : ∃ x, x = (w).alloc (.cells [.int .i64 (c).step, .int .i64 (c).x, .int .i64 (c).y, .slice A n cc].toArray 34) := ⟨_, rfl⟩
  have hg0 : (w).grownBy w0 none := by rw [hw0]; exact gr_alloc (World.grownBy.refl _ _) _
  have hb0 : Box w0 (w).heap.size 34 [.int .i64 (c).step, .int .i64 (c).x, .int .i64 (c).y, .slice A n cc] := by rw [hw0]; exact Box.new _ _ _
  have hxs0 := hb0.lt
  rw [← hw0]
  clear hw0
  obtain ⟨x0, hx0⟩ : ∃ x, x = (w).heap.size := ⟨_, rfl⟩
  rw [← hx0] at hb0 hxs0 ⊢
  have hxl0 : (w).heap.size ≤ x0 := by omega
  clear hx0
  obtain ⟨⟨a0, -⟩, ⟨a1, -⟩, ⟨a2, -⟩, ⟨a3, -⟩⟩ := box4_c hb0
  go_wp2_with fail
  refine (hCh.out w0 hg0).mono ?_
  rintro e w1 ⟨rfl, hg1⟩
  clear a0 a1 a2 a3 hCh
  have hgw1 := hg0.t hg1
  replace hb0 := hb0.pure hg1
  obtain ⟨F, hF⟩ : ∃ F, cellsF c = F := ⟨_, rfl⟩
  rw [hF] at hok' ⊢
  by_cases h0 : F = 0
  · subst h0
    replace hF := hide hF
    have ok := hide (hok'.out.1 rfl)
    clear hg0 hg1
    go_upto_region 5 with fail
    obtain ⟨w5, hw5⟩ : ∃ x, x = ((w1).alloc (.cells [.int .i64 0].toArray 3)).alloc (.cells [.int .i64 0].toArray 3) := ⟨_, rfl⟩
    have hba5 : Box w5 (w1).heap.size 3 [.int .i64 0] := by
      rw [hw5]; exact (Box.new (w1) [.int .i64 0] 3).pure (gr_alloc (World.grownBy.refl _ _) _)
    have hbb5 : Box w5 ((w1).heap.size + 1) 3 [.int .i64 0] := by
      have h := Box.new ((w1).alloc (.cells [.int .i64 0].toArray 3)) [.int .i64 0] 3
      rw [show ((w1).alloc (.cells [.int .i64 0].toArray 3)).heap.size = (w1).heap.size + 1 by simp] at h
      rw [hw5]; exact h
    have hg5 : (w1).grownBy w5 none := by rw [hw5]; exact (by repeat (first | exact World.grownBy.refl _ _ | assumption | refine gr_alloc ?_ _ | (apply gr_tail; assumption) | refine gr_drewN ?_ _ | refine gr_drew ?_))
    rw [← hw5]
    clear hw5
    obtain ⟨xb5, hxb5⟩ : ∃ x, x = (w1).heap.size + 1 := ⟨_, rfl⟩
    rw [← hxb5] at hbb5 ⊢
    obtain ⟨xa5, hxa5⟩ : ∃ x, x = (w1).heap.size := ⟨_, rfl⟩
    rw [← hxa5] at hba5 ⊢
    have hxn5 : xa5 ≠ xb5 := by omega
    replace hxa5 : (w1).heap.size ≤ xa5 := by omega
    replace hxb5 : (w1).heap.size ≤ xb5 := by omega
    obtain ⟨⟨a0, -⟩, ⟨a1, -⟩, ⟨a2, -⟩, ⟨a3, -⟩⟩ := box4_c (hb0.pure hg5)
    go_wp2_with fail
    refine (hGr.out w5 (hgw1.t hg5) ok.out).mono ?_
    rintro e w6 ⟨g, b, rfl, hG, hg6, hgg, hgb⟩
    clear a0 a1 a2 a3 hGr hb0
    go_upto_region 6 with fail
    obtain ⟨w8, hw8⟩ : ∃ x, x = (w6).alloc (.cells [.pointer (some ⟨g, 0, none⟩)].toArray 97) := ⟨_, rfl⟩
    have hg8 : (w6).grownBy w8 none := by rw [hw8]; exact gr_alloc (World.grownBy.refl _ _) _
    have hb8 : Box w8 (w6).heap.size 97 [.pointer (some ⟨g, 0, none⟩)] := by rw [hw8]; exact Box.new _ _ _
    have hxs8 := hb8.lt
    rw [← hw8]
    clear hw8
    obtain ⟨x8, hx8⟩ : ∃ x, x = (w6).heap.size := ⟨_, rfl⟩
    rw [← hx8] at hb8 hxs8 ⊢
    have hxl8 : (w6).heap.size ≤ x8 := by omega
    clear hx8
    have hG8 := hG.pure hg8
    have hba8 := (hba5.pure hg6).pure hg8
    have hbb8 := (hbb5.pure hg6).pure hg8
    have hgw8 := ((hgw1.t hg5).t hg6).t hg8
    have hsz1 := hgw1.size
    have hsz6 := hg6.size
    have hla := hba5.lt
    have hlb := hbb5.lt
    have hlen : (gridOf c).on.length ≤ 1000000 := by rw [hG.ok.n]; exact ix_bd hG.ok.w hG.ok.h
    have hne : xa5 ≠ xb5 ∧ xa5 ≠ x8 ∧ xb5 ≠ x8 ∧ xa5 ≠ g ∧ xa5 ≠ b ∧ xb5 ≠ g ∧ xb5 ≠ b := by omega
    have hE := each_any g b (gridOf c) 83 #[] #[.pointer (some ⟨xa5, 0, none⟩), .pointer (some ⟨x8, 0, none⟩), .pointer (some ⟨xb5, 0, none⟩)] (fun k wx => CntE w g b xa5 xb5 x8 (gridOf c) k wx) w8
      (fun k wx h => by obtain ⟨e, h1, h2, h3, h4, h5, h6⟩ := h; exact h6)
      (fun k wx hk hv h => h.skip hv)
      (fun k wx wy h hg => h.pure hg)
      (fun k wx hk hv h => by
        obtain ⟨e, h1, h2, h3, h4, h5, h6⟩ := h
        have hin := (hG.ok.in_of hk).1
        unfold Grd.In at hin
        have := hG.ok.x; have := hG.ok.y; have := hG.ok.w; have := hG.ok.h
        have := cntK_le (gridOf c) k
        have hel := edL_le (gridOf c).at (cellsG (gridOf c) k)
        have hcl := cellsG_lenE (gridOf c) k
        refine (countCloE_any g b xa5 xb5 x8 (gridOf c) (cntK (gridOf c) k) e ((gridOf c).cx k) ((gridOf c).cy k) wx h2 h3 h5 h6 hne (by omega) (by omega) (by omega)).mono ?_
        rintro e1 wy ⟨rfl, e2, he2, k1, k2, k3, k4, k5⟩
        exact ⟨rfl, e2, by rw [cellsG_next, hv, if_pos rfl, edL_snoc, he2, h1, edS_all]; push_cast; rfl, by rw [cntK_next, hv]; exact k1, k2, k3 w h4 (by omega) (by omega), k4, k5⟩)
      (fun xs wx => run_enter Tryz.func83 (by kernel_rfl) rfl xs wx)
      ⟨0, rfl, hba8, hbb8, hgw8, hb8, hG8⟩
    replace hE := hide hE
    obtain ⟨m0, -⟩ := hb8.c 0 rfl
    clear hG hG8 hba8 hbb8 hba5 hbb5 hne hlen
    go_wp2_with fail
    refine hE.out.mono ?_
    rintro e w9 ⟨rfl, e9, he9, k1, k2, k3, -, -⟩
    replace he9 := hide he9
    obtain ⟨K, hK⟩ : ∃ K, cntK (gridOf c) (gridOf c).on.length = K := ⟨_, rfl⟩
    rw [hK] at k1
    replace hK := hide hK
    obtain ⟨z0, -⟩ := k1.c 0 rfl
    obtain ⟨z1, -⟩ := k2.c 0 rfl
    clear hE m0
    go_upto_region 7 with fail
    go_quiet (fail)
    go_wp2_with fail
    exact bodyPost_ret (v := .tuple #[.int .i64 K, .int .i64 e9, .int .i64 0]) (by simp [results, Tryz.results16, go_sem]) rfl ⟨K, e9, by rw [hF.out], fun _ => ⟨by rw [hK.out], he9.out⟩, fun h => absurd (by first | rfl | exact hF.out) h, gr_drewN k3 _⟩
  · have hb : (F != 0) = true := by simp [h0]
    replace h0 := hide h0
    go_wp2_with fail
    exact bodyPost_ret (v := .tuple #[.int .i64 0, .int .i64 0, .int .i64 F]) (by simp [results, Tryz.results16, go_sem]) rfl ⟨0, 0, by rw [hF], fun h => absurd (hok'.out.2 h) h0.out, fun _ => ⟨rfl, rfl⟩, hgw1⟩

end Go.Proofs.YtgcpegjggakemaaGreatDoor

namespace Go.Bl
open Go

theorem cellsG_nodup {G : Grd} (h : G.Ok) : (cellsG G G.on.length).Nodup := by
  unfold cellsG
  refine nodup_map_on (List.nodup_range.filter _) ?_
  intro a ha b hb e
  rw [List.mem_filter, List.mem_range] at ha hb
  injection e with ex ey
  have h1 := (h.in_of ha.1).2
  have h2 := (h.in_of hb.1).2
  rw [ex, ey, h2] at h1
  exact h1.symm

theorem cntK_len (G : Grd) (k : Nat) : cntK G k = (cellsG G k).length := by
  unfold cntK cellsG
  rw [List.countP_eq_length_filter, List.length_map]

theorem counts_same {c : Cel} (h : CellsOk c) {l : List Pt} (hn : l.Nodup) (hl : ∀ p, p ∈ l ↔ onC c p.x p.y = true) :
    cntK (gridOf c) (gridOf c).on.length = l.length ∧ edL (gridOf c).at (cellsG (gridOf c) (gridOf c).on.length) = edL (onC c) l := by
  have hat : (gridOf c).at = onC c := funext fun x => funext fun y => gridOf_at h
  have hp : (cellsG (gridOf c) (gridOf c).on.length).Perm l := by
    rw [List.perm_ext_iff_of_nodup (cellsG_nodup (gridOf_ok h)) hn]
    intro p
    rw [cellsG_all (gridOf_ok h), hat, hl]
  exact ⟨by rw [cntK_len, hp.length_eq], by rw [hat, edL_perm hp]⟩

end Go.Bl

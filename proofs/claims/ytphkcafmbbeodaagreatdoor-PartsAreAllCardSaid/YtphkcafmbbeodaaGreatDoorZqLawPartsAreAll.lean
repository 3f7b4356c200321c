/- Contracts of functions that this seat's laws reach, each: what one call returns and what it leaves in memory; no condition beyond each theorem's own hypotheses. -/
import Derived.Test.YtphkcafmbbeodaaGreatDoorZqReady
import Derived.Test.YtphkcafmbbeodaaGreatDoorZqPrtLaw
import Derived.Test.YtphkcafmbbeodaaGreatDoorZqCelAA
import Derived.Test.YtphkcafmbbeodaaGreatDoorZqCelN
set_option linter.unusedVariables false
set_option linter.unusedSimpArgs false
namespace Go.Proofs.YtphkcafmbbeodaaGreatDoor
open Go Go.RowKit Go.Bl

/-- cells that lie in a row of cells -/
theorem sl_cel {w : World} {lo g c : Nat} {e : TypeId} {raws : List RawC} (hO : Own w lo e (some ⟨g, 0, none⟩) c raws) {k : Nat} (hlt : k < raws.length) :
    w.cell? ⟨g, k * 4, none⟩ = some (.int .i64 raws[k].step) ∧ w.cell? ⟨g, k * 4 + 1, none⟩ = some (.int .i64 raws[k].x) ∧ w.cell? ⟨g, k * 4 + 2, none⟩ = some (.int .i64 raws[k].y) ∧ w.cell? ⟨g, k * 4 + 3, none⟩ = some (.slice raws[k].A raws[k].n raws[k].c) := by
  obtain ⟨cc, hcr, hcc⟩ := hO.cell_at (by decide) hlt
  have hcr' : cc = [.int .i64 raws[k].step, .int .i64 raws[k].x, .int .i64 raws[k].y, .slice raws[k].A raws[k].n raws[k].c] := hcr
  subst hcr'
  exact ⟨hcc 0 _ rfl, hcc 1 _ rfl, hcc 2 _ rfl, hcc 3 _ rfl⟩

set_option maxHeartbeats 8000000 in
set_option maxRecDepth 100000 in
theorem partsAreAll_law (A : Option Addr) (n c : Nat) (L : List Int) (w : World) (hL : Sl w 0 A L) (hn : L.length = n) :
    Calls Tryz.prog 4 #[.slice A n c] w fun e w' => e = .returned (.bool true) ∧ w.grownBy w' none := by
  have hs0 := strm_new (c := c) 25 hL hn
  have hg0 := gr_alloc (World.grownBy.refl w none) (.cells #[.slice A n c, .int .i64 0] 25)
  have hR := hide (rightCells_any _ 0 4 _ hs0 (by omega) (by decide))
  go_enter Tryz.func4, Tryz.ntmps4
  go_wp2_with fail
  refine hR.out.mono ?_
  rintro e w1 ⟨a, A1, cc1, rfl, hl1, hoka, hsta, hna, ho1⟩
  replace hl1 := hl1.mono (show w.heap.size + 1 ≤ _ by simp)
  obtain ⟨n1, hn1⟩ : ∃ q, q = a.rows.length := ⟨_, rfl⟩
  rw [← hn1]
  obtain ⟨b, hb⟩ : ∃ q, q = w.heap.size := ⟨_, rfl⟩
  rw [← hb] at hl1 ho1 ⊢
  replace hb : w.heap.size ≤ b := by omega
  have hgb : w.grownBy w1 none := gr_new hg0 ho1.1 (by omega)
  clear hR hs0 hL hg0 ho1
  replace hn1 := hide hn1
  replace hsta := hide hsta
  replace hoka := hide hoka
  replace hna := hide hna
  go_upto_region 3 with fail
  obtain ⟨w4, hw4⟩ : ∃ x, x = (w1).alloc (.cells [.int .i64 (a).step, .int .i64 (a).x, .int .i64 (a).y, .slice A1 n1 cc1].toArray 28) := ⟨_, rfl⟩
  have hg4 : (w1).grownBy w4 none := by rw [hw4]; exact gr_alloc (World.grownBy.refl _ _) _
  have hb4 : Box w4 (w1).heap.size 28 [.int .i64 (a).step, .int .i64 (a).x, .int .i64 (a).y, .slice A1 n1 cc1] := by rw [hw4]; exact Box.new _ _ _
  have hxs4 := hb4.lt
  rw [← hw4]
  clear hw4
  obtain ⟨x4, hx4⟩ : ∃ x, x = (w1).heap.size := ⟨_, rfl⟩
  rw [← hx4] at hb4 hxs4 ⊢
  have hxl4 : (w1).heap.size ≤ x4 := by omega
  clear hx4
  have hA4 := CArg.mk (w := w4) ((hl1.pure hg4).mono (Nat.zero_le _)) hn1.out.symm hoka.out.smallP
  have hgw4 := hgb.t hg4
  clear hl1 hgb hg4 hxs4 hxl4
  obtain ⟨⟨a0, -⟩, ⟨a1, -⟩, ⟨a2, -⟩, ⟨a3, -⟩⟩ := box4_c hb4
  have hcon := hide (parts_any a A1 n1 cc1 w4 hA4)
  go_wp2_with fail
  refine hcon.out.mono ?_
  rintro e w5 ⟨Ap, cp, raws, rfl, hOp, hMp, hg5⟩
  have hz : cellsF a = 0 := cells_ok.2 hoka.out
  have hpv : partsV a = partsC a := by unfold partsV; rw [if_pos hz]
  rw [hz]
  rw [hpv] at hMp
  clear a0 a1 a2 a3 hcon hpv
  replace hA4 := hA4.pure hg5
  replace hb4 := hb4.pure hg5
  have hgw5 := hgw4.t hg5
  replace hOp := hOp.lower (Nat.zero_le _)
  clear hg5 hgw4
  obtain ⟨⟨a0, -⟩, ⟨a1, -⟩, ⟨a2, -⟩, ⟨a3, -⟩⟩ := box4_c hb4
  have hcon := hide (closed_any a A1 n1 cc1 w5 hA4)
  go_wp2_with fail
  refine hcon.out.mono ?_
  rintro e w6 ⟨d, er, D, dd, rfl, hRd, hOd, hg6⟩
  obtain ⟨he, hokd, hstd, hond⟩ := clos_res hoka.out hna.out hRd
  subst he
  obtain ⟨m, hm⟩ : ∃ q, q = d.rows.length := ⟨_, rfl⟩
  rw [← hm]
  have hD6 := CArg.mk (w := w6) (hOd.sl.mono (Nat.zero_le _)) hm.symm hokd.smallP
  clear a0 a1 a2 a3 hcon hRd
  replace hA4 := hA4.pure hg6
  replace hb4 := hb4.pure hg6
  replace hOp := hOp.pure hg6
  replace hMp := hMp.pure hg6
  have hgw6 := hgw5.t hg6
  clear hg6 hgw5 hOd
  replace hokd := hide hokd
  replace hond := hide hond
  replace hstd := hide hstd
  replace hm := hide hm
  go_upto_region 5 with fail
  obtain ⟨w7, hw7⟩ : ∃ x, x = (w6).alloc (.cells [.int .i64 (d).step, .int .i64 (d).x, .int .i64 (d).y, .slice D m dd].toArray 28) := ⟨_, rfl⟩
  have hg7 : (w6).grownBy w7 none := by rw [hw7]; exact gr_alloc (World.grownBy.refl _ _) _
  have hb7 : Box w7 (w6).heap.size 28 [.int .i64 (d).step, .int .i64 (d).x, .int .i64 (d).y, .slice D m dd] := by rw [hw7]; exact Box.new _ _ _
  have hxs7 := hb7.lt
  rw [← hw7]
  clear hw7
  obtain ⟨x7, hx7⟩ : ∃ x, x = (w6).heap.size := ⟨_, rfl⟩
  rw [← hx7] at hb7 hxs7 ⊢
  have hxl7 : (w6).heap.size ≤ x7 := by omega
  clear hx7
  have hD7 := hD6.pure hg7
  replace hA4 := hA4.pure hg7
  replace hb4 := hb4.pure hg7
  replace hOp := hOp.pure hg7
  replace hMp := hMp.pure hg7
  have hgw7 := hgw6.t hg7
  clear hg7 hgw6 hD6 hxs7 hxl7
  obtain ⟨⟨a0, -⟩, ⟨a1, -⟩, ⟨a2, -⟩, ⟨a3, -⟩⟩ := box4_c hb4
  have hcon := hide (count_any a A1 n1 cc1 w7 hA4)
  go_wp2_with fail
  refine hcon.out.mono ?_
  rintro e w8 ⟨N, E, rfl, hN, hg8⟩
  rw [hz]
  replace hN := hN hoka.out
  rw [cnt_of hoka.out hna.out] at hN
  clear a0 a1 a2 a3 hcon
  have hD8 := hD7.pure hg8
  replace hb7 := hb7.pure hg8
  replace hA4 := hA4.pure hg8
  replace hb4 := hb4.pure hg8
  replace hOp := hOp.pure hg8
  replace hMp := hMp.pure hg8
  have hgw8 := hgw7.t hg8
  clear hg8 hgw7 hD7
  have hNb : 0 ≤ N ∧ N ≤ 10000 := by rw [hN]; have := cntS_le (onC a); omega
  have hrn : Hid (raws.length = (repsC a).length) := by rw [Hid, hMp.1, partC_len hoka.out]
  have hat := hide (fun i h1 h2 => partC_at (i := i) hoka.out hna.out h1 h2)
  have hone := hide (fun (x : Cel) (hx : CellsOk x) r hr hon => part_one hoka.out hx (r := r) hr hon)
  have hunn := hide (fun i => unC_near hoka.out hna.out i)
  have hcnt := hide (fun i h => unC_cnt (i := i) hoka.out h)
  have hcmp := hide (fun r hr => comp_near hoka.out hna.out (r := r) hr)
  have hall := hide (unC_all hoka.out)
  have hsup := hide (fun x y h => closC_sup (x := x) (y := y) hoka.out h)
  have hcc := hide (closC_closC hoka.out hokd.out hond.out)
  have hdn : Hid (NearS (closC a)) := closC_near hoka.out hna.out
  have hsta' : Hid (a.step = 4) := hsta.out
  replace hz := hide hz
  replace hN := hide hN
  clear hsta
  have hl4 := hb4.lt
  have hl7 := hb7.lt
  go_upto_region 9 with fail
  obtain ⟨w12, hw12⟩ : ∃ x, x = (w8).alloc (.cells [.int .i64 4, .int .i64 0, .int .i64 0, .slice none 0 0].toArray 28) := ⟨_, rfl⟩
  have hg12 : (w8).grownBy w12 none := by rw [hw12]; exact gr_alloc (World.grownBy.refl _ _) _
  have hb12 : Box w12 (w8).heap.size 28 [.int .i64 4, .int .i64 0, .int .i64 0, .slice none 0 0] := by rw [hw12]; exact Box.new _ _ _
  have hxs12 := hb12.lt
  rw [← hw12]
  clear hw12
  obtain ⟨x12, hx12⟩ : ∃ x, x = (w8).heap.size := ⟨_, rfl⟩
  rw [← hx12] at hb12 hxs12 ⊢
  have hxl12 : (w8).heap.size ≤ x12 := by omega
  clear hx12
  have hCA := hide (fun W (h : w12.grownBy W (some x12)) => (⟨hA4.pure (gr_new hg12 h hxl12), hD8.pure (gr_new hg12 h hxl12)⟩ : CArg W a A1 n1 ∧ CArg W d D m))
  replace hb7 := hb7.pure hg12
  replace hA4 := hA4.pure hg12
  replace hb4 := hb4.pure hg12
  have hOlt := fun x (h : blk Ap = some x) => (hOp.blk_lt h).2
  replace hOp := hOp.pure hg12
  replace hMp := hMp.pure hg12
  have hgw9 := hgw8.t hg12
  have hx47 : x4 ≠ x12 ∧ x7 ≠ x12 := by omega
  have hxp : ∀ x, blk Ap = some x → some x12 ≠ some x := fun x h e => by injection e with e; have := hOlt x h; omega
  have hlen9 : w.heap.size ≤ x12 := by have := hgw8.size; omega
  clear hOlt hg12 hD8 hgw8 hl4 hl7
  have hFx := hide (fun W (h : w12.grownBy W (some x12)) => (⟨hb4.gr h (by intro e; injection e with e; exact hx47.1 e.symm), hb7.gr h (by intro e; injection e with e; exact hx47.2 e.symm), hOp.ne h hxp,
    hMp.keep h (fun A c rows ho x hx e => by injection e with e; subst e; exact hb12.ne_own ho (by decide) hx), gr_new hgw9 h hlen9⟩ : Box W x4 28 [.int .i64 (a).step, .int .i64 (a).x, .int .i64 (a).y, .slice A1 n1 cc1] ∧ Box W x7 28 [.int .i64 (d).step, .int .i64 (d).x, .int .i64 (d).y, .slice D m dd] ∧ Own W 0 28 Ap cp raws ∧ CMatch W w4.heap.size raws (partsC a) ∧ w.grownBy W none))
  have hself := World.grownBy.refl w12 (some x12)
  have hrl := hrn.out
  obtain ⟨rn, hrne⟩ : ∃ rn, rn = raws.length := ⟨_, rfl⟩
  rw [← hrne] at hrl ⊢
  replace hrne := hide hrne
  have hrnb : rn ≤ 10000000 := by
    have h1 := hrn.out
    have h2 := reps_len (onC a) (cellsG (gridOf a) (gridOf a).on.length)
    have h3 := cellsG_len (gridOf a) (gridOf a).on.length
    have h4 := (gridOf_ok hoka.out).n
    have h5 := ix_bd (gridOf_ok hoka.out).w (gridOf_ok hoka.out).h
    unfold repsC at hrl
    omega
  replace hrl := hide hrl
  have hlo12 : w.heap.size ≤ w12.heap.size := hgw9.size
  clear hb4 hb7 hOp hMp hgw9
  go_wp2_with fail
  go_loopw [9, 56] (fun s9 i wr => ∃ (i' : Nat) (kv : Int) (al : Cel) (Aa : Option Addr) (ca nl : Nat), i' ≤ rn ∧ i = .int .i64 i' ∧ s9 = .int .i64 kv ∧ Hid (kv = N - (cntS (unC a i') : Int)) ∧ Hid (nl = al.rows.length) ∧
    Hid (CellsOk al ∧ al.step = 4 ∧ ∀ x y, onC al x y = unC a i' x y) ∧ Box wr x12 28 [.int .i64 (al).step, .int .i64 (al).x, .int .i64 (al).y, .slice Aa nl ca] ∧ Own wr 0 9 Aa ca al.rows ∧ w12.grownBy wr (some x12)) (fun _ i _ => rn - (intOf i).toNat)
  case atStart => exact ⟨0, N, ⟨4, 0, 0, []⟩, none, 0, 0, Nat.zero_le _, rfl, rfl, by rw [Hid, cntS_none (fun x y => unC_zero x y)]; simp, rfl, ⟨ok_nil (by decide), rfl, fun x y => by rw [unC_zero, on_none rfl]⟩, hb12, Own.nil _ _ _, hself⟩
  case round =>
    clear hb12 hself
    obtain ⟨i, kv, al, Aa, ca, nl, hi, rfl, rfl, hkv, hnl, hal, hb12, hOa, hgr⟩ := hrel
    by_cases hlt : i < rn
    · have hF := hFx.out wr hgr
      have hltR : i < raws.length := by rw [← hrne.out]; exact hlt
      have hltC : i < (partsC a).length := by rw [← hF.2.2.2.1.1]; exact hltR
      have hltP : i < (repsC a).length := by rw [← hrn.out]; exact hltR
      obtain ⟨Ai, ci, hri, hOi⟩ := hF.2.2.2.1.2 i hltR hltC
      obtain ⟨gp, rfl, hgp, -⟩ := hF.2.2.1.shape (by omega)
      obtain ⟨r0, r1, r2, r3⟩ := sl_cel hF.2.2.1 hltR
      rw [hri] at r0 r1 r2 r3
      obtain ⟨hxo, hxs, hxon⟩ := hat.out i hltC hltP
      have hone1 := hone.out _ hxo _ (List.getElem_mem hltP) hxon
      have hcn := hcnt.out i hltP
      have hcp : 1 ≤ cntS (compB (onC a) (repsC a)[i]) := cntS_pos (hcmp.out _ (List.getElem_mem hltP)) comp_self
      have hcx : cntS (onC (partsC a)[i]) = cntS (compB (onC a) (repsC a)[i]) := by
        have : onC (partsC a)[i] = compB (onC a) (repsC a)[i] := funext fun x => funext fun y => hxon x y
        rw [this]
      have hcle := cntS_le (compB (onC a) (repsC a)[i])
      have hcn2 := cnt_of hxo (fun x y h => hcmp.out _ (List.getElem_mem hltP) x y (by rw [← hxon]; exact h))
      have hun1 := hide (unC_next (c := a) hltP)
      obtain ⟨xc, hx⟩ : ∃ z, z = (partsC a)[i] := ⟨_, rfl⟩
      rw [← hx] at r0 r1 r2 r3 hxo hxs hxon hone1 hcx hcn2 hOi
      obtain ⟨CB, hCB⟩ : ∃ CB, CB = compB (onC a) (repsC a)[i] := ⟨_, rfl⟩
      rw [← hCB] at hcn hcp hcx hcle hxon hun1
      simp only [rawOf] at r0 r1 r2 r3
      obtain ⟨nx, hnx⟩ : ∃ q, q = xc.rows.length := ⟨_, rfl⟩
      rw [← hnx] at r3
      have hXA := hide (fun W (h : wr.grownBy W none) => CArg.mk (w := W) ((hOi.sl.pure h).mono (Nat.zero_le _)) hnx.symm hxo.smallP)
      have hLA := hide (fun W (h : wr.grownBy W none) => CArg.mk (w := W) ((hOa.sl.pure h).mono (Nat.zero_le _)) hnl.out.symm hal.out.1.smallP)
      replace hnx := hide hnx
      replace hx := hide hx
      replace hCB := hide hCB
      replace hxo := hide hxo
      replace hxs := hide hxs
      replace hxon := hide hxon
      replace hone1 := hide hone1
      replace hcn := hide hcn
      replace hcx := hide hcx
      replace hcn2 := hide hcn2
      clear hF hri hOi
      go_upto_region 12 with fail
      obtain ⟨w14, hw14⟩ : ∃ x, x = (wr).alloc (.cells [.int .i64 (xc).step, .int .i64 (xc).x, .int .i64 (xc).y, .slice Ai nx ci].toArray 28) := ⟨_, rfl⟩
      have hg14 : (wr).grownBy w14 none := by rw [hw14]; exact gr_alloc (World.grownBy.refl _ _) _
      have hb14 : Box w14 (wr).heap.size 28 [.int .i64 (xc).step, .int .i64 (xc).x, .int .i64 (xc).y, .slice Ai nx ci] := by rw [hw14]; exact Box.new _ _ _
      have hxs14 := hb14.lt
      rw [← hw14]
      clear hw14
      obtain ⟨x14, hx14⟩ : ∃ x, x = (wr).heap.size := ⟨_, rfl⟩
      rw [← hx14] at hb14 hxs14 ⊢
      have hxl14 : (wr).heap.size ≤ x14 := by omega
      clear hx14
      have hx14 : x12 ≠ x14 := by have := hb12.lt; omega
      obtain ⟨⟨e0, -⟩, ⟨e1, -⟩, ⟨e2, -⟩, ⟨e3, -⟩⟩ := box4_c hb14
      have hcon := hide (count_any xc Ai nx ci w14 (hXA.out w14 hg14))
      clear r0 r1 r2 r3
      go_wp2_with fail
      refine hcon.out.mono ?_
      rintro e v1 ⟨N1, E1, rfl, hN1, hv1⟩
      rw [cells_ok.2 hxo.out]
      replace hN1 := hN1 hxo.out
      rw [hcn2.out, hcx.out] at hN1
      have hN1b : 1 ≤ N1 ∧ N1 ≤ 10000 := by omega
      replace hN1 := hide hN1
      clear e0 e1 e2 e3 hcon
      have hb14' := hb14.pure hv1
      have hg1 := hg14.t hv1
      obtain ⟨⟨e0, -⟩, ⟨e1, -⟩, ⟨e2, -⟩, ⟨e3, -⟩⟩ := box4_c hb14'
      have hcon := hide (parts_any xc Ai nx ci v1 (hXA.out v1 hg1))
      go_wp2_with fail
      refine hcon.out.mono ?_
      rintro e v2 ⟨Aq, cq, raw2, rfl, -, hMq, hv2⟩
      rw [cells_ok.2 hxo.out]
      have hlq : raw2.length = 1 := by rw [hMq.1]; exact hone1.out
      rw [hlq]
      have hb14'' := hb14'.pure hv2
      have hg2 := hg1.t hv2
      replace hb12 := hb12.pure hg2
      clear e0 e1 e2 e3 hcon hMq hlq hb14 hb14' hv1 hv2 hone1
      obtain ⟨⟨e0, -⟩, ⟨e1, -⟩, ⟨e2, -⟩, ⟨e3, -⟩⟩ := box4_c hb14''
      obtain ⟨⟨f0, -⟩, ⟨f1, -⟩, ⟨f2, -⟩, ⟨f3, -⟩⟩ := box4_c hb12
      have hcon := hide (union_any al xc Aa nl ca Ai nx ci v2 (hLA.out v2 hg2) (hXA.out v2 hg2))
      go_wp2_with fail
      refine hcon.out.mono ?_
      rintro e v3 ⟨cu, eu, Cu, cuc, rfl, hRu, hOu, hv3⟩
      have hnear : NearS (fun u v => onC al u v || onC xc u v) := fun u v h => hunn.out (i + 1) u v (by
        rw [hun1.out, ← hal.out.2.2, ← hxon.out]; exact h)
      obtain ⟨heu, hoku, hstu, honu⟩ := res_right hRu hal.out.1 hxo.out (by rw [hal.out.2.1, hxs.out, hsta'.out]) hnear
      subst heu
      obtain ⟨nu, hnu⟩ : ∃ q, q = cu.rows.length := ⟨_, rfl⟩
      rw [← hnu]
      have halu : Hid (CellsOk cu ∧ cu.step = 4 ∧ ∀ u v, onC cu u v = unC a (i + 1) u v) := ⟨hoku, by rw [hstu, hal.out.2.1], fun u v => by rw [honu, hun1.out, ← hal.out.2.2, ← hxon.out]⟩
      have hkvu : Hid (kv - N1 = N - (cntS (unC a (i + 1)) : Int)) := by
        rw [Hid, hkv.out, hN1.out, hcn.out]; simp; omega
      have hkvb : -20000 ≤ kv ∧ kv ≤ 20000 := by
        have := hkv.out; have := cntS_le (unC a i); omega
      have hb12v := hb12.pure hv3
      have hOu2 := hOu.lower (Nat.zero_le _)
      have hgr3 := gr_trans hgr (gr_any (hg2.t hv3))
      replace hnu := hide hnu
      clear e0 e1 e2 e3 f0 f1 f2 f3 hcon hRu hOu hnear hoku hstu honu hal hkv hN1 hcn hun1 hxon hxs hxo hXA hLA hb14'' hg1 hg2 hg14 hv3 hcx hcn2 hcp hcle
      obtain ⟨⟨d0, g0⟩, ⟨d1, g1⟩, ⟨d2, g2⟩, ⟨d3, g3⟩⟩ := box4_c hb12v
      go_upto_if 93 with fail
      clear d0 d1 d2 d3 g0 g1 g2 g3
      have hgs := set4_gr (w := v3) (g := x12) (.int .i64 cu.step) (.int .i64 cu.x) (.int .i64 cu.y) (.slice Cu nu cuc)
      have hbz := box_set4 hb12v (.int .i64 cu.step) (.int .i64 cu.x) (.int .i64 cu.y) (.slice Cu nu cuc)
      have hOz := hOu2.ne hgs (fun z hz e => by injection e with e; subst e; exact hb12v.ne_own hOu2 (by decide) hz)
      have hgz := gr_trans hgr3 hgs
      generalize (((v3.setCell ⟨x12, 0, none⟩ (.int .i64 cu.step)).setCell ⟨x12, 1, none⟩ (.int .i64 cu.x)).setCell ⟨x12, 2, none⟩ (.int .i64 cu.y)).setCell ⟨x12, 3, none⟩ (.slice Cu nu cuc) = vz at *
      clear hgs hb12v hOu2 hgr3 hgr hb12
      go_wp2_with fail
      (go_roundw; (case rel => exact ⟨i + 1, kv - N1, cu, Cu, cuc, nu, by omega, by go_num, by go_num, hkvu, hnu, halu, hbz, hOz, hgz⟩); (case measure => simp [intOf]; omega))
    · obtain rfl : i = rn := by omega
      obtain ⟨hb4, hb7, hOp, hMp, hgw⟩ := hFx.out wr hgr
      have hun : ∀ u v, onC al u v = onC a u v := fun u v => by rw [hal.out.2.2, hrl.out, hall.out]
      obtain rfl : al = a := cells_same hal.out.1 hoka.out (by rw [hal.out.2.1, hsta'.out]) hun
      have hkv0 : kv = 0 := by
        have h1 := hkv.out
        have h2 : unC al i = onC al := funext fun u => funext fun v => by rw [hrl.out, hall.out]
        rw [h2, hN.out] at h1
        omega
      subst hkv0
      obtain rfl : nl = n1 := hnl.out.trans hn1.out.symm
      obtain ⟨hAr, hDr⟩ := hCA.out wr hgr
      have hLr := CArg.mk (w := wr) (hOa.sl.mono (Nat.zero_le _)) hnl.out.symm hal.out.1.smallP
      have hdn2 : NearS (onC d) := fun u v h => hdn.out u v (by rw [← hond.out]; exact h)
      have hcon := hide (closed_any d D m dd wr hDr)
      obtain ⟨⟨e0, -⟩, ⟨e1, -⟩, ⟨e2, -⟩, ⟨e3, -⟩⟩ := box4_c hb7
      clear hFx hCA hOp hMp hun hat hone hunn hcnt hcmp hall hgr hOa hkv hal hrn hrl hrne
      go_wp2_with fail
      refine hcon.out.mono ?_
      rintro e v1 ⟨d2, er2, D2, dd2, rfl, hR2, hO2, hv1⟩
      obtain ⟨he2, hok2, hst2, hon2⟩ := clos_res hokd.out hdn2 hR2
      subst he2
      obtain rfl : d2 = d := cells_same hok2 hokd.out hst2 (fun u v => by rw [hon2, hcc.out, hond.out])
      obtain ⟨m2, hm2⟩ : ∃ q, q = d2.rows.length := ⟨_, rfl⟩
      rw [← hm2]
      obtain rfl : m2 = m := hm2.trans hm.out.symm
      have hE2 := CArg.mk (w := v1) (hO2.sl.mono (Nat.zero_le _)) hm2.symm hok2.smallP
      replace hm2 := hide hm2
      replace hok2 := hide hok2
      replace hst2 := hide hst2
      replace hon2 := hide hon2
      replace hb4 := hb4.pure hv1
      replace hb7 := hb7.pure hv1
      replace hb12 := hb12.pure hv1
      replace hAr := hAr.pure hv1
      replace hDr := hDr.pure hv1
      replace hLr := hLr.pure hv1
      replace hgw := hgw.t hv1
      clear e0 e1 e2 e3 hcon hR2 hO2 hv1
      go_upto_region 22 with fail
      obtain ⟨w20, hw20⟩ : ∃ x, x = (v1).alloc (.cells [.int .i64 (d2).step, .int .i64 (d2).x, .int .i64 (d2).y, .slice D2 m2 dd2].toArray 28) := ⟨_, rfl⟩
      have hg20 : (v1).grownBy w20 none := by rw [hw20]; exact gr_alloc (World.grownBy.refl _ _) _
      have hb20 : Box w20 (v1).heap.size 28 [.int .i64 (d2).step, .int .i64 (d2).x, .int .i64 (d2).y, .slice D2 m2 dd2] := by rw [hw20]; exact Box.new _ _ _
      have hxs20 := hb20.lt
      rw [← hw20]
      clear hw20
      obtain ⟨x20, hx20⟩ : ∃ x, x = (v1).heap.size := ⟨_, rfl⟩
      rw [← hx20] at hb20 hxs20 ⊢
      have hxl20 : (v1).heap.size ≤ x20 := by omega
      clear hx20
      replace hb4 := hb4.pure hg20
      replace hb7 := hb7.pure hg20
      replace hb12 := hb12.pure hg20
      replace hAr := hAr.pure hg20
      replace hDr := hDr.pure hg20
      replace hLr := hLr.pure hg20
      have hE20 := hE2.pure hg20
      replace hgw := hgw.t hg20
      clear hg20 hxs20 hxl20 hE2 hst2
      obtain ⟨⟨e0, -⟩, ⟨e1, -⟩, ⟨e2, -⟩, ⟨e3, -⟩⟩ := box4_c hb4
      obtain ⟨⟨f0, -⟩, ⟨f1, -⟩, ⟨f2, -⟩, ⟨f3, -⟩⟩ := box4_c hb7
      have hcon := hide (minus_any al d2 A1 nl cc1 D m2 dd w20 hAr hDr)
      go_wp2_with fail
      refine hcon.out.mono ?_
      rintro e v2 ⟨c21, er3, C21, cc21, rfl, hR3, hO3, hv2⟩
      obtain ⟨he3, hrows⟩ := res_none hR3 hoka.out hokd.out hstd.out.symm (fun u v => by
        rcases hu : onC al u v with _ | _
        · rfl
        · rw [hond.out, hsup.out u v hu]; rfl)
      subst he3
      have hlz : c21.rows.length = 0 := by rw [hrows]; rfl
      rw [hlz]
      replace hb4 := hb4.pure hv2
      replace hb7 := hb7.pure hv2
      replace hb12 := hb12.pure hv2
      replace hb20 := hb20.pure hv2
      replace hAr := hAr.pure hv2
      replace hDr := hDr.pure hv2
      replace hLr := hLr.pure hv2
      replace hE20 := hE20.pure hv2
      replace hgw := hgw.t hv2
      clear e0 e1 e2 e3 f0 f1 f2 f3 hcon hR3 hO3 hv2 hrows hlz
      go_upto_region 23 with fail
      obtain ⟨w21, hw21⟩ : ∃ x, x = (v2).alloc (.cells [.int .i64 (c21).step, .int .i64 (c21).x, .int .i64 (c21).y, .slice C21 0 cc21].toArray 28) := ⟨_, rfl⟩
      have hg21 : (v2).grownBy w21 none := by rw [hw21]; exact gr_alloc (World.grownBy.refl _ _) _
      have hb21 : Box w21 (v2).heap.size 28 [.int .i64 (c21).step, .int .i64 (c21).x, .int .i64 (c21).y, .slice C21 0 cc21] := by rw [hw21]; exact Box.new _ _ _
      have hxs21 := hb21.lt
      rw [← hw21]
      clear hw21
      obtain ⟨x21, hx21⟩ : ∃ x, x = (v2).heap.size := ⟨_, rfl⟩
      rw [← hx21] at hb21 hxs21 ⊢
      have hxl21 : (v2).heap.size ≤ x21 := by omega
      clear hx21
      replace hb4 := hb4.pure hg21
      replace hb7 := hb7.pure hg21
      replace hb12 := hb12.pure hg21
      replace hb20 := hb20.pure hg21
      replace hAr := hAr.pure hg21
      replace hDr := hDr.pure hg21
      replace hLr := hLr.pure hg21
      replace hE20 := hE20.pure hg21
      replace hgw := hgw.t hg21
      clear hg21 hxs21 hxl21
      obtain ⟨⟨e0, -⟩, ⟨e1, -⟩, ⟨e2, -⟩, ⟨e3, -⟩⟩ := box4_c hb12
      obtain ⟨⟨f0, -⟩, ⟨f1, -⟩, ⟨f2, -⟩, ⟨f3, -⟩⟩ := box4_c hb4
      have hcon := hide (sameCells_any al Aa nl ca A1 cc1 w21 hLr.sl hAr.sl hnl.out.symm)
      go_wp2_with fail
      refine hcon.out.mono ?_
      rintro e v3 ⟨rfl, hv3⟩
      clear e0 e1 e2 e3 f0 f1 f2 f3 hcon
      obtain ⟨⟨e0, -⟩, ⟨e1, -⟩, ⟨e2, -⟩, ⟨e3, -⟩⟩ := box4_c (hb20.pure hv3)
      obtain ⟨⟨f0, -⟩, ⟨f1, -⟩, ⟨f2, -⟩, ⟨f3, -⟩⟩ := box4_c (hb7.pure hv3)
      have hcon := hide (sameCells_any d2 D2 m2 dd2 D dd v3 (hE20.pure hv3).sl (hDr.pure hv3).sl hm2.out.symm)
      go_wp2_with fail
      refine hcon.out.mono ?_
      rintro e v4 ⟨rfl, hv4⟩
      obtain ⟨e9, -⟩ := ((hb21.pure hv3).pure hv4).c 3 rfl
      clear e0 e1 e2 e3 f0 f1 f2 f3 hcon
      go_wp2_with fail
      refine (ready_any v4).mono ?_
      rintro e v5 ⟨rfl, hv5⟩
      go_wp2_with fail
      go_ret
      exact ⟨rfl, ((hgw.t hv3).t hv4).t hv5⟩

end Go.Proofs.YtphkcafmbbeodaaGreatDoor

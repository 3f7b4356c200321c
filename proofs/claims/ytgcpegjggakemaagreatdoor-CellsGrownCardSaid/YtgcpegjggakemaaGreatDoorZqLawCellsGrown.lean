/- Contracts of functions that this seat's laws reach, each: what one call returns and what it leaves in memory; no condition beyond each theorem's own hypotheses. -/
import Derived.Test.YtgcpegjggakemaaGreatDoorZqCelAB
import Derived.Test.YtgcpegjggakemaaGreatDoorZqCelY
import Derived.Test.YtgcpegjggakemaaGreatDoorZqQueA
import Derived.Test.YtgcpegjggakemaaGreatDoorZqGroE
import Derived.Test.YtgcpegjggakemaaGreatDoorZqRepA
import Derived.Test.YtgcpegjggakemaaGreatDoorZqPrtR
import Derived.Test.YtgcpegjggakemaaGreatDoorZqPartsB
import Derived.Test.YtgcpegjggakemaaGreatDoorZqClosA
import Derived.Test.YtgcpegjggakemaaGreatDoorZqCloR
import Derived.Test.YtgcpegjggakemaaGreatDoorZqEqC
import Derived.Lib.SlBytesRow
import Derived.Lib.SlBytesConst
set_option linter.unusedVariables false
set_option linter.unusedSimpArgs false
namespace Go.Bl
open Go
/-- a byte many times -/
def repB (n : Nat) : ByteArray := ⟨(List.replicate n (46 : UInt8)).toArray⟩

theorem repB_size (n : Nat) : (repB n).size = n := by
  show (List.replicate n (46 : UInt8)).toArray.size = n
  simp

end Go.Bl
namespace Go.Proofs.YtgcpegjggakemaaGreatDoor
open Go Go.RowKit Go.Bl

theorem conv_rep {w : World} {lo : Nat} {A : Option Addr} {c n : Nat} (h : Own w lo 5 A c (List.replicate n (⟨46⟩ : Byt))) (hn : 1 ≤ n) :
    (convert 54 9 (.slice A n c)).run Tryz.prog w = .ok (.string (repB n)) w := by
  obtain ⟨g, rfl, -, -⟩ := h.shape (by rw [List.length_replicate]; omega)
  have hc : Lib.Bytes w g 0 (repB n) := by
    intro i hi
    rw [repB_size] at hi
    obtain ⟨cx, hcr, hcc⟩ := h.cell_at (by decide) (i := i) (by rw [List.length_replicate]; exact hi)
    rw [List.getElem_replicate] at hcr
    have hcr' : cx = [.int .u8 46] := hcr
    subst hcr'
    have := hcc 0 _ rfl
    rw [show i * Enc.sz Byt + 0 = 0 + i by show i * 1 + 0 = 0 + i; omega] at this
    rw [this]
    congr 2
    show (46 : Int) = ((List.replicate n (46 : UInt8)).toArray[i].toNat : Int)
    simp
  have := Lib.run_convert_whole (P := Tryz.prog) w 54 5 9 (by kernel_rfl) (by kernel_rfl) (by kernel_rfl) g 0 (repB n) hc c
  rwa [repB_size] at this

theorem sl_mark (w : World) (t : TypeId) (fr : Nat × Nat) : Sl (w.alloc (.cells #[.int .u8 46] t fr)) 0 (some ⟨w.heap.size, 0, none⟩) [(⟨46⟩ : Byt)] := by
  refine ⟨by simp [maxLen], [.int .u8 46], ⟨[.int .u8 46], [], rfl, rfl, rfl⟩, fun _ => ⟨_, rfl, Nat.zero_le _, fun j u h => ?_⟩⟩
  have := World.cell?_alloc_mark w #[.int .u8 46] t fr j
  rw [show (⟨w.heap.size, 0, none⟩ : Addr).add j = ⟨w.heap.size, j, none⟩ by cases j <;> simp [Addr.add], this]
  cases j with
  | zero => simpa using h
  | succ j => simp at h

set_option maxHeartbeats 8000000 in
set_option maxRecDepth 100000 in
theorem cellsGrown_law (A : Option Addr) (n c : Nat) (L : List Int) (w : World) (hL : Sl w 0 A L) (hn : L.length = n) :
    Calls Tryz.prog 4 #[.slice A n c] w fun e w' => e = .returned (.bool true) ∧ w.grownBy w' none := by
  have hst := strm_new (c := c) 25 hL hn
  have hg0 := gr_alloc (World.grownBy.refl w none) (.cells #[.slice A n c, .int .i64 0] 25)
  go_enter Tryz.func4, Tryz.ntmps4
  go_upto_region 2 with fail
  obtain ⟨u1, hw1⟩ : ∃ x, x = w.alloc (.cells #[.slice A n c, .int .i64 0] 25) := ⟨_, rfl⟩
  rw [← hw1] at hst hg0 ⊢
  clear hw1 hL hn
  obtain ⟨b, hb⟩ : ∃ q, q = w.heap.size := ⟨_, rfl⟩
  rw [← hb] at hst ⊢
  replace hb : w.heap.size ≤ b := by omega
  have hP := hide (pick_any b (0) (some ⟨(u1).heap.size, 0, none⟩) 2 2 [2, 4] ((u1).alloc (.cells #[.int .i64 2, .int .i64 4] 3)) ((hst).pure (gr_alloc (World.grownBy.refl _ _) _)) (by omega) (sl_intsAt _ _ _ _ _ (by first | rfl | simp) (by have := (hst).lt; omega) (by simp [maxLen])) rfl (by simp))
  have hgA := gr_alloc (World.grownBy.refl u1 none) (.cells #[.int .i64 2, .int .i64 4] 3)
  go_wp2_with fail
  refine hP.out.mono ?_
  rintro e u2 ⟨st, rfl, hstm, ho⟩
  have hg12 := gr_trans (gr_step (World.grownBy.refl u1 (some b)) hgA) ho.1
  replace hst := ho.2
  clear hP hgA ho
  have hgw2 := gr_new hg0 hg12 hb
  have hstb : 2 ≤ st ∧ st ≤ 10000 := by simp at hstm; omega
  have hlt2 := hst.lt
  have hAC := hide (aCells_any b _ st u2 hst (by omega) hstb)
  clear hstm hg12 hg0
  go_wp2_with fail
  refine hAC.out.mono ?_
  rintro e u3 ⟨cl, A8, cc8, rfl, hlc, hsz, ho, -⟩
  obtain ⟨n8, hn8⟩ : ∃ q, q = cl.rows.length := ⟨_, rfl⟩
  rw [← hn8]
  replace hn8 := hide hn8
  obtain ⟨lo, hlo⟩ : ∃ q, q = u2.heap.size := ⟨_, rfl⟩
  rw [← hlo] at hlc hlt2
  have hgw3 := gr_new hgw2 ho.1 hb
  replace hst := ho.2
  clear hAC ho hgw2 hlo
  have hP := hide (pick_any b (0 + 1 + 80) (some ⟨(u3).heap.size, 0, none⟩) 7 7 [0, 1, 1, 2, 3, -1, 21] ((u3).alloc (.cells #[.int .i64 0, .int .i64 1, .int .i64 1, .int .i64 2, .int .i64 3, .int .i64 (-1), .int .i64 21] 3)) ((hst).pure (gr_alloc (World.grownBy.refl _ _) _)) (by omega) (sl_intsAt _ _ _ _ _ (by first | rfl | simp) (by have := (hst).lt; omega) (by simp [maxLen])) rfl (by simp))
  have hgA := gr_alloc (World.grownBy.refl u3 none) (.cells #[.int .i64 0, .int .i64 1, .int .i64 1, .int .i64 2, .int .i64 3, .int .i64 (-1), .int .i64 21] 3)
  go_wp2_with fail
  refine hP.out.mono ?_
  rintro e u4 ⟨k, rfl, hkm, ho⟩
  have hg34 := gr_trans (gr_step (World.grownBy.refl u3 (some b)) hgA) ho.1
  replace hst := ho.2
  clear hP hgA ho
  replace hlc := hlc.gr hg34 (fun q e => by injection e; omega)
  replace hsz := hide hsz
  have hgw4 := gr_new hgw3 hg34 hb
  clear hg34 hgw3 hkm
  go_upto_region 3 with fail
  obtain ⟨w4, hw4⟩ : ∃ x, x = (u4).alloc (.cells [.int .i64 (cl).step, .int .i64 (cl).x, .int .i64 (cl).y, .slice A8 n8 cc8].toArray 34) := ⟨_, rfl⟩
  have hg4 : (u4).grownBy w4 none := by rw [hw4]; exact gr_alloc (World.grownBy.refl _ _) _
  have hb4 : Box w4 (u4).heap.size 34 [.int .i64 (cl).step, .int .i64 (cl).x, .int .i64 (cl).y, .slice A8 n8 cc8] := by rw [hw4]; exact Box.new _ _ _
  have hxs4 := hb4.lt
  rw [← hw4]
  clear hw4
  obtain ⟨x4, hx4⟩ : ∃ x, x = (u4).heap.size := ⟨_, rfl⟩
  rw [← hx4] at hb4 hxs4 ⊢
  have hxl4 : (u4).heap.size ≤ x4 := by omega
  clear hx4
  replace hlc := hlc.pure hg4
  have hgw := hgw4.t hg4
  have hxb : b ≠ x4 := by have := hst.lt; omega
  have hxw : w.heap.size ≤ x4 := by have := hgw4.size; omega
  replace hst := hst.pure hg4
  clear hgw4 hg4 hxl4
  have hFl := hide (flip_any b _ 15 w4 hst (by omega) (by omega))
  clear hst
  go_wp2_with fail
  refine hFl.out.mono ?_
  rintro e u5 ⟨v, rfl, ho5⟩
  have hst := ho5.2
  have hb5 := hb4.gr ho5.1 (by intro e; injection e with e; exact hxb e)
  have hgw5 := gr_new hgw ho5.1 hb
  replace hlc := hlc.gr ho5.1 (fun q e => by injection e; omega)
  clear hFl hgw ho5 hb4
  go_upto_if 34 with fail
  go_cut [] (fun wx => ∃ (c2 : Cel) (A2 : Option Addr) (n2 cc2 : Nat), Box wx x4 34 ([.int .i64 (c2).step, .int .i64 (c2).x, .int .i64 (c2).y, .slice A2 n2 cc2]) ∧ CArg wx c2 A2 n2 ∧ w.grownBy wx none)
  case first =>
    rcases v with _ | _
    · go_wp2_with fail
      go_meet
      exact ⟨cl, A8, n8, cc8, hb5, ⟨hlc.mono (Nat.zero_le _), hn8.out.symm, fun s hs => by have := hsz.out s hs; omega⟩, hgw5⟩
    · clear hlc hn8 hsz
      have hP := hide (pick_any b (0 + 1 + 80 + 1 + 1) (some ⟨(u5).heap.size, 0, none⟩) 3 3 [0, 1999998, -2000000] ((u5).alloc (.cells #[.int .i64 0, .int .i64 1999998, .int .i64 (-2000000)] 3)) ((hst).pure (gr_alloc (World.grownBy.refl _ _) _)) (by omega) (sl_intsAt _ _ _ _ _ (by first | rfl | simp) (by have := (hst).lt; omega) (by simp [maxLen])) rfl (by simp))
      have hgA := gr_alloc (World.grownBy.refl u5 none) (.cells #[.int .i64 0, .int .i64 1999998, .int .i64 (-2000000)] 3)
      go_wp2_with fail
      refine hP.out.mono ?_
      rintro e u6 ⟨X, rfl, hXm, ho⟩
      have hg56 := gr_trans (gr_step (World.grownBy.refl u5 (some b)) hgA) ho.1
      replace hst := ho.2
      clear hP hgA ho
      have hxb' := hst.lt
      have hb6 := hb5.gr hg56 (by intro e; injection e with e; exact hxb e)
      have hgw6 := gr_new hgw5 hg56 hb
      have hXb : -2000000 ≤ X ∧ X ≤ 2000000 := by simp at hXm; omega
      clear hg56 hXm hb5 hgw5
      have kc := fun (w : World) (C : Array Value) (n c : Nat) => Lib.run_convert_bytes_const (P := Tryz.prog) w 54 5 C n c Tryz.underlying54 Tryz.underlying5
      have hgm := gr_alloc (World.grownBy.refl u6 none) (.cells #[.int .u8 46] 5 (1, 2))
      have hl7 := hide ((sl_mark u6 5 (1, 2)).pure (gr_alloc (World.grownBy.refl _ none) (.cells #[.int .i64 190, .int .i64 198] 3)))
      have hgA := hgm.t (gr_alloc (World.grownBy.refl _ none) (.cells #[.int .i64 190, .int .i64 198] 3))
      have hP := hide (pick_any b _ (some ⟨u6.heap.size + 1, 0, none⟩) 2 2 [190, 198] ((u6.alloc (.cells #[.int .u8 46] 5 (1, 2))).alloc (.cells #[.int .i64 190, .int .i64 198] 3)) (hst.pure hgA) (by omega) (sl_intsAt _ _ _ _ _ (by simp) (by have := (hst.pure hgm).lt; omega) (by simp [maxLen])) rfl (by simp))
      replace hgm := hide hgm
      go_wp2_with fail
      refine hP.out.mono ?_
      rintro e u8 ⟨N, rfl, hN, ho⟩
      change SOut b _ ((u6.alloc (.cells #[.int .u8 46] 5 (1, 2))).alloc (.cells #[.int .i64 190, .int .i64 198] 3)) u8 at ho
      generalize (u6.alloc (.cells #[.int .u8 46] 5 (1, 2))).alloc (.cells #[.int .i64 190, .int .i64 198] 3) = u7 at *
      have hq : b ≠ u6.heap.size := by have := hst.lt; omega
      have hl8 := hl7.out.ne ho.1 (fun g hz e => hq ((Option.some.inj e).trans (Option.some.inj hz).symm))
      have hb8 := (hb6.pure hgA).gr ho.1 (by intro e; injection e with e; exact hxb e)
      have hgw8 := gr_new (hgw6.t hgA) ho.1 hb
      obtain ⟨M, rfl⟩ : ∃ M : Nat, N = (M : Int) := ⟨N.toNat, by simp at hN; omega⟩
      have hM : 1 ≤ M ∧ M ≤ 1000 := by simp at hN; omega
      have hRe := hide (repeat_any (some ⟨u6.heap.size, 0, none⟩) 1 M ⟨46⟩ u8 hl8 (by omega))
      clear hP hgm hl7 hgA ho hl8 hN hq hst hb6 hgw6
      go_wp2_with fail
      refine hRe.out.mono ?_
      rintro e u9 ⟨A9, c9, rfl, hO9, hg9⟩
      have hcv := conv_rep hO9 hM.1
      have hsz : (repB M).size ≤ 1000 := by rw [repB_size]; exact hM.2
      have hb9 := hb8.pure hg9
      have hgw9 := hgw8.t hg9
      generalize repB M = S at *
      clear hRe hO9 hg9 hb8 hgw8 hM
      have hx9 := hb9.lt
      have hRs : ((⟨#[35]⟩ ++ S) ++ ⟨#[35]⟩ : ByteArray).size ≤ 2000 := by
        simp only [ByteArray.size_append]
        have : (⟨#[35]⟩ : ByteArray).size = 1 := rfl
        omega
      obtain ⟨⟨d0, f0⟩, ⟨d1, f1⟩, ⟨d2, f2⟩, ⟨d3, f3⟩⟩ := box4_c hb9
      replace hRs := hide hRs
      go_wp2_with fail
      clear d0 d1 d2 d3 f0 f1 f2 f3 hcv kc
      have hgs := set4_gr (w := u9) (g := x4) (.int .i64 2) (.int .i64 X) (.int .i64 0) (.slice (some ⟨u9.heap.size, 0, none⟩) 1 1)
      have hbs := box_set4 hb9 (.int .i64 2) (.int .i64 X) (.int .i64 0) (.slice (some ⟨u9.heap.size, 0, none⟩) 1 1)
      have hgz := gr_new hgw9 hgs hxw
      have hs9 : u9.heap.size = ((((u9.setCell ⟨x4, 0, none⟩ (.int .i64 2)).setCell ⟨x4, 1, none⟩ (.int .i64 X)).setCell ⟨x4, 2, none⟩ (.int .i64 0)).setCell ⟨x4, 3, none⟩ (.slice (some ⟨u9.heap.size, 0, none⟩) 1 1)).heap.size := by simp
      generalize (((u9.setCell ⟨x4, 0, none⟩ (.int .i64 2)).setCell ⟨x4, 1, none⟩ (.int .i64 X)).setCell ⟨x4, 2, none⟩ (.int .i64 0)).setCell ⟨x4, 3, none⟩ (.slice (some ⟨u9.heap.size, 0, none⟩) 1 1) = u10 at *
      go_meet
      exact ⟨⟨2, X, 0, [(⟨#[35]⟩ ++ S) ++ ⟨#[35]⟩]⟩, _, 1, 1, hbs.pure (gr_alloc (World.grownBy.refl _ _) _), ⟨sl_oneAt _ 0 [.string ((⟨#[35]⟩ ++ S) ++ ⟨#[35]⟩)] _ _ _ hs9 (Nat.zero_le _) rfl, rfl, fun s hs => by
        have h1 := List.eq_of_mem_singleton hs
        have h2 := hRs.out
        rw [h1]; omega⟩, hgz.t (gr_alloc (World.grownBy.refl _ _) _)⟩
  case rest =>
    clear hlc hn8 hsz hst hb5 hgw5
    obtain ⟨cl, A8, n8, cc8, hb4, hC, hgc⟩ := hcut
    have hck := hide fun wx (h : wc.grownBy wx none) => box4_c (hb4.pure h)
    have hgB := World.grownBy.refl wc none
    have hF := hide (cellsFault_any cl A8 n8 cc8 wc hC)
    obtain ⟨F, hFe⟩ : ∃ q, q = cellsF cl := ⟨_, rfl⟩
    rw [← hFe] at hF
    obtain ⟨G, hGe⟩ : ∃ q, q = growF cl k := ⟨_, rfl⟩
    replace hFe := hide hFe
    replace hGe := hide hGe
    obtain ⟨⟨a0, -⟩, ⟨a1, -⟩, ⟨a2, -⟩, ⟨a3, -⟩⟩ := hck.out wc hgB
    go_wp2_with fail
    refine hF.out.mono ?_
    rintro e w5 ⟨rfl, hg5⟩
    replace hgB := hgB.t hg5
    clear a0 a1 a2 a3 hF hg5
    have hGr := hide (grown_all cl A8 n8 cc8 k w5 (hC.pure hgB))
    rw [← hGe.out] at hGr
    obtain ⟨⟨a0, -⟩, ⟨a1, -⟩, ⟨a2, -⟩, ⟨a3, -⟩⟩ := hck.out w5 hgB
    go_wp2_with fail
    refine hGr.out.mono ?_
    rintro e w6 ⟨cg, eg, A7, c7, rfl, hRg, hOg, hg6⟩
    replace hgB := hgB.t hg6
    obtain ⟨n7, hn7⟩ : ∃ q, q = cg.rows.length := ⟨_, rfl⟩
    rw [← hn7]
    replace hn7 := hide hn7
    replace hRg := hide hRg
    clear a0 a1 a2 a3 hGr hg6
    go_upto_region 7 with fail
    obtain ⟨w7, hw7⟩ : ∃ x, x = (w6).alloc (.cells [.int .i64 (cg).step, .int .i64 (cg).x, .int .i64 (cg).y, .slice A7 n7 c7].toArray 34) := ⟨_, rfl⟩
    have hg7 : (w6).grownBy w7 none := by rw [hw7]; exact gr_alloc (World.grownBy.refl _ _) _
    have hb7 : Box w7 (w6).heap.size 34 [.int .i64 (cg).step, .int .i64 (cg).x, .int .i64 (cg).y, .slice A7 n7 c7] := by rw [hw7]; exact Box.new _ _ _
    have hxs7 := hb7.lt
    rw [← hw7]
    clear hw7
    obtain ⟨x7, hx7⟩ : ∃ x, x = (w6).heap.size := ⟨_, rfl⟩
    rw [← hx7] at hb7 hxs7 ⊢
    have hxl7 : (w6).heap.size ≤ x7 := by omega
    clear hx7
    have hSg := hOg.sl.mono (Nat.zero_le _) |>.pure hg7
    replace hgB := hgB.t hg7
    clear hOg hg7 hxs7 hxl7
    have hSh := hide (shrunk_all cl A8 n8 cc8 k w7 (hC.pure hgB))
    rw [← hGe.out] at hSh
    obtain ⟨⟨a0, -⟩, ⟨a1, -⟩, ⟨a2, -⟩, ⟨a3, -⟩⟩ := hck.out w7 hgB
    go_wp2_with fail
    refine hSh.out.mono ?_
    rintro e w8 ⟨cs, es, A9, c9, rfl, hRs, hOs, hg8⟩
    replace hgB := hgB.t hg8
    obtain ⟨n9, hn9⟩ : ∃ q, q = cs.rows.length := ⟨_, rfl⟩
    rw [← hn9]
    replace hn9 := hide hn9
    replace hRs := hide hRs
    have hb7' := hb7.pure hg8
    have hSg' := hSg.pure hg8
    clear a0 a1 a2 a3 hSh hg8 hb7 hSg
    go_upto_region 8 with fail
    obtain ⟨w9, hw9⟩ : ∃ x, x = (w8).alloc (.cells [.int .i64 (cs).step, .int .i64 (cs).x, .int .i64 (cs).y, .slice A9 n9 c9].toArray 34) := ⟨_, rfl⟩
    have hg9 : (w8).grownBy w9 none := by rw [hw9]; exact gr_alloc (World.grownBy.refl _ _) _
    have hb9 : Box w9 (w8).heap.size 34 [.int .i64 (cs).step, .int .i64 (cs).x, .int .i64 (cs).y, .slice A9 n9 c9] := by rw [hw9]; exact Box.new _ _ _
    have hxs9 := hb9.lt
    rw [← hw9]
    clear hw9
    obtain ⟨x9, hx9⟩ : ∃ x, x = (w8).heap.size := ⟨_, rfl⟩
    rw [← hx9] at hb9 hxs9 ⊢
    have hxl9 : (w8).heap.size ≤ x9 := by omega
    clear hx9
    have hSs := hOs.sl.mono (Nat.zero_le _) |>.pure hg9
    have hb7 := hb7'.pure hg9
    have hSg := hSg'.pure hg9
    replace hgB := hgB.t hg9
    clear hOs hg9 hxs9 hxl9 hb7' hSg'
    have hPa := hide (parts_any cl A8 n8 cc8 w9 (hC.pure hgB))
    rw [← hFe.out] at hPa
    obtain ⟨⟨a0, -⟩, ⟨a1, -⟩, ⟨a2, -⟩, ⟨a3, -⟩⟩ := hck.out w9 hgB
    go_wp2_with fail
    refine hPa.out.mono ?_
    rintro e w10 ⟨A11, c11, r1, rfl, hO11, hM11, hg10⟩
    obtain ⟨n11, hn11⟩ : ∃ q, q = r1.length := ⟨_, rfl⟩
    rw [← hn11]
    replace hn11 := hide hn11
    replace hgB := hgB.t hg10
    clear a0 a1 a2 a3 hPa
    have hCl := hide (closed_any cl A8 n8 cc8 w10 (hC.pure hgB))
    rw [← hFe.out] at hCl
    obtain ⟨⟨a0, -⟩, ⟨a1, -⟩, ⟨a2, -⟩, ⟨a3, -⟩⟩ := hck.out w10 hgB
    go_wp2_with fail
    refine hCl.out.mono ?_
    rintro e w11 ⟨cd, ed, A13, c13, rfl, hRd, hOd, hg11⟩
    replace hgB := hgB.t hg11
    obtain ⟨n13, hn13⟩ : ∃ q, q = cd.rows.length := ⟨_, rfl⟩
    rw [← hn13]
    replace hn13 := hide hn13
    replace hRd := hide hRd
    have hg911 := hg10.t hg11
    clear a0 a1 a2 a3 hCl hg10
    go_upto_region 10 with fail
    obtain ⟨w13, hw13⟩ : ∃ x, x = (w11).alloc (.cells [.int .i64 (cd).step, .int .i64 (cd).x, .int .i64 (cd).y, .slice A13 n13 c13].toArray 34) := ⟨_, rfl⟩
    have hg13 : (w11).grownBy w13 none := by rw [hw13]; exact gr_alloc (World.grownBy.refl _ _) _
    have hb13 : Box w13 (w11).heap.size 34 [.int .i64 (cd).step, .int .i64 (cd).x, .int .i64 (cd).y, .slice A13 n13 c13] := by rw [hw13]; exact Box.new _ _ _
    have hxs13 := hb13.lt
    rw [← hw13]
    clear hw13
    obtain ⟨x13, hx13⟩ : ∃ x, x = (w11).heap.size := ⟨_, rfl⟩
    rw [← hx13] at hb13 hxs13 ⊢
    have hxl13 : (w11).heap.size ≤ x13 := by omega
    clear hx13
    have hSd := hOd.sl.mono (Nat.zero_le _) |>.pure hg13
    have hg1113 := hg11.t hg13
    have hO11' := hO11.pure hg1113
    have hM11' := hM11.pure hg1113
    have hg913 := hg911.t hg13
    have hb7' := hb7.pure hg913
    have hb9' := hb9.pure hg913
    have hSg' := hSg.pure hg913
    have hSs' := hSs.pure hg913
    replace hgB := hgB.t hg13
    clear hOd hg13 hxs13 hxl13 hg911 hg11 hg1113 hO11 hM11 hg913 hb7 hb9 hSg hSs
    obtain ⟨sf, hsf⟩ : ∃ q, q = spanF k 0 20 := ⟨_, rfl⟩
    have hGo : Hid (orL [F, sf] = G) := by rw [Hid, hGe.out, hFe.out, hsf]; rfl
    have hsp := hide fun W => spanFault_any k 0 20 W
    rw [← hsf] at hsp
    clear hsf
    have hgA := gr_alloc (World.grownBy.refl w13 none) (.cells #[.int .i64 F, .int .i64 sf] 36)
    have hOr := hide (or_any (some ⟨w13.heap.size, 0, none⟩) 2 2 [F, sf] (w13.alloc (.cells #[.int .i64 F, .int .i64 sf] 36)) (sl_intsAt _ _ _ _ _ rfl (Nat.zero_le _) (by simp [maxLen])) rfl)
    rw [hGo.out] at hOr
    go_wp2_with fail
    refine (hsp.out w13).mono ?_
    rintro e wq ⟨rfl, hwq⟩
    rw [← hwq]
    clear hwq wq
    go_wp2_with fail
    refine hOr.out.mono ?_
    rintro e wq ⟨rfl, hwq⟩
    rw [hwq] at hgA
    clear hwq hOr
    have hgA2 := gr_alloc (World.grownBy.refl wq none) (.cells #[.int .i64 F, .int .i64 sf] 36)
    have hOr := hide (or_any (some ⟨wq.heap.size, 0, none⟩) 2 2 [F, sf] (wq.alloc (.cells #[.int .i64 F, .int .i64 sf] 36)) (sl_intsAt _ _ _ _ _ rfl (Nat.zero_le _) (by simp [maxLen])) rfl)
    rw [hGo.out] at hOr
    go_wp2_with fail
    refine (hsp.out wq).mono ?_
    rintro e wr ⟨rfl, hwr⟩
    rw [← hwr]
    clear hwr wr
    go_wp2_with fail
    refine hOr.out.mono ?_
    rintro e wr ⟨rfl, hwr⟩
    rw [hwr] at hgA2
    have hgA3 := hgA.t hgA2
    replace hgB := hgB.t hgA3
    clear hwr hOr hsp hGo hgA hgA2
    go_upto_region 12 with fail
    obtain ⟨w18, hw18⟩ : ∃ x, x = (((wr).alloc (.cells [.int .i64 0, .int .i64 0, .int .i64 0, .slice none 0 0].toArray 34)).alloc (.cells [.int .i64 0, .int .i64 0, .int .i64 0, .slice none 0 0].toArray 34)).alloc (.cells [.int .i64 0, .int .i64 0, .int .i64 0, .slice none 0 0].toArray 34) := ⟨_, rfl⟩
    have hba18 : Box w18 (wr).heap.size 34 [.int .i64 0, .int .i64 0, .int .i64 0, .slice none 0 0] := by
      rw [hw18]; exact ((Box.new (wr) [.int .i64 0, .int .i64 0, .int .i64 0, .slice none 0 0] 34).pure (gr_alloc (World.grownBy.refl _ _) _)).pure (gr_alloc (World.grownBy.refl _ _) _)
    have hbb18 : Box w18 ((wr).heap.size + 1) 34 [.int .i64 0, .int .i64 0, .int .i64 0, .slice none 0 0] := by
      have h := (Box.new ((wr).alloc (.cells [.int .i64 0, .int .i64 0, .int .i64 0, .slice none 0 0].toArray 34)) [.int .i64 0, .int .i64 0, .int .i64 0, .slice none 0 0] 34).pure (gr_alloc (World.grownBy.refl _ none) (.cells [.int .i64 0, .int .i64 0, .int .i64 0, .slice none 0 0].toArray 34))
      rw [show ((wr).alloc (.cells [.int .i64 0, .int .i64 0, .int .i64 0, .slice none 0 0].toArray 34)).heap.size = (wr).heap.size + 1 by simp] at h
      rw [hw18]; exact h
    have hbc18 : Box w18 ((wr).heap.size + 1 + 1) 34 [.int .i64 0, .int .i64 0, .int .i64 0, .slice none 0 0] := by
      have h := Box.new (((wr).alloc (.cells [.int .i64 0, .int .i64 0, .int .i64 0, .slice none 0 0].toArray 34)).alloc (.cells [.int .i64 0, .int .i64 0, .int .i64 0, .slice none 0 0].toArray 34)) [.int .i64 0, .int .i64 0, .int .i64 0, .slice none 0 0] 34
      rw [show (((wr).alloc (.cells [.int .i64 0, .int .i64 0, .int .i64 0, .slice none 0 0].toArray 34)).alloc (.cells [.int .i64 0, .int .i64 0, .int .i64 0, .slice none 0 0].toArray 34)).heap.size = (wr).heap.size + 1 + 1 by simp] at h
      rw [hw18]; exact h
    have hg18 : (wr).grownBy w18 none := by rw [hw18]; exact (by repeat (first | exact World.grownBy.refl _ _ | assumption | refine gr_alloc ?_ _ | (apply gr_tail; assumption) | refine gr_drewN ?_ _ | refine gr_drew ?_))
    rw [← hw18]
    clear hw18
    obtain ⟨xc18, hxc18⟩ : ∃ x, x = (wr).heap.size + 1 + 1 := ⟨_, rfl⟩
    rw [← hxc18] at hbc18 ⊢
    obtain ⟨xb18, hxb18⟩ : ∃ x, x = (wr).heap.size + 1 := ⟨_, rfl⟩
    rw [← hxb18] at hbb18 ⊢
    obtain ⟨xa18, hxa18⟩ : ∃ x, x = (wr).heap.size := ⟨_, rfl⟩
    rw [← hxa18] at hba18 ⊢
    have hxn18 : xa18 ≠ xb18 ∧ xa18 ≠ xc18 ∧ xb18 ≠ xc18 := by omega
    replace hxa18 : (wr).heap.size ≤ xa18 := by omega
    replace hxb18 : (wr).heap.size ≤ xb18 := by omega
    replace hxc18 : (wr).heap.size ≤ xc18 := by omega
    have hO11 := hO11'.pure hgA3
    have hM11 := hM11'.pure hgA3
    have hb7 := hb7'.pure hgA3
    have hb9 := hb9'.pure hgA3
    replace hb13 := hb13.pure hgA3
    have hSg := hSg'.pure hgA3
    have hSs := hSs'.pure hgA3
    replace hSd := hSd.pure hgA3
    have hxx := hbc18.lt
    clear hO11' hM11' hb7' hb9' hSg' hSs' hgA3
    obtain ⟨lo, hlo⟩ : ∃ q, q = w18.heap.size := ⟨_, rfl⟩
    have hxy := hxn18
    replace hlo : lo ≤ w18.heap.size ∧ xa18 < lo ∧ xb18 < lo ∧ xc18 < lo := by have := hba18.lt; have := hbb18.lt; omega
    clear hxx
    have hwr := hide fun W (h : wr.grownBy W none) => hC.pure (hgB.t h)
    go_upto_if 85 with fail
    go_cut [15, 16] (fun s t wx => s = .int .i64 eg ∧ t = .int .i64 es ∧ ∃ (A18 : Option Addr) (c18 : Nat) (A19 : Option Addr) (c19 : Nat), Box wx xa18 34 ([.int .i64 (cg).step, .int .i64 (cg).x, .int .i64 (cg).y, .slice A18 n7 c18]) ∧ Sl wx lo A18 cg.rows ∧ Box wx xb18 34 ([.int .i64 (cs).step, .int .i64 (cs).x, .int .i64 (cs).y, .slice A19 n9 c19]) ∧ Sl wx lo A19 cs.rows ∧ Box wx xc18 34 [.int .i64 0, .int .i64 0, .int .i64 0, .slice none 0 0] ∧ wr.grownBy wx none)
    case first =>
      clear hO11 hM11 hb7 hb9 hb13 hSg hSs hSd
      by_cases hG0 : G = 0
      · obtain ⟨hok, hk⟩ := growF_zero.1 (hGe.out.symm.trans hG0)
        subst hG0
        have hGB := hide (grownBy_any cl A8 n8 cc8 k w18 (hwr.out w18 hg18) hok hk)
        have hSB := hide fun W (h : wr.grownBy W none) => shrunkBy_any cl A8 n8 cc8 k W (hwr.out W h) hok hk
        have hcl := hide fun W (h : wr.grownBy W none) => hck.out W (hgB.t h)
        clear hck hgB hok hk hwr
        obtain ⟨⟨a0, -⟩, ⟨a1, -⟩, ⟨a2, -⟩, ⟨a3, -⟩⟩ := hcl.out w18 hg18
        go_wp2_with fail
        refine hGB.out.mono ?_
        rintro e v1 ⟨c2, e2, B, bc, rfl, hR2, hO2, hg1⟩
        obtain ⟨rfl, rfl⟩ := hRg.out.uniq (.inr ⟨rfl, hR2⟩)
        rw [← hn7.out]
        have hbA1 := hba18.pure hg1
        have hbB1 := hbb18.pure hg1
        have hbC1 := hbc18.pure hg1
        have hgr1 := hg18.t hg1
        have hlo2 : lo ≤ v1.heap.size := by have := hg1.size; omega
        have hSA := hO2.sl.mono hlo.1
        clear a0 a1 a2 a3 hGB hR2 hO2 hg1 hba18 hbb18 hbc18 hg18
        obtain ⟨⟨d0, f0⟩, ⟨d1, f1⟩, ⟨d2, f2⟩, ⟨d3, f3⟩⟩ := box4_c hbA1
        go_upto_region 15 with fail
        clear d0 d1 d2 d3 f0 f1 f2 f3
        have hgs := set4_gr (w := v1) (g := xa18) (.int .i64 cg.step) (.int .i64 cg.x) (.int .i64 cg.y) (.slice B n7 bc)
        have hgr2 := gr_new hgr1 hgs hxa18
        have hbA2 := box_set4 hbA1 (.int .i64 cg.step) (.int .i64 cg.x) (.int .i64 cg.y) (.slice B n7 bc)
        have hbB2 := hbB1.gr hgs (by intro e; injection e with e; omega)
        have hbC2 := hbC1.gr hgs (by intro e; injection e with e; omega)
        have hSA2 := hSA.gr hgs (fun g e => by injection e with e; omega)
        have hlo3 : lo ≤ ((((v1.setCell ⟨xa18, 0, none⟩ (.int .i64 cg.step)).setCell ⟨xa18, 1, none⟩ (.int .i64 cg.x)).setCell ⟨xa18, 2, none⟩ (.int .i64 cg.y)).setCell ⟨xa18, 3, none⟩ (.slice B n7 bc)).heap.size := by simp; omega
        generalize (((v1.setCell ⟨xa18, 0, none⟩ (.int .i64 cg.step)).setCell ⟨xa18, 1, none⟩ (.int .i64 cg.x)).setCell ⟨xa18, 2, none⟩ (.int .i64 cg.y)).setCell ⟨xa18, 3, none⟩ (.slice B n7 bc) = v2 at *
        clear hgs hgr1 hbA1 hbB1 hbC1 hSA
        obtain ⟨⟨a0, -⟩, ⟨a1, -⟩, ⟨a2, -⟩, ⟨a3, -⟩⟩ := hcl.out v2 hgr2
        go_wp2_with fail
        refine (hSB.out v2 hgr2).mono ?_
        rintro e v3 ⟨c4, e4, B4, bc4, rfl, hR4, hO4, hg3⟩
        obtain ⟨rfl, rfl⟩ := hRs.out.uniq (.inr ⟨rfl, hR4⟩)
        rw [← hn9.out]
        have hbA3 := hbA2.pure hg3
        have hbB3 := hbB2.pure hg3
        have hbC3 := hbC2.pure hg3
        have hSA3 := hSA2.pure hg3
        have hgr3 := hgr2.t hg3
        have hSB3 := hO4.sl.mono hlo3
        clear a0 a1 a2 a3 hSB hR4 hO4 hg3 hbA2 hbB2 hbC2 hgr2 hSA2 hcl
        obtain ⟨⟨d0, f0⟩, ⟨d1, f1⟩, ⟨d2, f2⟩, ⟨d3, f3⟩⟩ := box4_c hbB3
        go_wp2_with fail
        clear d0 d1 d2 d3 f0 f1 f2 f3
        have hgs := set4_gr (w := v3) (g := xb18) (.int .i64 cs.step) (.int .i64 cs.x) (.int .i64 cs.y) (.slice B4 n9 bc4)
        have hgr4 := gr_new hgr3 hgs hxb18
        have hbB4 := box_set4 hbB3 (.int .i64 cs.step) (.int .i64 cs.x) (.int .i64 cs.y) (.slice B4 n9 bc4)
        have hbA4 := hbA3.gr hgs (by intro e; injection e with e; omega)
        have hbC4 := hbC3.gr hgs (by intro e; injection e with e; omega)
        have hSA4 := hSA3.gr hgs (fun g e => by injection e with e; omega)
        have hSB4 := hSB3.gr hgs (fun g e => by injection e with e; omega)
        generalize (((v3.setCell ⟨xb18, 0, none⟩ (.int .i64 cs.step)).setCell ⟨xb18, 1, none⟩ (.int .i64 cs.x)).setCell ⟨xb18, 2, none⟩ (.int .i64 cs.y)).setCell ⟨xb18, 3, none⟩ (.slice B4 n9 bc4) = v4 at *
        go_meet
        exact ⟨by simp, by simp, _, _, _, _, hbA4, hSA4, hbB4, hSB4, hbC4, hgr4⟩
      · have hGb : (G == 0) = false := by simpa using hG0
        have hz1 : cg = ⟨0, 0, 0, []⟩ ∧ eg = G := by
          rcases hRg.out with ⟨-, h⟩ | ⟨h, -⟩
          · exact h
          · exact absurd h hG0
        have hz2 : cs = ⟨0, 0, 0, []⟩ ∧ es = G := by
          rcases hRs.out with ⟨-, h⟩ | ⟨h, -⟩
          · exact h
          · exact absurd h hG0
        obtain ⟨rfl, hz3⟩ := hz1
        obtain ⟨rfl, hz4⟩ := hz2
        obtain rfl : n7 = 0 := hn7.out
        obtain rfl : n9 = 0 := hn9.out
        subst hz3
        subst hz4
        clear hG0 hck hwr hgB hRg hRs
        go_wp2_with fail
        go_meet
        exact ⟨by simp, by simp, none, 0, none, 0, hba18, Sl.nil, hbb18, Sl.nil, hbc18, hg18⟩
    case rest =>
      obtain ⟨rfl, rfl, A18, c18, A19, c19, hbA, hSA, hbB, hSB, hbC, hgr⟩ := hcut
      clear hba18 hbb18 hbc18 hg18
      go_upto_if 99 with fail
      go_cut [17, 21] (fun s t wx => s = .int .i64 ed ∧ ∃ (A21 : Option Addr) (c21 : Nat) (r2 : List RawC) (lo2 : Nat) (A20 : Option Addr) (c20 : Nat), t = .slice A21 n11 c21 ∧ r2.length = n11 ∧ Own wx lo2 34 A21 c21 r2 ∧ CMatch wx lo2 r2 (partsV cl) ∧ Box wx xc18 34 ([.int .i64 (cd).step, .int .i64 (cd).x, .int .i64 (cd).y, .slice A20 n13 c20]) ∧ Sl wx 0 A20 cd.rows ∧ (∃ (A18 : Option Addr) (c18 : Nat), Box wx xa18 34 ([.int .i64 (cg).step, .int .i64 (cg).x, .int .i64 (cg).y, .slice A18 n7 c18]) ∧ Sl wx 0 A18 cg.rows) ∧ (∃ (A19 : Option Addr) (c19 : Nat), Box wx xb18 34 ([.int .i64 (cs).step, .int .i64 (cs).x, .int .i64 (cs).y, .slice A19 n9 c19]) ∧ Sl wx 0 A19 cs.rows) ∧ wr.grownBy wx none)
      case first =>
        have hm1 := hM11.1
        clear hO11 hM11 hb7 hb9 hb13 hSg hSs hSd hRg hRs
        by_cases hF0 : F = 0
        · have hok := cells_ok.1 (hFe.out.symm.trans hF0)
          have hPv : partsV cl = partsC cl := by unfold partsV; rw [if_pos (hFe.out.symm.trans hF0)]
          rw [hPv] at hm1
          subst hF0
          have hPO := hide (partsOf_any cl A8 n8 cc8 wc (hwr.out wc hgr) hok)
          have hCO := hide fun W (h : wr.grownBy W none) => closedOf_any cl A8 n8 cc8 W (hwr.out W h) hok
          have hcl := hide fun W (h : wr.grownBy W none) => hck.out W (hgB.t h)
          clear hck hgB hok hwr
          replace hPv := hide hPv
          replace hm1 := hide hm1
          obtain ⟨⟨a0, -⟩, ⟨a1, -⟩, ⟨a2, -⟩, ⟨a3, -⟩⟩ := hcl.out wc hgr
          go_wp2_with fail
          refine hPO.out.mono ?_
          rintro e v1 ⟨A21, c21, r2, rfl, hO2, hM2, hg1⟩
          have hr2 : r2.length = n11 := by rw [hM2.1, ← hm1.out, ← hn11.out]
          rw [hr2]
          replace hr2 := hide hr2
          have hgr1 := hgr.t hg1
          have hx1 : xc18 < wc.heap.size := hbC.lt
          obtain ⟨lo2, hlo2⟩ : ∃ q, q = wc.heap.size := ⟨_, rfl⟩
          rw [← hlo2] at hO2 hM2 hx1
          have hlv : lo2 ≤ v1.heap.size := by have := hg1.size; omega
          have hbA1 := hbA.pure hg1
          have hbB1 := hbB.pure hg1
          have hbC1 := hbC.pure hg1
          have hSA1 := hSA.pure hg1
          have hSB1 := hSB.pure hg1
          clear a0 a1 a2 a3 hPO hg1 hgr hbA hbB hbC hSA hSB hlo2 hm1
          obtain ⟨⟨a0, -⟩, ⟨a1, -⟩, ⟨a2, -⟩, ⟨a3, -⟩⟩ := hcl.out v1 hgr1
          go_upto_region 18 with fail
          go_wp2_with fail
          refine (hCO.out v1 hgr1).mono ?_
          rintro e v2 ⟨c2, e2, B, bc, rfl, hR2, hS2, hg2⟩
          obtain ⟨rfl, rfl⟩ := hRd.out.uniq (.inr ⟨rfl, hR2⟩)
          rw [← hn13.out]
          have hbA2 := hbA1.pure hg2
          have hbB2 := hbB1.pure hg2
          have hbC2 := hbC1.pure hg2
          have hSA2 := hSA1.pure hg2
          have hSB2 := hSB1.pure hg2
          have hO2' := hO2.pure hg2
          have hM2' := hM2.pure hg2
          have hgr2 := hgr1.t hg2
          have hSC2 := hS2.mono hlv
          clear a0 a1 a2 a3 hCO hg2 hgr1 hbA1 hbB1 hbC1 hSA1 hSB1 hO2 hM2 hS2 hlv hR2 hcl
          obtain ⟨⟨d0, f0⟩, ⟨d1, f1⟩, ⟨d2, f2⟩, ⟨d3, f3⟩⟩ := box4_c hbC2
          go_wp2_with fail
          clear d0 d1 d2 d3 f0 f1 f2 f3
          have hgs := set4_gr (w := v2) (g := xc18) (.int .i64 cd.step) (.int .i64 cd.x) (.int .i64 cd.y) (.slice B n13 bc)
          have hgr3 := gr_new hgr2 hgs hxc18
          have hbC3 := box_set4 hbC2 (.int .i64 cd.step) (.int .i64 cd.x) (.int .i64 cd.y) (.slice B n13 bc)
          have hbA3 := hbA2.gr hgs (by intro e; injection e with e; omega)
          have hbB3 := hbB2.gr hgs (by intro e; injection e with e; omega)
          have hSA3 := hSA2.gr hgs (fun g e => by injection e with e; omega)
          have hSB3 := hSB2.gr hgs (fun g e => by injection e with e; omega)
          have hSC3 := hSC2.gr hgs (fun g e => by injection e with e; omega)
          have hO3 := hO2'.ne hgs (fun g hz e => by have := (hO2'.blk_lt hz).1; injection e with e; omega)
          have hM3 := hM2'.keep hgs (fun _ _ _ ho g hz e => by have := (ho.blk_lt hz).1; injection e with e; omega)
          generalize (((v2.setCell ⟨xc18, 0, none⟩ (.int .i64 cd.step)).setCell ⟨xc18, 1, none⟩ (.int .i64 cd.x)).setCell ⟨xc18, 2, none⟩ (.int .i64 cd.y)).setCell ⟨xc18, 3, none⟩ (.slice B n13 bc) = v3 at *
          go_meet
          exact ⟨by simp, _, _, r2, lo2, _, _, by simp, hr2.out, hO3, by rw [hPv.out]; exact hM3, hbC3, hSC3.mono (Nat.zero_le _), ⟨_, _, hbA3, hSA3.mono (Nat.zero_le _)⟩, ⟨_, _, hbB3, hSB3.mono (Nat.zero_le _)⟩, hgr3⟩
        · have hFb : (F == 0) = false := by simpa using hF0
          have hz1 : cd = ⟨0, 0, 0, []⟩ ∧ ed = F := by
            rcases hRd.out with ⟨-, h⟩ | ⟨h, -⟩
            · exact h
            · exact absurd h hF0
          obtain ⟨rfl, hz3⟩ := hz1
          have hPv : partsV cl = [] := by unfold partsV; rw [if_neg (fun h => hF0 (hFe.out.trans h))]
          rw [hPv] at hm1
          have hr1 : n11 = 0 := hn11.out.trans hm1
          replace hPv := hide hPv
          subst hr1
          obtain rfl : n13 = 0 := hn13.out
          subst hz3
          clear hF0 hck hwr hgB hRd hFe hGe hm1
          go_wp2_with fail
          go_meet
          exact ⟨by simp, none, 0, [], 0, none, 0, by simp, rfl, Own.nil _ _ _, by rw [hPv.out]; exact CMatch.nil, hbC, Sl.nil, ⟨_, _, hbA, hSA.mono (Nat.zero_le _)⟩, ⟨_, _, hbB, hSB.mono (Nat.zero_le _)⟩, hgr⟩
      case rest =>
        clear hbA hSA hbB hSB hbC hgr
        obtain ⟨rfl, A21, c21, r2, lo2, A20, c20, rfl, hr2, hO2, hM2, hbC, hSC, ⟨A18, c18, hbA, hSA⟩, ⟨A19, c19, hbB, hSB⟩, hgr⟩ := hcut
        have hq1 := hide (sameCells_any cg A7 n7 c7 A18 c18 wc (hSg.pure hgr) hSA hn7.out.symm)
        have hq2 := hide fun W (h : wc.grownBy W none) => sameCells_any cs A9 n9 c9 A19 c19 W (hSs.pure (hgr.t h)) (hSB.pure h) hn9.out.symm
        have hq3 := hide fun W (h : wc.grownBy W none) => equalCells_any A11 c11 r1 A21 c21 r2 (partsV cl) _ _ _ _ n11 n11 W (hO11.pure (hgr.t h)) (hM11.pure (hgr.t h)) (hO2.pure h) (hM2.pure h) hn11.out.symm hr2
        have hq4 := hide fun W (h : wc.grownBy W none) => sameCells_any cd A13 n13 c13 A20 c20 W (hSd.pure (hgr.t h)) (hSC.pure h) hn13.out.symm
        have hcA := hide fun W (h : wc.grownBy W none) => And.intro (box4_c (hb7.pure (hgr.t h))) (box4_c (hbA.pure h))
        have hcB := hide fun W (h : wc.grownBy W none) => And.intro (box4_c (hb9.pure (hgr.t h))) (box4_c (hbB.pure h))
        have hcC := hide fun W (h : wc.grownBy W none) => And.intro (box4_c (hb13.pure (hgr.t h))) (box4_c (hbC.pure h))
        have hgz := hgc.t (hgB.t hgr)
        have hgI := World.grownBy.refl wc none
        clear hO11 hM11 hO2 hM2 hb7 hb9 hb13 hbA hbB hbC hSg hSs hSd hSA hSB hSC hr2 hgr hwr hck hgB hgc hlo hRg hRs hRd hFe hGe hn7 hn9 hn11 hn13
        obtain ⟨⟨⟨a0, -⟩, ⟨a1, -⟩, ⟨a2, -⟩, ⟨a3, -⟩⟩, ⟨⟨d0, -⟩, ⟨d1, -⟩, ⟨d2, -⟩, ⟨d3, -⟩⟩⟩ := hcA.out wc hgI
        go_wp2_with fail
        refine hq1.out.mono ?_
        rintro e v1 ⟨rfl, hg1⟩
        clear a0 a1 a2 a3 d0 d1 d2 d3 hcA hq1
        obtain ⟨⟨⟨a0, -⟩, ⟨a1, -⟩, ⟨a2, -⟩, ⟨a3, -⟩⟩, ⟨⟨d0, -⟩, ⟨d1, -⟩, ⟨d2, -⟩, ⟨d3, -⟩⟩⟩ := hcB.out v1 hg1
        go_wp2_with fail
        refine (hq2.out v1 hg1).mono ?_
        rintro e v2 ⟨rfl, hg2⟩
        have hg12 := hg1.t hg2
        clear a0 a1 a2 a3 d0 d1 d2 d3 hcB hq2 hg1 hg2
        go_wp2_with fail
        refine (hq3.out v2 hg12).mono ?_
        rintro e v3 ⟨rfl, hg3⟩
        have hg13 := hg12.t hg3
        clear hq3 hg12 hg3
        obtain ⟨⟨⟨a0, -⟩, ⟨a1, -⟩, ⟨a2, -⟩, ⟨a3, -⟩⟩, ⟨⟨d0, -⟩, ⟨d1, -⟩, ⟨d2, -⟩, ⟨d3, -⟩⟩⟩ := hcC.out v3 hg13
        go_wp2_with fail
        refine (hq4.out v3 hg13).mono ?_
        rintro e v4 ⟨rfl, hg4⟩
        have hg14 := hg13.t hg4
        clear a0 a1 a2 a3 d0 d1 d2 d3 hcC hq4 hg13 hg4
        go_wp2_with fail
        refine (regioned_any _).mono ?_
        rintro e v5 ⟨rfl, hg5⟩
        go_wp2_with fail
        go_ret
        exact ⟨rfl, hgz.t (hg14.t hg5)⟩

end Go.Proofs.YtgcpegjggakemaaGreatDoor

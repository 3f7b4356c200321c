/- Contracts of functions that this seat's laws reach, each: what one call returns and what it leaves in memory; no condition beyond each theorem's own hypotheses. -/
import Derived.Test.YtgcpegjggakemaaGreatDoorZqStaA
import Derived.Test.YtgcpegjggakemaaGreatDoorZqSimpT
import Derived.Test.YtgcpegjggakemaaGreatDoorZqPtCl
import Derived.Test.YtgcpegjggakemaaGreatDoorZqRegSame
import Derived.Test.YtgcpegjggakemaaGreatDoorZqCelAD
import Derived.Test.YtgcpegjggakemaaGreatDoorZqCelAH
import Derived.Test.YtgcpegjggakemaaGreatDoorZqCelN
import Derived.Test.YtgcpegjggakemaaGreatDoorZqCelNr
import Derived.Test.YtgcpegjggakemaaGreatDoorZqReady
set_option linter.unusedVariables false
set_option linter.unusedSimpArgs false
namespace Go.Bl
open Go

theorem CellsOk.smallR {c : Cel} (h : CellsOk c) : ∀ s ∈ c.rows, s.size ≤ 4611686018427387904 := fun s hs => by
  obtain ⟨j, hj, rfl⟩ := List.mem_iff_getElem.1 hs
  have h1 := (h.row j hj).1
  have h2 := h.wide
  rw [getD_of hj] at h1
  omega

end Go.Bl
namespace Go.Proofs.YtgcpegjggakemaaGreatDoor
open Go Go.RowKit Go.Bl

set_option maxHeartbeats 8000000 in
set_option maxRecDepth 100000 in
theorem regionsStay_law (A : Option Addr) (n c : Nat) (L : List Int) (w : World) (hL : Sl w 0 A L) (hn : L.length = n) :
    Calls Tryz.prog 5 #[.slice A n c] w fun e w' => e = .returned (.bool true) ∧ w.grownBy w' none := by
  have hs0 := strm_new (c := c) 25 hL hn
  have hg0 := gr_alloc (World.grownBy.refl w none) (.cells #[.slice A n c, .int .i64 0] 25)
  go_enter Tryz.func5, Tryz.ntmps5
  go_upto_region 2 with fail
  obtain ⟨w1, hw1⟩ : ∃ x, x = w.alloc (.cells #[.slice A n c, .int .i64 0] 25) := ⟨_, rfl⟩
  rw [← hw1] at hs0 hg0 ⊢
  clear hw1
  obtain ⟨b, hb⟩ : ∃ q, q = w.heap.size := ⟨_, rfl⟩
  rw [← hb] at hs0 ⊢
  replace hb : w.heap.size ≤ b := by omega
  have hbw := hs0.lt
  have hR := hide (rightRegion_any b 0 w1 hs0 (by omega))
  go_wp2_with fail
  refine hR.out.mono ?_
  rintro e w2 ⟨A1, c1, rs, rfl, hl1, -, hF, ho2⟩
  have hz2 := ho2.1.size
  have hgw2 := gr_new hg0 ho2.1 hb
  have hst2 := ho2.2
  replace hF := hide hF
  clear hR ho2 hg0 hs0 hL
  have hP := hide (pointCloud_any b _ w2 hst2 (by omega))
  go_wp2_with fail
  refine hP.out.mono ?_
  rintro e w3 ⟨A2, c2, P, rfl, hl2, hP9, ho3⟩
  have hz3 := ho3.1.size
  have hgw3 := gr_new hgw2 ho3.1 hb
  have hst3 := ho3.2
  replace hl1 := hl1.gr ho3.1 (fun q e => by injection e; omega)
  clear hP ho3 hgw2 hst2
  have hRC := hide (rightCells_any b _ 2 w3 hst3 (by omega) (by decide))
  go_wp2_with fail
  refine hRC.out.mono ?_
  rintro e w4 ⟨cl, A4, cc4, rfl, hl4, hok, hcs, hna, ho4⟩
  obtain ⟨n4, hn4⟩ : ∃ q, q = cl.rows.length := ⟨_, rfl⟩
  rw [← hn4]
  have hgw4 := gr_new hgw3 ho4.1 hb
  replace hl1 := (hl1.gr ho4.1 (fun q e => by injection e; omega)).mono (Nat.zero_le _)
  replace hl2 := (hl2.gr ho4.1 (fun q e => by injection e; omega)).mono (Nat.zero_le _)
  replace hl4 := hl4.mono (Nat.zero_le _)
  replace hn4 := hide hn4
  have hcs2 : stepB cl.step = false := by rw [hcs]; decide
  replace hcs := hide hcs
  replace hok := hide hok
  replace hna := hide hna
  clear hRC ho4 hgw3 hst3 hz2 hz3 hbw hb
  go_upto_region 3 with fail
  obtain ⟨w6, hw6⟩ : ∃ x, x = (w4).alloc (.cells [.int .i64 (cl).step, .int .i64 (cl).x, .int .i64 (cl).y, .slice A4 n4 cc4].toArray 34) := ⟨_, rfl⟩
  have hg6 : (w4).grownBy w6 none := by rw [hw6]; exact gr_alloc (World.grownBy.refl _ _) _
  have hb6 : Box w6 (w4).heap.size 34 [.int .i64 (cl).step, .int .i64 (cl).x, .int .i64 (cl).y, .slice A4 n4 cc4] := by rw [hw6]; exact Box.new _ _ _
  have hxs6 := hb6.lt
  rw [← hw6]
  clear hw6
  obtain ⟨x6, hx6⟩ : ∃ x, x = (w4).heap.size := ⟨_, rfl⟩
  rw [← hx6] at hb6 hxs6 ⊢
  have hxl6 : (w4).heap.size ≤ x6 := by omega
  clear hx6
  replace hl1 := hl1.pure hg6
  replace hl2 := hl2.pure hg6
  replace hl4 := hl4.pure hg6
  have hgw6 := hgw4.t hg6
  clear hgw4 hg6 hxs6 hxl6
  have hfew := (rok_of hF.out).few
  have hlen := hide (rok_of hF.out).len
  obtain ⟨i0, hi, hz, h1, h2⟩ := info_parts info_ring
  have hself := World.grownBy.refl w6 none
  go_wp2_with fail
  go_loopw [7, 40] (fun s i wr => ∃ (k : Nat) (A7 : Option Addr) (c7 : Nat), k ≤ rs.length ∧ i = .int .i64 k ∧ s = .slice A7 k c7 ∧ OwnN RawS wr w6.heap.size 66 A7 c7 (rs.take k) ∧ w6.grownBy wr none) (fun _ i _ => rs.length - (intOf i).toNat)
  case atStart => exact ⟨0, none, 0, Nat.zero_le _, rfl, rfl, OwnN.nil _ _ _, hself⟩
  case round =>
    clear hself
    obtain ⟨k, A7, c7, hk, rfl, rfl, hown, hg⟩ := hrel
    by_cases hlt : k < rs.length
    · obtain ⟨g, o, Bk, dk, rfl, hb1, c0, -, hsl⟩ := sl_inner' (hl1.pure hg) hlt
      have hlk := hlen.out _ (List.getElem_mem hlt)
      have htk : Hid (rs.take (k + 1) = rs.take k ++ [rs[k]]) := List.take_succ_eq_append_getElem hlt
      have hCl := hide (cloneRg_any Bk dk rs[k] wr hsl (by omega))
      generalize rs[k] = r at *
      clear hsl
      go_wp2_with fail
      refine hCl.out.mono ?_
      rintro e w5 ⟨A5, c5, rfl, hO5, hg5⟩
      obtain ⟨raws, hOr, hA2⟩ := hown
      have hrl : Hid (k = raws.length) := by rw [Hid, hA2.len, List.length_take]; omega
      have hgy := hg.t hg5
      have hOr5 := hOr.pure hg5
      have hne : ∀ g, blk A5 = some g → blk A7 ≠ some g := fun g h e => by
        have h1 := (hO5.blk_lt h).1
        have h2 := (hOr.blk_lt e).2
        omega
      have hnew : NOk RawS w5 w6.heap.size A7 ⟨A5, r.length, c5⟩ r := ⟨⟨rfl, hO5.cap, hO5.sl.mono hg.size, fun g h => ⟨Nat.le_trans hg.size (hO5.blk_lt h).1, (hO5.blk_lt h).2⟩⟩, hne⟩
      have hga := gr_alloc (World.grownBy.refl w5 none) (.cells #[.slice A5 r.length c5] 66)
      have hszy := hgy.size
      have hA5 := hA2.grN hg5
      clear c0 hCl hO5 hOr hg5
      go_wp2_with (at_builtin; refine wpList_pushAt (α := RawS) _ rfl (.tmp 44) (.tmp 47) _ rfl w6.heap.size 66 i0 _ 24 Tryz.underlying26 hi hz h1 h2 rfl _ _ _ raws rfl hrl.out (by exact hOr5.pure hga) 0 ⟨_, 0, none⟩ 1 1 [⟨A5, r.length, c5⟩] rfl rfl (by exact sl_oneAt _ 0 [.slice A5 r.length c5] _ _ _ (by first | rfl | simp) (Nat.zero_le _) rfl) ?d2 ?d3 ?d4 ?_)
      case d2 => have := hrl.out; simp; omega
      case d3 => have := hrl.out; simp [maxLen]; omega
      case d4 => first | omega | (simp; omega)
      intro A6 c6 w8 hO6 hG6
      have hN6 : OwnN RawS w8 w6.heap.size 66 A6 c6 (rs.take (k + 1)) := by
        rw [htk.out]
        exact OwnN.push (hA5.grN hga) hO6 hG6 ⟨NestOf.gr hnew.1 hga (fun q _ e => by cases e), hnew.2⟩
      have hgz := gr_row (hgy.t hga) hG6.1 (fun x e => ((hOr5.pure hga).blk_lt e).1)
      go_wp2_with fail
      (go_roundw; (case rel => exact ⟨k + 1, A6, c6, by omega, by go_num, by rw [← hrl.out], hN6, hgz⟩); (case measure => simp [intOf]; omega))
    · obtain rfl : k = rs.length := by omega
      rw [List.take_length] at hown
      have hl7 := hown.sl.mono (Nat.zero_le _)
      replace hl1 := hl1.pure hg
      replace hl2 := hl2.pure hg
      replace hl4 := hl4.pure hg
      replace hb6 := hb6.pure hg
      have hgw := hgw6.t hg
      clear hown hg hgw6 hi hz h1 h2 hlen
      obtain ⟨wo, rfl⟩ : ∃ x, x = wr := ⟨wr, rfl⟩
      have hck := hide fun wx (h : wo.grownBy wx none) => (box4_c (hb6.pure h)).2.2.2
      have hCP := hide fun W (h : wo.grownBy W none) => clonePt_any A2 c2 P W (hl2.pure h) (by omega)
      have hn4b : n4 ≤ 1000 := by have := hok.out.many; have := hn4.out; omega
      have hCS := hide fun W (h : wo.grownBy W none) => cloneStrs_any A4 n4 cc4 cl.rows W (hl4.pure h) hn4.out.symm (by omega)
      go_upto_region 9 with fail
      go_cut [10, 11] (fun s t wx => ∃ (A10 : Option Addr) (c10 : Nat) (A11 : Option Addr) (c11 : Nat), s = .slice A10 P.length c10 ∧ t = .slice A11 n4 c11 ∧ Sl wx 0 A10 P ∧ Sl wx 0 A11 cl.rows ∧ wo.grownBy wx none)
      case first =>
        refine wp_region_tree (fun wx => wo.grownBy wx none) [2, 0, 2, 1, 0, 2, 2] (.bl 0 (.bl 2 (.bl 3 (.ef 1 (.ef 4 (.bl 5 (.bl 6 .done))))))) (by kernel_rfl) (by kernel_rfl) (gr_drew (World.grownBy.refl _ _)) ?_
        obtain ⟨u0, hu0⟩ : ∃ x, x = (wo).drew := ⟨_, rfl⟩
        rw [← hu0]
        have hgu0 : (wo).grownBy u0 none := by rw [hu0]; exact gr_drew (World.grownBy.refl _ _)
        clear hu0
        refine tree_p rfl rfl rfl rfl _ rfl (by simp) (fun K hK => ?_)
        apply Exists.intro
        refine ⟨fun wq K' hK' => ?_, ?_⟩
        · go_wp2_with fail
          exact hK'
        go_simp
        refine hK _ ?_
        clear hK K
        refine tree_p rfl rfl rfl rfl _ rfl (by simp) (fun K hK => ?_)
        apply Exists.intro
        refine ⟨fun wq K' hK' => ?_, ?_⟩
        · go_wp2_with fail
          exact hK'
        go_simp
        refine hK _ ?_
        clear hK K
        refine tree_b rfl rfl rfl rfl _ rfl (by simp) (fun K hK => ?_)
        apply Exists.intro
        refine ⟨fun wq hq K' hK' => ?_, ?_⟩
        · obtain ⟨d3, -⟩ := hck.out wq hq
          go_wp2_with fail
          exact hK'
        go_simp
        refine hK _ ?_
        clear hK K
        refine tree_e rfl rfl (fun K hK => ?_)
        go_wp2_with fail
        refine (hCP.out u0 (gr_trans hgu0 (World.grownBy.refl _ _))).mono ?_
        rintro e v1 ⟨A10, c10, rfl, hO10, hg1⟩
        go_wp2_with fail
        try go_simp
        refine hK _ _ (gr_trans hgu0 (gr_trans (World.grownBy.refl _ _) hg1)) ?_
        clear hK K
        refine tree_e0 (by kernel_rfl) rfl rfl (fun K hK => ?_)
        go_wp2_with fail
        refine (hCS.out v1 (gr_trans hgu0 hg1)).mono ?_
        rintro e v4 ⟨A11, c11, rfl, hO11, hg4⟩
        go_wp2_with fail
        try go_simp
        refine hK _ _ trivial ?_
        clear hK K
        refine tree_p rfl rfl rfl rfl _ rfl (by simp) (fun K hK => ?_)
        apply Exists.intro
        refine ⟨fun wq K' hK' => ?_, ?_⟩
        · go_wp2_with fail
          exact hK'
        go_simp
        refine hK _ ?_
        clear hK K
        refine tree_p rfl rfl rfl rfl _ rfl (by simp) (fun K hK => ?_)
        apply Exists.intro
        refine ⟨fun wq K' hK' => ?_, ?_⟩
        · go_wp2_with fail
          exact hK'
        go_simp
        refine hK _ ?_
        clear hK K
        refine tree_done ?_
        have hgz := gr_trans hgu0 (gr_trans hg1 hg4)
        go_wp2_with fail
        go_meet
        exact ⟨A10, c10, A11, c11, rfl, rfl, (hO10.pure hg4).sl.mono (Nat.zero_le _), hO11.sl.mono (Nat.zero_le _), hgz⟩
      case rest =>
      obtain ⟨A10, c10, A11, c11, rfl, rfl, hl10, hl11, hgc⟩ := hcut
      generalize hwq : wc = w9 at *
      clear hwq hCP hCS hck
      replace hl1 := hl1.pure hgc
      replace hl7 := hl7.pure hgc
      replace hl2 := hl2.pure hgc
      replace hl4 := hl4.pure hgc
      replace hb6 := hb6.pure hgc
      replace hgw := hgw.t hgc
      clear hgc
      clear wo
      have hfl := Nat.le_trans (rok2_of hF.out).flat (show 2000 ≤ 1000000 by omega)
      have hNo := hide (normal_any A1 c1 rs w9 hl1 hF.out hfl)
      have hSi := hide fun W (h : w9.grownBy W none) => simplifiedT_any A1 c1 rs W (hl1.pure h) hF.out hfl
      go_wp2_with fail
      refine hNo.out.mono ?_
      rintro e w10 ⟨A12, c12, ra, rfl, hOa, hra, hal, hg10⟩
      go_wp2_with fail
      refine (hSi.out w10 hg10).mono ?_
      rintro e w11 ⟨A14, c14, rb, rfl, hOb, hrb, hbl, hg11⟩
      have hz10 := hg10.size
      have hz11 := hg11.size
      obtain ⟨lo, hlo⟩ : ∃ q, q = w9.heap.size := ⟨_, rfl⟩
      obtain ⟨hi, hhi⟩ : ∃ q, q = w11.heap.size := ⟨_, rfl⟩
      have hSp : Hid (∀ r ∈ ra ++ rb, SpV IsI 2 w11 lo hi r.A r.n ∧ r.n ≤ 500) := fun r hr => by
        rcases List.mem_append.1 hr with h | h
        · exact ⟨((hra r h).sp.mono (by omega) (by omega)).pure hg11, (hra r h).le⟩
        · exact ⟨(hrb r h).sp.mono (by omega) (by omega), (hrb r h).le⟩
      have hla := (hOa.pure hg11).sl.mono (Nat.zero_le _)
      have hlb := hOb.sl.mono (Nat.zero_le _)
      have hg911 := hg10.t hg11
      clear hNo hSi hOa hra hg10 hOb hrb hg11
      have hC11 := CArg.mk (w := w11) ((hl4.pure hg911).mono (Nat.zero_le _)) hn4.out.symm hok.out.smallR
      have hGr := hide (grown_any cl A4 n4 cc4 0 w11 hC11 hok.out (by omega))
      obtain ⟨⟨a0, -⟩, ⟨a1, -⟩, ⟨a2, -⟩, ⟨a3, -⟩⟩ := box4_c (hb6.pure hg911)
      go_wp2_with fail
      refine hGr.out.mono ?_
      rintro e w12 ⟨U, erU, CU, ccU, rfl, hRU, hOU, hg12⟩
      have hin : InS 50 (onC cl) := fun x y h => by have := hna.out x y h; omega
      obtain rfl := hRU.zero' hcs2 (show (50 : Int) + 0 ≤ 90 by omega) (gro_in hin)
      have hspU := Own.spS hOU
      obtain ⟨nU, hnU⟩ : ∃ q, q = U.rows.length := ⟨_, rfl⟩
      rw [← hnU] at hspU ⊢
      have hUm : nU ≤ maxLen := by rw [hnU]; exact hOU.sl.1
      clear hnU hRU hOU a0 a1 a2 a3 hGr
      go_upto_region 13 with fail
      obtain ⟨w16, hw16⟩ : ∃ x, x = (w12).alloc (.cells [.int .i64 (U).step, .int .i64 (U).x, .int .i64 (U).y, .slice CU nU ccU].toArray 34) := ⟨_, rfl⟩
      have hg16 : (w12).grownBy w16 none := by rw [hw16]; exact gr_alloc (World.grownBy.refl _ _) _
      have hb16 : Box w16 (w12).heap.size 34 [.int .i64 (U).step, .int .i64 (U).x, .int .i64 (U).y, .slice CU nU ccU] := by rw [hw16]; exact Box.new _ _ _
      have hxs16 := hb16.lt
      rw [← hw16]
      clear hw16
      obtain ⟨x16, hx16⟩ : ∃ x, x = (w12).heap.size := ⟨_, rfl⟩
      rw [← hx16] at hb16 hxs16 ⊢
      have hxl16 : (w12).heap.size ≤ x16 := by omega
      clear hx16
      have hz12 := hg12.size
      have hz1216 := hg16.size
      have hg1116 := hg12.t hg16
      replace hspU := hspU.pure hg16
      have hC16 := hC11.pure hg1116
      have hUn := hide (union_any cl cl A4 n4 cc4 A4 n4 cc4 w16 hC16 hC16)
      obtain ⟨⟨a0, -⟩, ⟨a1, -⟩, ⟨a2, -⟩, ⟨a3, -⟩⟩ := box4_c (hb6.pure (hg911.t hg1116))
      clear hC16 hC11 hg12 hg16 hxs16
      go_wp2_with fail
      refine hUn.out.mono ?_
      rintro e w17 ⟨V, erV, CV, ccV, rfl, hRV, hOV, hg17⟩
      have hpz : pairF cl cl = 0 := pair_zero hok.out hok.out rfl
      have hRV2 : IsCells cl.step (fun x y => onC cl x y || onC cl x y) V erV := by
        rcases hRV with ⟨h, -⟩ | ⟨-, h⟩
        · exact absurd hpz h
        · exact h
      obtain rfl := hRV2.zero' hcs2 (show (50 : Int) ≤ 90 by omega) (fun x y h => hin x y (by simpa using h))
      have hspV := Own.spS hOV
      obtain ⟨nV, hnV⟩ : ∃ q, q = V.rows.length := ⟨_, rfl⟩
      rw [← hnV] at hspV ⊢
      have hVm : nV ≤ maxLen := by rw [hnV]; exact hOV.sl.1
      clear hnV hRV hRV2 hOV a0 a1 a2 a3 hUn hpz hin hna hcs2
      go_upto_region 14 with fail
      obtain ⟨w18, hw18⟩ : ∃ x, x = (w17).alloc (.cells [.int .i64 (V).step, .int .i64 (V).x, .int .i64 (V).y, .slice CV nV ccV].toArray 34) := ⟨_, rfl⟩
      have hg18 : (w17).grownBy w18 none := by rw [hw18]; exact gr_alloc (World.grownBy.refl _ _) _
      have hb18 : Box w18 (w17).heap.size 34 [.int .i64 (V).step, .int .i64 (V).x, .int .i64 (V).y, .slice CV nV ccV] := by rw [hw18]; exact Box.new _ _ _
      have hxs18 := hb18.lt
      rw [← hw18]
      clear hw18
      obtain ⟨x18, hx18⟩ : ∃ x, x = (w17).heap.size := ⟨_, rfl⟩
      rw [← hx18] at hb18 hxs18 ⊢
      have hxl18 : (w17).heap.size ≤ x18 := by omega
      clear hx18
      have hz17 := hg17.size
      have hg1618 := hg17.t hg18
      have hg1118 := hg1116.t hg1618
      have hz16 := hg1116.size
      replace hspU := (hspU.pure hg1618).mono (show hi ≤ _ by omega) (show _ ≤ w18.heap.size by have := hg1618.size; omega)
      replace hspV := (hspV.pure hg18).mono (show hi ≤ _ by omega) (show _ ≤ w18.heap.size by have := hg18.size; omega)
      replace hb16 := hb16.pure hg1618
      have hx16 : hi ≤ x16 := by omega
      have hx18 : hi ≤ x18 := by omega
      have hg918 := hg911.t hg1118
      have hloh : lo ≤ hi := by omega
      replace hSp : Hid (∀ r ∈ ra ++ rb, SpV IsI 2 w18 lo hi r.A r.n ∧ r.n ≤ 500) := fun r hr => ⟨(hSp.out r hr).1.pure hg1118, (hSp.out r hr).2⟩
      replace hla := hla.pure hg1118
      replace hlb := hlb.pure hg1118
      have hh18 : hi ≤ w18.heap.size := by have := hg1118.size; omega
      clear hg911 hg1116 hg1618 hg1118 hg17 hg18 hz12 hz17 hz16 hxl16 hxl18 hxs18 hz10 hz11 hhi
      have hHu : Hid (Calls Tryz.prog 44 #[.slice A2 P.length c2] w18 fun e w' => ∃ (A' : Option Addr) (n' c' : Nat) (E : Int), e = .returned (.tuple #[.slice A' n' c', .int .i64 E]) ∧ n' ≤ maxLen ∧ (E = 0 → SpV IsI 2 w' w18.heap.size w'.heap.size A' n') ∧ w18.grownBy w' none) :=
        (hull_any A2 P.length c2 P w18 (hl2.pure hg918) rfl (by omega)).mono (by
          rintro e w' (⟨E, hE, rfl, hg⟩ | ⟨A', c', out, rfl, hO, hg⟩)
          · exact ⟨none, 0, 0, E, rfl, Nat.zero_le _, fun h => absurd h hE, hg⟩
          · refine ⟨A', out.length, c', 0, rfl, hO.sl.1, fun _ j hj => ?_, hg⟩
            obtain ⟨g, rfl, h1, h2⟩ := hO.shape (by omega)
            obtain ⟨a0, -⟩ := hO.cell_pt hj
            exact ⟨g, 0, _, rfl, h1, h2, ⟨_, rfl⟩, by rw [Nat.zero_add]; exact a0, by rw [Nat.zero_add]; exact hO.frozen _⟩)
      go_wp2_with fail
      refine hHu.out.mono ?_
      rintro e w20 ⟨A20, n20, c20, E, rfl, hn20, hsp20, hg20⟩
      clear hHu
      go_upto_if 96 with fail
      go_cut [] (fun wx => w18.grownBy wx none)
      case first =>
        by_cases hE : E = 0
        · subst hE
          have hsp := hsp20 rfl
          have hz18 : w18.heap.size ≤ w20.heap.size := hg20.size
          generalize w20.heap.size = hi20 at *
          clear hsp20
          unfold maxLen at hn20
          go_wp2_with fail
          go_loopw [99] (fun i wr => ∃ j : Nat, j ≤ n20 ∧ i = .int .i64 j ∧ SpV IsI 2 wr w18.heap.size hi20 A20 n20 ∧ w18.grownBy wr none) (fun i _ => n20 - (intOf i).toNat)
          case atStart => exact ⟨0, Nat.zero_le _, rfl, hsp, hg20⟩
          case round =>
            clear hsp hg20
            obtain ⟨j, hj, rfl, hsp, hgr⟩ := hrel
            by_cases hlt : j < n20
            · obtain ⟨g, o, v, rfl, hgl, -, ⟨x, rfl⟩, c0, f0⟩ := hsp j hlt
              have hsp2 := hsp.set g (o + j * 2) (.int .i64 777) ⟨777, rfl⟩ rfl
              have hgr2 := gr_new hgr (gr_set (World.grownBy.refl wr (some g)) (p := ⟨g, o + j * 2, none⟩) (.inl rfl) (.int .i64 777)) hgl
              replace hsp2 := hide hsp2
              clear hsp
              go_wp2_with fail
              (go_roundw; (case rel => exact ⟨j + 1, by omega, by go_num, hsp2.out, hgr2⟩); (case measure => simp [intOf]; omega))
            · go_wp2_with fail
              go_meet
              exact hgr
        · have hEb : (E == 0) = false := by simpa using hE
          clear hsp20
          go_wp2_with fail
          go_meet
          exact hg20
      case rest =>
      have hgc : w18.grownBy wc none := hcut
      generalize hwq : wc = w23 at *
      clear hwq hsp20 hg20 hcut
      have hsz23 := hgc.size
      have hra500 : Hid (∀ r ∈ ra ++ rb, SpV IsI 2 w23 lo hi r.A r.n ∧ r.n ≤ 500) := fun r hr => ⟨(hSp.out r hr).1.pure hgc, (hSp.out r hr).2⟩
      have hg923 := hg918.t hgc
      replace hla := hla.pure hgc
      replace hlb := hlb.pure hgc
      replace hb16 := hb16.pure hgc
      replace hb18 := hb18.pure hgc
      replace hspU := hspU.pure hgc
      replace hspV := hspV.pure hgc
      have hCR := hide fun W (h : w23.grownBy W none) => cloneRings_any A12 c12 ra W (hla.pure h) (by omega)
      obtain ⟨hi18, hhi18⟩ : ∃ q, q = w18.heap.size := ⟨_, rfl⟩
      rw [← hhi18] at hspU hspV hh18 hsz23
      clear hSp hg918 hgc hla hhi18
      obtain ⟨i0, hi0, hz, h1, h2⟩ := info_parts info_ring
      go_wp2_with fail
      refine (hCR.out w23 (World.grownBy.refl _ _)).mono ?_
      rintro e v1 ⟨A24, c24, rfl, hO24, hg1⟩
      have hO24l := hO24.lower (show hi ≤ w23.heap.size by omega)
      have hlb1 := hlb.pure hg1
      have hsz1 := hg1.size
      go_wp2_with (at_builtin; refine wpList_pushAny (α := RawS) _ rfl (.tmp 108) (.tmp 109) _ rfl hi 66 i0 _ 24 Tryz.underlying26 hi0 hz h1 h2 rfl (by decide) _ _ _ ra rfl rfl (by exact hO24l) 0 _ _ _ rb rfl rfl (by exact hlb1) ?d2 ?d3 ?d4 ?_)
      case d2 => omega
      case d3 => simp [maxLen]; omega
      case d4 => omega
      intro A25 c25 w25 hO25 hG25
      have hgc := gr_row hg1 hG25.1 (fun x e => (hO24.blk_lt e).1)
      clear hCR hi0 hz h1 h2 hlb hlb1 hO24 hO24l hg1 hG25
      have hg925 := hg923.t hgc
      have hsz25 := hgc.size
      have hRl : (ra ++ rb).length ≤ 200 := by rw [List.length_append]; omega
      have hSpR : Hid (∀ r ∈ ra ++ rb, SpV IsI 2 w25 lo hi r.A r.n) := fun r hr => (hra500.out r hr).1.pure hgc
      have h500 : Hid (∀ r ∈ ra ++ rb, r.n ≤ 500) := fun r hr => (hra500.out r hr).2
      replace hb16 := hb16.pure hgc
      replace hb18 := hb18.pure hgc
      replace hspU := hspU.pure hgc
      replace hspV := hspV.pure hgc
      have hll : (ra ++ rb).length = ra.length + rb.length := List.length_append
      try rw [hll]
      replace hll := hide hll
      have hRs : ra.length + rb.length ≤ 200 := by omega
      rw [hll.out] at hRl
      generalize hRe : ra ++ rb = R at *
      generalize ra.length + rb.length = RL at *
      clear hra500 hg923 hgc hRe
      obtain ⟨K, hK0, hKs, hKe⟩ : ∃ K : World → Prop, K w25 ∧ (∀ W W' q, K W → W.grownBy W' q → (∀ g, q = some g → g < hi) → K W') ∧ (∀ W, K W → Own W hi 66 A25 c25 R ∧ Box W x16 34 ([.int .i64 (U).step, .int .i64 (U).x, .int .i64 (U).y, .slice CU nU ccU]) ∧ Box W x18 34 ([.int .i64 (V).step, .int .i64 (V).x, .int .i64 (V).y, .slice CV nV ccV]) ∧ SpV IsS 1 W hi hi18 CU nU ∧ SpV IsS 1 W hi hi18 CV nV ∧ hi18 ≤ W.heap.size) :=
        ⟨fun W => Own W hi 66 A25 c25 R ∧ Box W x16 34 ([.int .i64 (U).step, .int .i64 (U).x, .int .i64 (U).y, .slice CU nU ccU]) ∧ Box W x18 34 ([.int .i64 (V).step, .int .i64 (V).x, .int .i64 (V).y, .slice CV nV ccV]) ∧ SpV IsS 1 W hi hi18 CU nU ∧ SpV IsS 1 W hi hi18 CV nV ∧ hi18 ≤ W.heap.size,
          ⟨hO25, hb16, hb18, hspU, hspV, by omega⟩,
          fun W W' q h hg hq => ⟨h.1.keep hg hq, h.2.1.gr hg (fun e => by have := hq x16 e; omega), h.2.2.1.gr hg (fun e => by have := hq x18 e; omega), h.2.2.2.1.gr hg (fun g e => .inr (hq g e)), h.2.2.2.2.1.gr hg (fun g e => .inr (hq g e)), Nat.le_trans h.2.2.2.2.2 hg.size⟩,
          fun W h => h⟩
      replace hKs := hide hKs
      replace hKe := hide hKe
      have hlo9 : Hid (lo = w9.heap.size) := hlo
      clear hO25 hb16 hb18 hspU hspV hx16 hx18 hlo hsz23 hsz25
      go_wp2_with fail
      go_loopw [112] (fun i wr => ∃ k : Nat, k ≤ RL ∧ i = .int .i64 k ∧ K wr ∧ Hid (∀ r ∈ R, SpV IsI 2 wr lo hi r.A r.n) ∧ w9.grownBy wr none) (fun i _ => RL - (intOf i).toNat)
      case atStart => exact ⟨0, Nat.zero_le _, rfl, hK0, hSpR, hg925⟩
      case round =>
        clear hK0 hSpR hg925
        obtain ⟨k, hk, rfl, hK, hsp, hgr⟩ := hrel
        by_cases hlt : k < RL
        · have hltR : k < R.length := by rw [hll.out]; exact hlt
          have hOk := (hKe.out wr hK).1
          obtain ⟨gR, rfl, -⟩ := hOk.shape (by omega)
          obtain ⟨cx, hr, hc⟩ := hOk.cell_at (by decide) hltR
          have hr' : cx = [.slice R[k].A R[k].n R[k].c] := hr
          subst hr'
          have c0 : wr.cell? ⟨gR, k, none⟩ = some (.slice R[k].A R[k].n R[k].c) := by
            have := hc 0 _ rfl
            rwa [show Enc.sz RawS = 1 from rfl, Nat.mul_one] at this
          have hmR := hide (List.getElem_mem hltR)
          have h5 := h500.out _ hmR.out
          clear hc hr hOk
          generalize R[k] = r at *
          obtain ⟨rA, rn, rc⟩ := r
          simp only at c0 h5
          go_wp2_with fail
          go_loopw [118] (fun i wr => ∃ j : Nat, j ≤ rn ∧ i = .int .i64 j ∧ K wr ∧ Hid (∀ r ∈ R, SpV IsI 2 wr lo hi r.A r.n) ∧ w9.grownBy wr none) (fun i _ => rn - (intOf i).toNat)
          case atStart => exact ⟨0, Nat.zero_le _, rfl, hK, hsp, hgr⟩
          case round =>
            clear hK hsp hgr c0
            obtain ⟨j, hj, rfl, hK, hsp, hgr⟩ := hrel
            by_cases hlj : j < rn
            · obtain ⟨g, o, v, e, hgl, hgh, ⟨x, rfl⟩, c0, f0⟩ := hsp.out _ hmR.out j hlj
              have e' : rA = some ⟨g, o, none⟩ := e
              subst e'
              have hsg := gr_set (World.grownBy.refl wr (some g)) (p := ⟨g, o + j * 2, none⟩) (.inl rfl) (.int .i64 777)
              have hsp2 : Hid (∀ r ∈ R, SpV IsI 2 (wr.setCell ⟨g, o + j * 2, none⟩ (.int .i64 777)) lo hi r.A r.n) := fun r hr => (hsp.out r hr).set g (o + j * 2) (.int .i64 777) ⟨777, rfl⟩ rfl
              have hK2 := hKs.out wr _ (some g) hK hsg (fun g' e => by injection e with e; omega)
              have hgr2 := gr_new hgr hsg (by have := hlo9.out; omega)
              clear hsp hK hgr hsg e
              go_wp2_with fail
              (go_roundw; (case rel => exact ⟨j + 1, by omega, by go_num, hK2, hsp2, hgr2⟩); (case measure => simp [intOf]; omega))
            · go_wp2_with fail
              (go_roundw; (case rel => exact ⟨k + 1, by omega, by go_num, hK, hsp, hgr⟩); (case measure => simp [intOf]; omega))
        · obtain ⟨-, hb16, hb18, hspU, hspV, hi18s⟩ := hKe.out wr hK
          obtain ⟨⟨a0, -⟩, ⟨a1, -⟩, ⟨a2, -⟩, ⟨a3, -⟩⟩ := box4_c hb16
          obtain ⟨⟨b0, -⟩, ⟨b1, -⟩, ⟨b2, -⟩, ⟨b3, -⟩⟩ := box4_c hb18
          clear hK hsp hKs hKe
          go_wp2_with fail
          clear a0 a1 a2 a3 b0 b1 b2 b3 hb16 hb18
          obtain ⟨w32, hw32⟩ : ∃ x, x = (wr).alloc (.cells [.int .i64 U.step, .int .i64 U.x, .int .i64 U.y, .slice CU nU ccU, .int .i64 V.step, .int .i64 V.x, .int .i64 V.y, .slice CV nV ccV].toArray 34) := ⟨_, rfl⟩
          have hg32 : (wr).grownBy w32 none := by rw [hw32]; exact gr_alloc (World.grownBy.refl _ _) _
          have hb32 : Box w32 (wr).heap.size 34 [.int .i64 U.step, .int .i64 U.x, .int .i64 U.y, .slice CU nU ccU, .int .i64 V.step, .int .i64 V.x, .int .i64 V.y, .slice CV nV ccV] := by rw [hw32]; exact Box.new _ _ _
          have hxs32 := hb32.lt
          rw [← hw32]
          clear hw32
          obtain ⟨x32, hx32⟩ : ∃ x, x = (wr).heap.size := ⟨_, rfl⟩
          rw [← hx32] at hb32 hxs32 ⊢
          have hxl32 : (wr).heap.size ≤ x32 := by omega
          clear hx32
          have hg932 := hgr.t hg32
          replace hspU := hspU.pure hg32
          replace hspV := hspV.pure hg32
          have hi32 : hi18 ≤ w32.heap.size := by omega
          have hx32 : hi18 ≤ x32 := by omega
          clear hgr hg32 hxs32 hxl32 hi18s
          unfold maxLen at hUm hVm
          obtain ⟨fs, fx, fy, fA, fn, fc, K2, hJ0, hJs, hJt, hJe⟩ : ∃ (fs fx fy : Nat → Int) (fA : Nat → Option Addr) (fn fc : Nat → Nat) (K2 : World → Prop), K2 w32 ∧ (∀ W W', K2 W → W.grownBy W' none → K2 W') ∧ (∀ W g i s, K2 W → g < hi18 → K2 (W.setCell ⟨g, i, none⟩ (.string s))) ∧
              (∀ W, K2 W → ∀ k, k < 2 → W.cell? ⟨x32, k * 4, none⟩ = some (.int .i64 (fs k)) ∧ W.cell? ⟨x32, k * 4 + 1, none⟩ = some (.int .i64 (fx k)) ∧ W.cell? ⟨x32, k * 4 + 2, none⟩ = some (.int .i64 (fy k)) ∧ W.cell? ⟨x32, k * 4 + 3, none⟩ = some (.slice (fA k) (fn k) (fc k)) ∧ SpV IsS 1 W hi hi18 (fA k) (fn k) ∧ fn k ≤ 9223372036854775807 ∧ hi18 ≤ W.heap.size) := by
            refine ⟨fun k => if k = 0 then U.step else V.step, fun k => if k = 0 then U.x else V.x, fun k => if k = 0 then U.y else V.y, fun k => if k = 0 then CU else CV, fun k => if k = 0 then nU else nV, fun k => if k = 0 then ccU else ccV,
              fun W => Box W x32 34 [.int .i64 U.step, .int .i64 U.x, .int .i64 U.y, .slice CU nU ccU, .int .i64 V.step, .int .i64 V.x, .int .i64 V.y, .slice CV nV ccV] ∧ SpV IsS 1 W hi hi18 CU nU ∧ SpV IsS 1 W hi hi18 CV nV ∧ hi18 ≤ W.heap.size,
              ⟨hb32, hspU, hspV, hi32⟩, fun W W' h hg => ⟨h.1.pure hg, h.2.1.pure hg, h.2.2.1.pure hg, Nat.le_trans h.2.2.2 hg.size⟩, fun W g i s h hg => ?_, fun W h k hk => ?_⟩
            · have hs := gr_set (World.grownBy.refl W (some g)) (p := ⟨g, i, none⟩) (.inl rfl) (.string s)
              exact ⟨h.1.gr hs (fun e => by injection e with e; omega), h.2.1.set g i _ ⟨s, rfl⟩ rfl, h.2.2.1.set g i _ ⟨s, rfl⟩ rfl, by simpa using h.2.2.2⟩
            · obtain ⟨hB, h1, h2, h3⟩ := h
              rcases (show k = 0 ∨ k = 1 by omega) with rfl | rfl
              · exact ⟨(hB.c 0 rfl).1, (hB.c 1 rfl).1, (hB.c 2 rfl).1, (hB.c 3 rfl).1, h1, hUm, h3⟩
              · exact ⟨(hB.c 4 rfl).1, (hB.c 5 rfl).1, (hB.c 6 rfl).1, (hB.c 7 rfl).1, h2, hVm, h3⟩
          replace hJs := hide hJs
          replace hJt := hide hJt
          replace hJe := hide hJe
          clear hb32 hspU hspV hi32 hx32 hUm hVm
          go_wp2_with fail
          go_loopw [131] (fun i wr => ∃ k : Nat, k ≤ 2 ∧ i = .int .i64 k ∧ K2 wr ∧ w9.grownBy wr none) (fun i _ => 2 - (intOf i).toNat)
          case atStart => exact ⟨0, by omega, rfl, hJ0, hg932⟩
          case round =>
            clear hJ0 hg932
            obtain ⟨k, hk2, rfl, hK, hgr⟩ := hrel
            by_cases hlt2 : k < 2
            · obtain ⟨c0, c1, c2, c3, -, hfn, hi18s⟩ := hJe.out wr hK k hlt2
              have hsv := hide fun W (h : K2 W) => (hJe.out W h k hlt2).2.2.2.2.1
              generalize fs k = Ks at *
              generalize fx k = Kx at *
              generalize fy k = Ky at *
              generalize fA k = KA at *
              generalize fn k = N at *
              generalize fc k = Kc at *
              go_upto_region 35 with fail
              obtain ⟨w27, hw27⟩ : ∃ x, x = (wr).alloc (.cells [.int .i64 Ks, .int .i64 Kx, .int .i64 Ky, .slice KA N Kc].toArray 34) := ⟨_, rfl⟩
              have hg27 : (wr).grownBy w27 none := by rw [hw27]; exact gr_alloc (World.grownBy.refl _ _) _
              have hb27 : Box w27 (wr).heap.size 34 [.int .i64 Ks, .int .i64 Kx, .int .i64 Ky, .slice KA N Kc] := by rw [hw27]; exact Box.new _ _ _
              have hxs27 := hb27.lt
              rw [← hw27]
              clear hw27
              obtain ⟨x27, hx27⟩ : ∃ x, x = (wr).heap.size := ⟨_, rfl⟩
              rw [← hx27] at hb27 hxs27 ⊢
              have hxl27 : (wr).heap.size ≤ x27 := by omega
              clear hx27
              have hK27 := hJs.out _ _ hK hg27
              have hgr27 := hgr.t hg27
              have hx27 : hi18 ≤ x27 := by omega
              clear hK hgr hg27 hxs27 hxl27 c0 c1 c2 c3 hi18s
              obtain ⟨-, -, -, d3, -⟩ := box4_c hb27
              go_wp2_with fail
              go_loopw [138] (fun i wr => ∃ j : Nat, j ≤ N ∧ i = .int .i64 j ∧ K2 wr ∧ Box wr x27 34 [.int .i64 Ks, .int .i64 Kx, .int .i64 Ky, .slice KA N Kc] ∧ w9.grownBy wr none) (fun i _ => N - (intOf i).toNat)
              case atStart => exact ⟨0, Nat.zero_le _, rfl, hK27, hb27, hgr27⟩
              case round =>
                clear hK27 hb27 hgr27 d3
                obtain ⟨j, hj, rfl, hK, hb27, hgr⟩ := hrel
                by_cases hlj : j < N
                · obtain ⟨g, o, v, rfl, hgl, hgh, ⟨s, rfl⟩, c0, f0⟩ := hsv.out wr hK j hlj
                  rw [Nat.mul_one] at c0 f0
                  have hsg := fun s => gr_set (World.grownBy.refl wr (some g)) (p := ⟨g, o + j, none⟩) (.inl rfl) (.string s)
                  have hK2 := fun s => hJt.out wr g (o + j) s hK hgh
                  have hb2 := fun s => hb27.gr (hsg s) (fun e => by injection e with e; omega)
                  have hgr2 := fun s => gr_new hgr (hsg s) (by have := hlo9.out; omega)
                  obtain ⟨-, -, -, d3, -⟩ := box4_c hb27
                  replace hK2 := hide hK2
                  replace hb2 := hide hb2
                  replace hgr2 := hide hgr2
                  clear hK hb27 hgr hsg
                  go_wp2_with fail
                  (go_roundw; (case rel => exact ⟨j + 1, by omega, by go_num, hK2.out _, hb2.out _, hgr2.out _⟩); (case measure => simp [intOf]; omega))
                · go_wp2_with fail
                  (go_roundw; (case rel => exact ⟨k + 1, by omega, by go_num, hK, hgr⟩); (case measure => simp [intOf]; omega))
            · have hSR := hide (sameRegion_same A1 c1 rs A7 c7 wr (hl1.pure hgr) (hl7.pure hgr))
              have hEP := hide fun W (h : w9.grownBy W none) => equalPt_any A2 c2 P A10 c10 P W (hl2.pure h) (hl10.pure h)
              have hES := hide fun W (h : w9.grownBy W none) => equalStrs_any A4 A11 cc4 c11 cl.rows cl.rows W (hl4.pure h) (hl11.pure h)
              rw [show eqB P P = true by simp [eqB]] at hEP
              rw [show eqT cl.rows cl.rows = true by simp [eqT], ← hn4.out] at hES
              have hck := hide fun wx (h : w9.grownBy wx none) => (box4_c (hb6.pure h)).2.2.2
              clear hK hJs hJt hJe
              go_wp2_with fail
              refine hSR.out.mono ?_
              rintro e w41 ⟨rfl, hg41⟩
              replace hgr := hgr.t hg41
              clear hSR hg41
              go_wp2_with fail
              refine (hEP.out w41 hgr).mono ?_
              rintro e w42 ⟨rfl, hg42⟩
              replace hgr := hgr.t hg42
              obtain ⟨d3, -⟩ := hck.out w42 hgr
              clear hEP hg42
              go_wp2_with fail
              refine (hES.out w42 hgr).mono ?_
              rintro e w43 ⟨rfl, hg43⟩
              replace hgr := hgr.t hg43
              clear hES hg43 d3
              go_wp2_with fail
              refine (ready_any w43).mono ?_
              rintro e w44 ⟨rfl, hg44⟩
              replace hgr := hgr.t hg44
              go_wp2_with fail
              go_ret
              exact ⟨rfl, hgw.t hgr⟩

end Go.Proofs.YtgcpegjggakemaaGreatDoor

/- Contracts of functions that this seat's laws reach, each: what one call returns and what it leaves in memory; no condition beyond each theorem's own hypotheses. -/
import Derived.Test.YtfeljlokmcoocaaGreatDoorZqReady
import Derived.Test.YtfeljlokmcoocaaGreatDoorZqRegSame
import Derived.Test.YtfeljlokmcoocaaGreatDoorZqFilD
import Derived.Test.YtfeljlokmcoocaaGreatDoorZqFillLaw
import Derived.Test.YtfeljlokmcoocaaGreatDoorZqHasA
set_option linter.unusedVariables false
set_option linter.unusedSimpArgs false
namespace Go.Bl
open Go

theorem fill_res {rf step : Int} {rs : List (List Pt)} {c : Cel} {er : Int} (h0 : rf = 0) (hs : stepB step = false) (hne : ∀ r ∈ rs, 0 < r.length) (hbd : ∀ r ∈ rs, ∀ p ∈ r, (-100000 ≤ p.x ∧ p.x ≤ 100000) ∧ -100000 ≤ p.y ∧ p.y ≤ 100000)
    (h : ResC (fillE rf rs step) step (fillS rs step) c er) : er = 12 ∨ (er = 0 ∧ CellsOk c ∧ c.step = step ∧ ∀ x y, onC c x y = fillS rs step x y) := by
  have hE : fillE rf rs step = 0 ∨ fillE rf rs step = 12 := by
    unfold fillE
    rw [if_neg (by simp [h0]), if_neg (by simp [hs])]
    split <;> simp
  have hp := step_pos hs
  rcases h with ⟨h1, rfl, rfl⟩ | ⟨h1, h⟩
  · rcases hE with h | h
    · exact absurd h h1
    · exact .inl h
  · rcases h.range hs (fun x y hxy => by have := fill_near hp hne hbd hxy; omega) with rfl | rfl
    · exact .inr ⟨rfl, h.back hs⟩
    · exact .inl rfl
/-- a cell's middle lies in the cell -/
theorem mid_div {step k : Int} (hs : 2 ≤ step) : (step * k + step / 2) / step = k := by
  rw [Int.mul_add_ediv_left _ _ (by omega)]
  have : step / 2 / step = 0 := Int.ediv_eq_zero_of_lt (by omega) (by omega)
  omega

theorem mid_cenI {step k : Int} : step * k + step / 2 = cenI step k := by unfold cenI; rw [Int.mul_comm]

end Go.Bl
namespace Go.Proofs.YtfeljlokmcoocaaGreatDoor
open Go Go.RowKit Go.Bl

set_option maxHeartbeats 8000000 in
set_option maxRecDepth 100000 in
theorem filledCells_law (A : Option Addr) (n c : Nat) (L : List Int) (w : World) (hL : Sl w 0 A L) (hn : L.length = n) :
    Calls Tryz.prog 4 #[.slice A n c] w fun e w' => e = .returned (.bool true) ∧ w.grownBy w' none := by
  have hs0 := strm_new (c := c) 25 hL hn
  have hg0 := gr_alloc (World.grownBy.refl w none) (.cells #[.slice A n c, .int .i64 0] 25)
  have hR := hide (rightRegion_any _ 0 _ hs0 (by omega))
  go_enter Tryz.func4, Tryz.ntmps4
  go_wp2_with fail
  refine hR.out.mono ?_
  rintro e w1 ⟨A1, c1, rs, rfl, hl1, hc1, hreg, ho1⟩
  replace hl1 := hl1.mono (show w.heap.size + 1 ≤ _ by simp)
  obtain ⟨b, hb⟩ : ∃ q, q = w.heap.size := ⟨_, rfl⟩
  rw [← hb] at hl1 ho1 ⊢
  replace hb : w.heap.size ≤ b := by omega
  have hgb : w.grownBy w1 none := gr_new hg0 ho1.1 (by omega)
  have hst1 := hide ho1.2
  have hbw1 : b < w1.heap.size := ho1.lt
  clear hR hs0 hL ho1 hg0
  have hok := hide (rok_of hreg)
  have hfl : (flatK rs rs.length).length ≤ 2000 := by
    unfold regF at hreg
    by_cases h : 100 < rs.length ∨ 2000 < (flatK rs rs.length).length
    · rw [if_pos h] at hreg; cases hreg
    · omega
  replace hreg := hide hreg
  go_wp2_with fail
  refine (pick_any b (0 + 700) _ _ _ [2, 4, 6] _ (hst1.out.pure (gr_alloc (World.grownBy.refl _ _) _)) (by omega) (sl_intsAt _ _ _ _ _ (by first | rfl | simp) (by omega) (by simp [maxLen])) rfl (by simp)).mono ?_
  rintro e w2 ⟨step, rfl, hstep, ho2⟩
  change SOut b _ (w1.alloc (.cells #[.int .i64 2, .int .i64 4, .int .i64 6] 3)) w2 at ho2
  have hgA : w1.grownBy (w1.alloc (.cells #[.int .i64 2, .int .i64 4, .int .i64 6] 3)) none := gr_alloc (World.grownBy.refl _ _) _
  generalize w1.alloc (.cells #[.int .i64 2, .int .i64 4, .int .i64 6] 3) = w1' at *
  have hl2 := (hl1.pure hgA).gr ho2.1 (fun q e => by injection e; omega)
  have hgw2 := gr_new (hgb.t hgA) ho2.1 (by omega)
  have hst2 := ho2.2
  have hb2 := ho2.lt
  have hsp : step = 2 ∨ step = 4 ∨ step = 6 := by simpa using hstep
  have hspb : 2 ≤ step ∧ step ≤ 6 := by omega
  have hsb : Hid (stepB step = false) := by rcases hsp with rfl | rfl | rfl <;> rfl
  clear hl1 hgA ho2 hgb hst1 hstep hsp hbw1
  have hFil := hide (filled_any A1 c1 rs step w2 (hl2.mono (Nat.zero_le _)) (by omega) (by omega))
  go_wp2_with fail
  refine hFil.out.mono ?_
  rintro e w3 ⟨c, er, C, cc, rfl, hRes, hO3, hg3⟩
  have hres := fill_res hreg.out hsb.out (fun r hr => by have := (hok.out.len r hr).1; omega) hok.out.bd hRes
  replace hl2 := hl2.pure hg3
  replace hst2 := hst2.pure hg3
  replace hgw2 := hgw2.t hg3
  have hO := hO3.sl
  obtain ⟨m, hm⟩ : ∃ q, q = c.rows.length := ⟨_, rfl⟩
  rw [← hm]
  replace hm := hide hm
  clear hFil hO3 hRes hg3
  go_upto_region 4 with fail
  obtain ⟨w6, hw6⟩ : ∃ x, x = (w3).alloc (.cells [.int .i64 (c).step, .int .i64 (c).x, .int .i64 (c).y, .slice C m cc].toArray 34) := ⟨_, rfl⟩
  have hg6 : (w3).grownBy w6 none := by rw [hw6]; exact gr_alloc (World.grownBy.refl _ _) _
  have hb6 : Box w6 (w3).heap.size 34 [.int .i64 (c).step, .int .i64 (c).x, .int .i64 (c).y, .slice C m cc] := by rw [hw6]; exact Box.new _ _ _
  have hxs6 := hb6.lt
  rw [← hw6]
  clear hw6
  obtain ⟨x6, hx6⟩ : ∃ x, x = (w3).heap.size := ⟨_, rfl⟩
  rw [← hx6] at hb6 hxs6 ⊢
  have hxl6 : (w3).heap.size ≤ x6 := by omega
  clear hx6
  have hx6 : b ≠ x6 := by have := hst2.lt; omega
  replace hl2 := hl2.pure hg6
  replace hst2 := hst2.pure hg6
  replace hgw2 := hgw2.t hg6
  replace hO := hO.pure hg6
  clear hg6 hxs6 hxl6
  rcases hres with rfl | ⟨rfl, hcok, hcst, hon⟩
  · clear hb6 hO hl2 hst2
    go_wp2_with fail
    refine (ready_any _).mono ?_
    rintro e w7 ⟨rfl, hg7⟩
    go_wp2_with fail
    go_ret
    exact ⟨rfl, hgw2.t hg7⟩
  have hbig : ∀ s ∈ c.rows, s.size ≤ 4611686018427387904 := fun s hs => by
    obtain ⟨j, hj, rfl⟩ := List.mem_iff_getElem.1 hs
    have h1 := (hcok.row j hj).1
    have h2 := hcok.wide
    rw [getD_of hj] at h1
    omega
  have hCA := hide (fun W (h : Sl W 0 C c.rows) => CArg.mk (w := W) h hm.out.symm hbig)
  replace hcok := hide hcok
  replace hcst := hide hcst
  replace hon := hide hon
  clear hbig
  have hself := World.grownBy.refl w6 (some b)
  go_wp2_with fail
  go_loopw [34] (fun i wr => ∃ k : Nat, k ≤ 4 ∧ i = .int .i64 k ∧ Strm wr b (800 + 2 * k) ∧ w6.grownBy wr (some b)) (fun i _ => 4 - (intOf i).toNat)
  case atStart => exact ⟨0, by omega, rfl, hst2.mono (by omega), hself⟩
  case round =>
    clear hst2 hself
    obtain ⟨k, hk, rfl, hst, hgr⟩ := hrel
    have hbr := hb6.gr hgr (by intro e; injection e with e; exact hx6 e)
    have hOr := hO.gr hgr (fun q e => by injection e; omega)
    by_cases hlt : k < 4
    · have hlr := hl2.gr hgr (fun q e => by injection e; omega)
      have hbw6 := hst.lt
      clear hb6 hO hl2
      obtain ⟨hs, hhs⟩ : ∃ h, h = step.tdiv 2 := ⟨_, rfl⟩
      have hhs' : hs = step / 2 := by rw [hhs]; exact Int.tdiv_eq_ediv_of_nonneg (by omega)
      have hhsb : 1 ≤ hs ∧ hs ≤ 3 := by omega
      replace hhs : step.tdiv 2 = hs := hhs.symm
      replace hhs' := hide hhs'
      go_wp2_with fail
      refine (range_any b (800 + 2 * k) (-6) 8 wr hst (by omega) (by omega) (by omega) (by omega)).mono ?_
      rintro e u7 ⟨r1, rfl, hr1, ho7⟩
      have hm1 := mulm_bd (a := step) (b := r1) (m := 6) (n := 8) (by omega) (by omega) (by omega)
      obtain ⟨m1, hm1e⟩ : ∃ m, m = step * r1 := ⟨_, rfl⟩
      rw [← hm1e] at hm1
      replace hm1e : step * r1 = m1 := hm1e.symm
      have hst7 := ho7.2
      have hg7 := ho7.1
      clear hst ho7
      go_wp2_with fail
      refine (range_any b (800 + 2 * k + 1) (-6) 8 u7 hst7 (by omega) (by omega) (by omega) (by omega)).mono ?_
      rintro e u8 ⟨r2, rfl, hr2, ho8⟩
      have hm2 := mulm_bd (a := step) (b := r2) (m := 6) (n := 8) (by omega) (by omega) (by omega)
      obtain ⟨m2, hm2e⟩ : ∃ m, m = step * r2 := ⟨_, rfl⟩
      rw [← hm2e] at hm2
      replace hm2e : step * r2 = m2 := hm2e.symm
      have hst8 := ho8.2.mono (show 800 + 2 * (k : Int) + 1 + 1 ≤ 800 + 2 * ((k + 1 : Nat) : Int) by omega)
      have hgr8 := gr_trans hg7 ho8.1
      have hbr8 := hbr.gr hgr8 (by intro e; injection e with e; exact hx6 e)
      have hOr8 := hOr.gr hgr8 (fun q e => by injection e; omega)
      have hlr8 := hlr.gr hgr8 (fun q e => by injection e; omega)
      replace hgr := gr_trans hgr hgr8
      clear hst7 hg7 ho8 hgr8 hbr hOr hlr
      go_upto_region 9 with fail
      obtain ⟨w8, hw8⟩ : ∃ x, x = (u8).alloc (.cells [.int .i64 (m1 + hs), .int .i64 (m2 + hs)].toArray 30) := ⟨_, rfl⟩
      have hg8 : (u8).grownBy w8 none := by rw [hw8]; exact gr_alloc (World.grownBy.refl _ _) _
      have hb8 : Box w8 (u8).heap.size 30 [.int .i64 (m1 + hs), .int .i64 (m2 + hs)] := by rw [hw8]; exact Box.new _ _ _
      have hxs8 := hb8.lt
      rw [← hw8]
      clear hw8
      obtain ⟨x8, hx8⟩ : ∃ x, x = (u8).heap.size := ⟨_, rfl⟩
      rw [← hx8] at hb8 hxs8 ⊢
      have hxl8 : (u8).heap.size ≤ x8 := by omega
      clear hx8
      replace hbr8 := hbr8.pure hg8
      replace hOr8 := hOr8.pure hg8
      replace hlr8 := hlr8.pure hg8
      replace hst8 := hst8.pure hg8
      replace hgr := gr_trans hgr (gr_any hg8)
      have hPx : (m1 + hs) / step = r1 ∧ cenI step r1 = m1 + hs := by
        rw [← hm1e, hhs'.out]; exact ⟨mid_div (by omega), mid_cenI.symm⟩
      have hPy : (m2 + hs) / step = r2 ∧ cenI step r2 = m2 + hs := by
        rw [← hm2e, hhs'.out]; exact ⟨mid_div (by omega), mid_cenI.symm⟩
      have hfar : farP ⟨m1 + hs, m2 + hs⟩ = false := by
        simp only [farP, outB, Bool.or_eq_false_iff, decide_eq_false_iff_not]; omega
      have hHE : hasE c ⟨m1 + hs, m2 + hs⟩ = 0 := by
        unfold hasE
        rw [if_neg (by simp [cells_ok.2 hcok.out]), hfar]; rfl
      have hIE : insE rs ⟨m1 + hs, m2 + hs⟩ = 0 := by
        unfold insE
        rw [if_neg (by simp [hreg.out]), hfar]; rfl
      have hIV : insV rs ⟨m1 + hs, m2 + hs⟩ = insF rs ⟨m1 + hs, m2 + hs⟩ := by unfold insV; rw [if_neg (by simp [hIE])]
      have hHV : hasV c ⟨m1 + hs, m2 + hs⟩ = decide (0 ≤ insF rs ⟨m1 + hs, m2 + hs⟩) := by
        unfold hasV
        rw [hHE, hcst.out, hPx.1, hPy.1, hon.out, fillS, hPx.2, hPy.2, cov_ins]; rfl
      have hHas := hide (has_any c C m cc ⟨m1 + hs, m2 + hs⟩ w8 (hCA.out w8 (hOr8.mono (Nat.zero_le _))))
      have hIns := hide (fun W (h : w8.grownBy W none) => inside_any A1 c1 rs ⟨m1 + hs, m2 + hs⟩ W ((hlr8.pure h).mono (Nat.zero_le _)) (by omega))
      rw [hHE, hHV] at hHas
      rw [hIE, hIV] at hIns
      generalize insF rs ⟨m1 + hs, m2 + hs⟩ = iv at *
      clear hPx hPy hfar hHE hIE hIV hHV hm1 hm1e hm2 hm2e hhs
      obtain ⟨⟨a0, -⟩, ⟨a1, -⟩, ⟨a2, -⟩, ⟨a3, -⟩⟩ := box4_c hbr8
      obtain ⟨p0, -⟩ := hb8.c 0 rfl
      obtain ⟨p1, -⟩ := hb8.c 1 rfl
      go_wp2_with fail
      refine hHas.out.mono ?_
      rintro e w10 ⟨rfl, hg10⟩
      clear a0 a1 a2 a3 p0 p1 hHas
      obtain ⟨p0, -⟩ := (hb8.pure hg10).c 0 rfl
      obtain ⟨p1, -⟩ := (hb8.pure hg10).c 1 rfl
      go_wp2_with fail
      refine (hIns.out w10 hg10).mono ?_
      rintro e w11 ⟨rfl, hg11⟩
      have hgz := hg10.t hg11
      have hfs := hide (hst8.pure hgz)
      have hfg := hide (gr_trans hgr (gr_any hgz))
      clear p0 p1 hIns hst8 hgr hbr8 hOr8 hlr8 hb8 hg10 hg11 hgz
      rcases hd : decide (0 ≤ iv) with _ | _
      all_goals
        go_wp2_with fail
        (go_roundw; (case rel => exact ⟨k + 1, by omega, by go_num, hfs.out, hfg.out⟩); (case measure => simp [intOf]; omega))
    · obtain rfl : k = 4 := by omega
      have hCk := hide (checkArg_any c C m cc wr (hCA.out wr (hOr.mono (Nat.zero_le _))))
      rw [cells_ok.2 hcok.out] at hCk
      have hgz := hide (gr_new hgw2 hgr (by omega))
      obtain ⟨⟨a0, -⟩, ⟨a1, -⟩, ⟨a2, -⟩, ⟨a3, -⟩⟩ := box4_c hbr
      clear hgr hst hOr hbr hb6 hO hl2
      go_wp2_with fail
      refine hCk.out.mono ?_
      rintro e w12 ⟨rfl, hg12⟩
      clear a0 a1 a2 a3 hCk
      go_wp2_with fail
      refine (ready_any _).mono ?_
      rintro e w13 ⟨rfl, hg13⟩
      go_wp2_with fail
      go_ret
      exact ⟨rfl, (hgz.out.t hg12).t hg13⟩

end Go.Proofs.YtfeljlokmcoocaaGreatDoor

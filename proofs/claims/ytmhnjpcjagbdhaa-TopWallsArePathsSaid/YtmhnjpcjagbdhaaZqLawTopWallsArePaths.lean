/- Contracts of functions that this seat's laws reach, each: what one call returns and what it leaves in memory; no condition beyond each theorem's own hypotheses. -/
import Derived.Test.YtmhnjpcjagbdhaaZqTopA
import Derived.Test.YtmhnjpcjagbdhaaZqRegSame
set_option linter.unusedVariables false
set_option linter.unusedSimpArgs false
namespace Go.Proofs.Ytmhnjpcjagbdhaa
open Go Go.RowKit Go.Bl

set_option maxHeartbeats 1000000 in
set_option maxRecDepth 100000 in
theorem topWallsArePaths_law (A : Option Addr) (n c : Nat) (L : List Int) (w : World) (hL : Sl w 0 A L) (hn : L.length = n) :
    Calls Try.prog 3 #[.slice A n c] w fun e w' => e = .returned (.bool true) ∧ w.grownBy w' none := by
  have hs0 := strm_new (c := c) 25 hL hn
  have hg0 := gr_alloc (World.grownBy.refl w none) (.cells #[.slice A n c, .int .i64 0] 25)
  have hR := rightRegion_any _ 0 _ hs0 (by omega)
  go_enter Try.func3, Try.ntmps3
  go_wp2_with fail
  refine hR.mono ?_
  rintro e w1 ⟨A1, c1, rs, rfl, hl0, -, hrF, ho1⟩
  have hgw : w.grownBy w1 none := gr_new hg0 ho1.1 (Nat.le_refl _)
  have hl1 := hl0.mono (Nat.zero_le _)
  clear hl0 ho1 hs0 hg0 hL hR
  have hk := rok2_of hrF
  have hk2 := simp_rok2 hk
  have hmF := of_rok2 hk2
  have hfl : (flatK rs rs.length).length ≤ 1000000 := by have := hk.flat; omega
  have hfl2 : (flatK (simpS rs) (simpS rs).length).length ≤ 1000000 := by have := hk2.flat; omega
  have hml := simpS_len rs
  have hfew := hk.few
  have hn1 : ∀ r ∈ rs, 0 < r.length := fun r hr => by have := (ringF_ok (hk.ring r hr)).1; omega
  have hn2 : ∀ r ∈ simpS rs, 0 < r.length := fun r hr => by have := (ringF_ok (hk2.ring r hr)).1; omega
  have hcor : Hid (∀ k (h : k < (simpS rs).length), ∀ p ∈ (simpS rs)[k], meetsE rs p p = 0 ∧ 1 ≤ meetsN rs p p ∧ meetsE (simpS rs) p p = 0 ∧ meetsN (simpS rs) p p = 2) := fun k h p hp => by
    have hkr : k < rs.length := by omega
    have e : (simpS rs)[k] = simpR (rs.getD k []) := by
      rw [← simpS_getD, List.getD_eq_getElem?_getD, List.getElem?_eq_getElem h, Option.getD_some]
    rw [e] at hp
    obtain ⟨h1, h2, h3⟩ := met_corner hk hkr hp
    have e1 : meetsE rs p p = 0 := by unfold meetsE; rw [if_neg (by rw [hrF]; simp), h3]; rfl
    have e2 : meetsE (simpS rs) p p = 0 := by unfold meetsE; rw [if_neg (by rw [hmF]; simp), h3]; rfl
    refine ⟨e1, ?_, e2, ?_⟩
    · unfold meetsN; rw [if_pos e1]; exact h2
    · unfold meetsN; rw [if_pos e2]; exact h1
  have z1 := pathsR_zero hk
  have z2 := pathsR_zero hk2
  have hlg := long_same hk
  have f1 : longF (pathsR rs) = longs (pathsR rs) := if_pos z1
  have f2 : longF (pathsR (simpS rs)) = longs (pathsR rs) := by rw [← hlg]; exact if_pos z2
  have g1 : longS (pathsR rs) = (longs (pathsR rs)).sum := if_pos z1
  have g2 : longS (pathsR (simpS rs)) = (longs (pathsR rs)).sum := by rw [← hlg]; exact if_pos z2
  have hS1 := hide (simplified_any A1 c1 rs w1 hl1 hrF hfl)
  have hC1 := hide fun wx (hx : w1.grownBy wx none) => pathsCl_any A1 c1 rs wx (hl1.pure hx) hn1 hfew
  have hC2 := hide fun (B : Option Addr) (d : Nat) wx (hx : Sl wx 0 B (simpS rs)) => pathsCl_any B d (simpS rs) wx hx hn2 (by omega)
  have hL1 : Hid (∀ (B : Option Addr) (d : Nat) wx (hx : Sl wx 0 B (pathsR rs)), _) := fun (B : Option Addr) (d : Nat) wx (hx : Sl wx 0 B (pathsR rs)) => long_any B d (pathsR rs) wx hx
  have hL2 : Hid (∀ (B : Option Addr) (d : Nat) wx (hx : Sl wx 0 B (pathsR (simpS rs))), _) := fun (B : Option Addr) (d : Nat) wx (hx : Sl wx 0 B (pathsR (simpS rs))) => long_any B d (pathsR (simpS rs)) wx hx
  have hM1 := hide fun p wx (hx : w1.grownBy wx none) => meets_any A1 c1 rs p p wx (hl1.pure hx) hfl
  have hM2 := hide fun (B : Option Addr) (d : Nat) p wx (hx : Sl wx 0 B (simpS rs)) => meets_any B d (simpS rs) p p wx hx hfl2
  rw [z1, f1, g1] at hL1
  rw [z2, f2, g2] at hL2
  generalize pathsR rs = P1 at *
  generalize pathsR (simpS rs) = P2 at *
  generalize simpS rs = M at *
  generalize (longs P1).sum = LS at *
  generalize longs P1 = LL at *
  replace hml := hide hml
  clear z1 z2 hlg f1 f2 g1 g2 hk hk2 hmF hrF hfl hfl2 hn1 hn2
  go_wp2_with fail
  refine hS1.out.mono ?_
  rintro e w2 ⟨A2, c2, rfl, hN2, hg2⟩
  have hMs := hN2.sl.mono (Nat.zero_le _)
  clear hN2 hS1
  go_wp2_with fail
  refine (hC1.out _ hg2).mono ?_
  rintro e w3 ⟨A3, c3, rfl, hP3, hg3⟩
  clear hC1
  go_wp2_with fail
  refine (hL1.out A3 c3 _ hP3).mono ?_
  rintro e w4 ⟨A4, c4, rfl, hO4, hg4⟩
  clear hL1
  have hq4 := hO4.sl.mono (Nat.zero_le _)
  have hg24 := hg3.t hg4
  go_wp2_with fail
  refine (hC2.out A2 c2 _ (hMs.pure hg24)).mono ?_
  rintro e w5 ⟨A5, c5, rfl, hP5, hg5⟩
  clear hC2
  go_wp2_with fail
  refine (hL2.out A5 c5 _ hP5).mono ?_
  rintro e w6 ⟨A6, c6, rfl, hO6, hg6⟩
  clear hL2
  have hg46 := hg5.t hg6
  have hE := equalInts_any A4 A6 c4 c6 LL LL w6 (hq4.pure hg46) (hO6.sl.mono (Nat.zero_le _))
  rw [eqB_refl] at hE
  have hbl : (LS != LS) = false := by simp
  clear hO4 hO6 hq4 hP3 hP5
  go_wp2_with fail
  refine hE.mono ?_
  rintro e w7 ⟨rfl, hg7⟩
  clear hE
  have hg27 := hg24.t (hg46.t hg7)
  have hM7 := hMs.pure hg27
  have hg17 := hg2.t hg27
  clear hMs hg3 hg4 hg5 hg6 hg7 hg24 hg46 hg27 hg2
  have hM100 : M.length ≤ 100 := by have := hml.out; omega
  go_wp2_with fail
  go_loopw [68] (fun i wr => ∃ k : Nat, k ≤ M.length ∧ i = .int .i64 k ∧ w7.grownBy wr none) (fun i _ => M.length - (intOf i).toNat)
  case atStart => exact ⟨0, Nat.zero_le _, rfl, World.grownBy.refl _ _⟩
  case round =>
    obtain ⟨k, hk, rfl, hg⟩ := hrel
    by_cases hlt : k < M.length
    · obtain ⟨gm, om, Bk, dk, rfl, hb1, c0, -, hsl⟩ := sl_inner' hM7 hlt
      replace c0 := hg.k c0
      have hss := hide (hcor.out k hlt)
      generalize M[k] = r at *
      have hsr := hsl.pure hg
      have hmr := hsr.1
      unfold maxLen at hmr
      obtain ⟨wa, rfl⟩ : ∃ x, x = wr := ⟨wr, rfl⟩
      clear hsl
      go_wp2_with fail
      go_loopw [74] (fun i wr => ∃ j : Nat, j ≤ r.length ∧ i = .int .i64 j ∧ wa.grownBy wr none) (fun i _ => r.length - (intOf i).toNat)
      case atStart => exact ⟨0, Nat.zero_le _, rfl, World.grownBy.refl _ _⟩
      case round =>
        obtain ⟨j, hj, rfl, hgx⟩ := hrel
        by_cases hlj : j < r.length
        · obtain ⟨g, o, cx, rfl, hb0, hb1, rfl, hc⟩ := (hsr.pure hgx).at_ (by decide) hlj
          have c0 : wr.cell? ⟨g, o + j * 2, none⟩ = some (.int .i64 r[j].x) := hc 0 _ rfl
          have c1 : wr.cell? ⟨g, o + j * 2 + 1, none⟩ = some (.int .i64 r[j].y) := hc 1 _ rfl
          clear hc
          obtain ⟨e1, e2, e3, e4⟩ := hss.out _ (List.getElem_mem hlj)
          have hx := hg.t hgx
          have hA1 := fun wx (hx : w1.grownBy wx none) => hM1.out r[j] wx hx
          have hA2 := fun wx (hx : Sl wx 0 (some ⟨gm, om, none⟩) M) => hM2.out (some ⟨gm, om, none⟩) c2 r[j] wx hx
          rw [e1] at hA1
          rw [e3, e4] at hA2
          generalize meetsN rs r[j] r[j] = N1 at *
          clear e1 e3 e4
          replace hA1 := hide hA1
          replace hA2 := hide hA2
          generalize r[j] = p at *
          have hN1 : decide (N1 < 1) = false := by rw [decide_eq_false_iff_not]; omega
          clear e2
          go_upto_region 17 with fail
          obtain ⟨w16, hw16⟩ : ∃ x, x = (wr).alloc (.cells [.int .i64 p.x, .int .i64 p.y].toArray 41) := ⟨_, rfl⟩
          have hg16 : (wr).grownBy w16 none := by rw [hw16]; exact gr_alloc (World.grownBy.refl _ _) _
          have hb16 : Box w16 (wr).heap.size 41 [.int .i64 p.x, .int .i64 p.y] := by rw [hw16]; exact Box.new _ _ _
          have hxs16 := hb16.lt
          rw [← hw16]
          clear hw16
          obtain ⟨x16, hx16⟩ : ∃ x, x = (wr).heap.size := ⟨_, rfl⟩
          rw [← hx16] at hb16 hxs16 ⊢
          have hxl16 : (wr).heap.size ≤ x16 := by omega
          clear hx16
          obtain ⟨b0, _⟩ := hb16.c 0 rfl
          obtain ⟨b1, _⟩ := hb16.c 1 rfl
          replace hgx := hgx.t hg16
          have hx16 := hg.t hgx
          go_wp2_with fail
          refine (hA1.out _ (hg17.t hx16)).mono ?_
          rintro e w17 ⟨rfl, h17⟩
          obtain ⟨b0, _⟩ := (hb16.pure h17).c 0 rfl
          obtain ⟨b1, _⟩ := (hb16.pure h17).c 1 rfl
          go_wp2_with fail
          refine (hA2.out _ (hM7.pure (hx16.t h17))).mono ?_
          rintro e w18 ⟨rfl, h18⟩
          go_wp2_with fail
          go_roundw
          case rel => exact ⟨j + 1, by omega, by go_num, hgx.t (h17.t h18)⟩
          case measure => simp [intOf]; omega
        · obtain rfl : j = r.length := by omega
          go_wp2_with fail
          (go_roundw; (case rel => exact ⟨k + 1, by omega, by go_num, hg.t hgx⟩); (case measure => simp [intOf]; omega))
    · go_wp2_with fail
      refine (h06facts_any _).mono ?_
      rintro e w14 ⟨rfl, hg14⟩
      go_wp2_with fail
      go_ret
      exact ⟨rfl, hgw.t (hg17.t (hg.t hg14))⟩

end Go.Proofs.Ytmhnjpcjagbdhaa

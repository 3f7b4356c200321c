/- Contracts of functions that this seat's laws reach, each: what one call returns and what it leaves in memory; no condition beyond each theorem's own hypotheses. -/
import Derived.Test.YtgcfaamgilbjdaaGreatDoorZqMapOrd
import Derived.Test.YtgcfaamgilbjdaaGreatDoorZqNearB
import Derived.Test.YtgcfaamgilbjdaaGreatDoorZqIdxP
import Derived.Test.YtgcfaamgilbjdaaGreatDoorZqOrdBit
import Derived.Test.YtgcfaamgilbjdaaGreatDoorZqTree
set_option linter.unusedVariables false
set_option linter.unusedSimpArgs false
namespace Go.Bl
open Go

structure MapA where
  g : Nat

instance : Enc MapA where
  sz := 1
  rep := fun _ _ p cs => cs = [.map (some p.g)]
  len := by rintro w lo x cs rfl; rfl
  one := by rintro w lo x cs rfl u hu; simp at hu; subst hu; rfl
  keep := fun h _ => h
  mono := fun h _ => h

instance : Flat MapA := ⟨fun h => h, by decide⟩

def nxI : Option (Nat × Int) → Int
  | none => -1
  | some b => b.1

def nxV : Option (Nat × Int) → Int
  | none => 0
  | some b => b.2

end Go.Bl
namespace Go.Proofs.YtgcfaamgilbjdaaGreatDoor
open Go Go.RowKit Go.Bl Go.Maps Go.WideShapes

/-- the tables: how far it is from the end of each choice through the paths of a set -/
def LeftT (w : World) (lo n : Nat) (ms : List MapA) (T : Nat → Int → Option Int) : Prop := ∀ k (h : k < ms.length), lo ≤ ms[k].g ∧ MapOf intO w ms[k].g n (T k)

theorem LeftT.pure {w w' : World} {lo n : Nat} {ms : List MapA} {T : Nat → Int → Option Int} (h : LeftT w lo n ms T) (hg : w.grownBy w' none) : LeftT w' lo n ms T := fun k hk => ⟨(h k hk).1, (h k hk).2.kept hg (by simp)⟩

theorem LeftT.other {w w' : World} {lo n : Nat} {ms : List MapA} {T : Nat → Int → Option Int} {r : Option Nat} (h : LeftT w lo n ms T) (hg : w.grownBy w' r) (hne : ∀ m ∈ ms, r ≠ some m.g) : LeftT w' lo n ms T := fun k hk => ⟨(h k hk).1, (h k hk).2.kept hg (hne _ (List.getElem_mem hk))⟩

theorem LeftT.mono {w : World} {lo n n' : Nat} {ms : List MapA} {T : Nat → Int → Option Int} (h : LeftT w lo n ms T) (hn : n ≤ n') : LeftT w lo n' ms T := fun k hk => ⟨(h k hk).1, (h k hk).2.mono hn⟩
/-- one table is written -/
theorem LeftT.store {w : World} {lo n : Nat} {ms : List MapA} {T : Nat → Int → Option Int} (h : LeftT w lo n ms T) (hnd : (ms.map MapA.g).Nodup) {q : Nat} (hq : q < ms.length) (hn : n < maxLen) {x y : Int} (hx : okIo x) (hy : okIo y) :
    ∃ w', (Instr.mapUpdate 55 (.map (some ms[q].g)) (.int .i64 x) (.int .i64 y)).run Tryz.prog w = .ok () w' ∧ LeftT w' lo (n + 1) ms (fun k => if k = q then (fun z => if z = x then some y else T q z) else T k) ∧ w.grownBy w' (some ms[q].g) := by
  obtain ⟨w', h1, h2, h3⟩ := (h q hq).2.store Tryz.underlying55 hn (x := x) hx (y := y) hy
  refine ⟨w', h1, fun k hk => ⟨(h k hk).1, ?_⟩, h3⟩
  by_cases e : k = q
  · subst e
    simp only [if_true]
    exact h2
  · simp only [if_neg e]
    refine ((h k hk).2.kept h3 fun e2 => ?_).mono (by omega)
    have h4 := Option.some.inj e2
    have hp := List.pairwise_iff_getElem.1 hnd
    rcases Nat.lt_or_gt_of_ne e with hlt | hlt
    · exact hp k q (by simpa using hk) (by simpa using hq) hlt (by simpa using h4.symm)
    · exact hp q k (by simpa using hq) (by simpa using hk) hlt (by simpa using h4)

set_option maxHeartbeats 4000000 in
set_option maxRecDepth 100000 in
theorem fnext_any (fp : Nat) (A B : Option Addr) (ca cb lo N : Nat) (l : List PathV) (ms : List MapA) (T : Nat → Int → Option Int) (at_ : Pt) (S : Nat) (lf : Nat → Int) (w : World)
    (hB : Box w fp 53 [.slice A (allC l).length ca, .slice B ms.length cb]) (hA : Sl w 0 A (allC l)) (hM : Sl w 0 B ms) (hL : LeftT w lo N ms T) (hml : ms.length = (allC l).length)
    (hlf : ∀ k, k < (allC l).length → S.testBit (pthN (chA l k)) = true → (T k ((clr S (pthN (chA l k)) : Nat) : Int)).getD 0 = lf k ∧ 0 ≤ lf k ∧ lf k ≤ 10000000)
    (hst : near at_) (hS : S < 64) (hn : l.length ≤ 6) (hp : pathsF l = 0) :
    Calls Tryz.prog 19 #[.pointer (some ⟨fp, 0, none⟩), .agg #[.int .i64 at_.x, .int .i64 at_.y], .int .i64 S] w fun e w' => e = .returned (.tuple #[.int .i64 (nxI (nxtS l lf at_ S)), .int .i64 (nxV (nxtS l lf at_ S))]) ∧ w.grownBy w' none := by
  have hal := hA.1
  unfold maxLen at hal
  replace hlf := hide hlf
  replace hml := hide hml
  replace hp := hide hp
  go_enter Tryz.func19, Tryz.ntmps19
  go_upto_region 2 with fail
  obtain ⟨w4, hw4⟩ : ∃ x, x = (w).alloc (.cells [.int .i64 at_.x, .int .i64 at_.y].toArray 28) := ⟨_, rfl⟩
  have hg4 : (w).grownBy w4 none := by rw [hw4]; exact gr_alloc (World.grownBy.refl _ _) _
  have hb4 : Box w4 (w).heap.size 28 [.int .i64 at_.x, .int .i64 at_.y] := by rw [hw4]; exact Box.new _ _ _
  have hxs4 := hb4.lt
  rw [← hw4]
  clear hw4
  obtain ⟨x4, hx4⟩ : ∃ x, x = (w).heap.size := ⟨_, rfl⟩
  rw [← hx4] at hb4 hxs4 ⊢
  have hxl4 : (w).heap.size ≤ x4 := by omega
  clear hx4
  replace hB := hB.pure hg4
  obtain ⟨f0, -⟩ := hB.c 0 rfl
  go_wp2_with fail
  go_loopw [6, 7, 16] (fun b v i wr => ∃ (q : Nat) (ac : Option (Nat × Int)), q ≤ (allC l).length ∧ i = .int .i64 q ∧ Hid (ac = fmin (byS l lf at_ S) q) ∧ b = .int .i64 (nxI ac) ∧ v = .int .i64 (nxV ac) ∧ Box wr x4 28 [.int .i64 at_.x, .int .i64 at_.y] ∧ w4.grownBy wr none) (fun _ _ i _ => (allC l).length - (intOf i).toNat)
  case atStart => exact ⟨0, none, Nat.zero_le _, rfl, rfl, rfl, rfl, hb4, World.grownBy.refl _ _⟩
  case round =>
    clear hb4 f0
    obtain ⟨q, ac, hq, rfl, hac, rfl, rfl, hb, hg⟩ := hrel
    by_cases hlt : q < (allC l).length
    · obtain ⟨i, v, hil, hv, hc1, hc2⟩ := chA_mem hlt
      have hlq := hlf.out q hlt
      have hstep : Hid (byS l lf at_ S q = if S.testBit i then some (distP at_ (chA l q).a + lf q) else none) := by rw [Hid]; unfold byS; rw [hc2]
      rw [hc2] at hlq
      have hvp := chV_path hv
      have hcv : (chA l q).v = v := by rw [hc1]; rfl
      have hna : near (chA l q).a := by
        rw [hc1]
        rw [getD_path hil] at hv
        exact (chV_ok hp.out hil v hv).2.1.nA
      have hcq : (allC l)[q] = chA l q := by unfold chA; rw [List.getD_eq_getElem?_getD, List.getElem?_eq_getElem hlt, Option.getD_some]
      obtain ⟨ga, oa, cx, rfl, -, hb2, rfl, hcx⟩ := (hA.pure (hg4.t hg)).at_ (by decide) hlt
      rw [hcq] at hcx
      have c0 : wr.cell? ⟨ga, oa + q * 7, none⟩ = some (.int .i64 (chA l q).v.path) := hcx 0 _ rfl
      have c1 : wr.cell? ⟨ga, oa + q * 7 + 1, none⟩ = some (.int .i64 (chA l q).v.start) := hcx 1 _ rfl
      have c2 : wr.cell? ⟨ga, oa + q * 7 + 2, none⟩ = some (.bool (chA l q).v.back) := hcx 2 _ rfl
      have c3 : wr.cell? ⟨ga, oa + q * 7 + 3, none⟩ = some (.int .i64 (chA l q).a.x) := hcx 3 _ rfl
      have c4 : wr.cell? ⟨ga, oa + q * 7 + 4, none⟩ = some (.int .i64 (chA l q).a.y) := hcx 4 _ rfl
      have c5 : wr.cell? ⟨ga, oa + q * 7 + 5, none⟩ = some (.int .i64 (chA l q).b.x) := hcx 5 _ rfl
      have c6 : wr.cell? ⟨ga, oa + q * 7 + 6, none⟩ = some (.int .i64 (chA l q).b.y) := hcx 6 _ rfl
      rw [hcv, hvp] at c0
      rw [hcv] at c1 c2
      clear hcx hcq hc1 hc2 hcv hvp hv
      have hi6 : i < 6 := by omega
      have hbt := bits_and1S (i := i) hS
      generalize chA l q = cc at *
      cases hbit : S.testBit i with
      | false =>
        have hst2 : Hid (fmin (byS l lf at_ S) (q + 1) = ac) := by rw [Hid, hac.out]; exact fmin_skip (by rw [hstep.out, hbit]; rfl)
        rw [hbit, if_neg (by simp)] at hbt
        clear hlq hstep hac hbit
        go_wp2_with fail
        (go_roundw; (case rel => exact ⟨q + 1, ac, by omega, by go_num, hst2.out.symm, rfl, rfl, hb.pure (by repeat (first | exact World.grownBy.refl _ _ | assumption | refine gr_alloc ?_ _ | (apply gr_tail; assumption) | refine gr_drewN ?_ _ | refine gr_drew ?_)), by repeat (first | exact hg | refine gr_alloc ?_ _)⟩); (case measure => simp [intOf]; omega))
      | true =>
        obtain ⟨hq1, hq2, hq3⟩ := hlq hbit
        have hstep2 : Hid (byS l lf at_ S q = some (distP at_ cc.a + lf q)) := by rw [Hid, hstep.out, hbit]; rfl
        have hcl := bits_andNotS hS hi6
        rw [hbit, if_pos rfl] at hbt
        obtain ⟨P2, hP2⟩ : ∃ P2 : Int, P2 = ((2 ^ i : Nat) : Int) := ⟨_, rfl⟩
        obtain ⟨C2, hC2⟩ : ∃ C2 : Int, C2 = ((clr S i : Nat) : Int) := ⟨_, rfl⟩
        have hw2 := wrap_shl (show i ≤ 6 by omega)
        have hC0 : okIo C2 := okIo_of (by
          have : clr S i < S := clr_lt hbit
          rw [hC2]; omega)
        rw [← hP2] at hcl hw2
        rw [← hC2] at hcl hq1
        clear hP2 hC2 hstep hbit
        replace hstep := hstep2
        clear hstep2
        have hqm : q < ms.length := by rw [hml.out]; exact hlt
        obtain ⟨gm, om, cx, rfl, -, hm2, rfl, hcm⟩ := (hM.pure (hg4.t hg)).at_ (by decide) hqm
        have m0 : wr.cell? ⟨gm, om + q, none⟩ = some (.map (some ms[q].g)) := by
          have := hcm 0 _ rfl
          rwa [show Enc.sz MapA = 1 from rfl, Nat.mul_one, Nat.add_zero] at this
        have hmo := (hL.pure (hg4.t hg)) q hqm
        generalize ms[q].g = mg at *
        have hlk : Hid (∀ W, wr.grownBy W none → (Instr.lookup 55 (.map (some mg)) (.int .i64 C2) false).run Tryz.prog W = .ok (.int .i64 (lf q)) W) := fun W hW => look_into (hmo.2.kept hW (by simp)) hC0 hq1
        have hD := hide fun W => distance_any at_ cc.a W hst hna
        have hDb := distP_bd hst hna
        clear hcm hmo hC0 hq1
        have hLk : ∀ wx, wr.grownBy wx none → (wx.cell? ⟨x4, 0, none⟩ = some (.int .i64 at_.x) ∧ wx.cell? ⟨x4, 1, none⟩ = some (.int .i64 at_.y)) ∧ wx.cell? ⟨fp, 1, none⟩ = some (.slice (some ⟨gm, om, none⟩) ms.length cb) ∧ wx.cell? ⟨gm, om + q, none⟩ = some (.map (some mg)) := fun wx h => ⟨⟨((hb.pure h).c 0 rfl).1, ((hb.pure h).c 1 rfl).1⟩, ((hB.pure (hg.t h)).c 1 rfl).1, h.k m0⟩
        replace hLk := hide hLk
        obtain ⟨wy, hwy⟩ : ∃ x, x = wr.alloc (.cells #[.int .i64 i, .int .i64 v.start, .bool v.back, .int .i64 cc.a.x, .int .i64 cc.a.y, .int .i64 cc.b.x, .int .i64 cc.b.y] 58) := ⟨_, rfl⟩
        have hT : Box wy wr.heap.size 58 [.int .i64 i, .int .i64 v.start, .bool v.back, .int .i64 cc.a.x, .int .i64 cc.a.y, .int .i64 cc.b.x, .int .i64 cc.b.y] := by rw [hwy]; exact Box.new _ _ _
        have hgy : wr.grownBy wy none := by rw [hwy]; exact gr_alloc (World.grownBy.refl _ _) _
        replace hwy := hide hwy.symm
        clear m0 hm2 hlq
        go_upto_region 6 with fail
        rw [show wr.alloc (.cells #[.int .i64 i, .int .i64 v.start, .bool v.back, .int .i64 cc.a.x, .int .i64 cc.a.y, .int .i64 cc.b.x, .int .i64 cc.b.y] 58) = wy from hwy.out]
        clear hwy c0 c1 c2 c3 c4 c5 c6
        generalize wr.heap.size = gt at *
        refine wp_region_tree (fun wx => wy.grownBy wx none) [1, 2, 1, 0, 2, 2, 2, 1, 2, 2, 1, 2, 2, 2, 1, 2, 2, 1, 2, 2] (.bl 0 (.bl 1 (.bl 2 (.bl 4 (.bl 5 (.bl 6 (.bl 7 (.bl 8 (.bl 9 (.bl 10 (.bl 11 (.bl 12 (.bl 13 (.bl 14 (.bl 15 (.bl 16 (.bl 17 (.ef 3 (.bl 18 (.bl 19 .done)))))))))))))))))))) (by kernel_rfl) (by kernel_rfl) (gr_drew (World.grownBy.refl _ _)) ?_
        obtain ⟨wd, hwd⟩ : ∃ x, x = (wy).drew := ⟨_, rfl⟩
        rw [← hwd]
        have hgwd : (wy).grownBy wd none := by rw [hwd]; exact gr_drew (World.grownBy.refl _ _)
        clear hwd
        refine tree_b rfl rfl rfl rfl _ rfl (by simp) (fun K hK => ?_)
        apply Exists.intro
        refine ⟨fun wq hq K' hK' => ?_, ?_⟩
        · obtain ⟨⟨d0, d1⟩, d2, d3⟩ := hLk.out wq (hgy.t hq)
          have hk17 := hlk.out wq (hgy.t hq)
          obtain ⟨t0, -⟩ := (hT.pure hq).c 0 rfl
          obtain ⟨t3, -⟩ := (hT.pure hq).c 3 rfl
          obtain ⟨t4, -⟩ := (hT.pure hq).c 4 rfl
          go_wp2_with fail
          exact hK'
        go_simp
        refine hK _ ?_
        clear hK K
        refine tree_p rfl rfl rfl rfl _ rfl (by simp) (fun K hK => ?_)
        apply Exists.intro
        refine ⟨fun wq K' hK' => ?_, ?_⟩
        · go_wp2_with fail
          exact hK'
        go_simp
        refine hK _ ?_
        clear hK K
        refine tree_b rfl rfl rfl rfl _ rfl (by simp) (fun K hK => ?_)
        apply Exists.intro
        refine ⟨fun wq hq K' hK' => ?_, ?_⟩
        · obtain ⟨⟨d0, d1⟩, d2, d3⟩ := hLk.out wq (hgy.t hq)
          have hk17 := hlk.out wq (hgy.t hq)
          obtain ⟨t0, -⟩ := (hT.pure hq).c 0 rfl
          obtain ⟨t3, -⟩ := (hT.pure hq).c 3 rfl
          obtain ⟨t4, -⟩ := (hT.pure hq).c 4 rfl
          go_wp2_with fail
          exact hK'
        go_simp
        refine hK _ ?_
        clear hK K
        refine tree_p rfl rfl rfl rfl _ rfl (by simp) (fun K hK => ?_)
        apply Exists.intro
        refine ⟨fun wq K' hK' => ?_, ?_⟩
        · go_wp2_with fail
          exact hK'
        go_simp
        refine hK _ ?_
        clear hK K
        refine tree_n rfl rfl _ rfl _ rfl ?_
        try go_simp
        refine tree_p rfl rfl rfl rfl _ rfl (by simp) (fun K hK => ?_)
        apply Exists.intro
        refine ⟨fun wq K' hK' => ?_, ?_⟩
        · go_wp2_with fail
          exact hK'
        go_simp
        refine hK _ ?_
        clear hK K
        refine tree_b rfl rfl rfl rfl _ rfl (by simp) (fun K hK => ?_)
        apply Exists.intro
        refine ⟨fun wq hq K' hK' => ?_, ?_⟩
        · obtain ⟨⟨d0, d1⟩, d2, d3⟩ := hLk.out wq (hgy.t hq)
          have hk17 := hlk.out wq (hgy.t hq)
          obtain ⟨t0, -⟩ := (hT.pure hq).c 0 rfl
          obtain ⟨t3, -⟩ := (hT.pure hq).c 3 rfl
          obtain ⟨t4, -⟩ := (hT.pure hq).c 4 rfl
          go_wp2_with fail
          exact hK'
        go_simp
        refine hK _ ?_
        clear hK K
        refine tree_p rfl rfl rfl rfl _ rfl (by simp) (fun K hK => ?_)
        apply Exists.intro
        refine ⟨fun wq K' hK' => ?_, ?_⟩
        · go_wp2_with fail
          exact hK'
        go_simp
        refine hK _ ?_
        clear hK K
        refine tree_p rfl rfl rfl rfl _ rfl (by simp) (fun K hK => ?_)
        apply Exists.intro
        refine ⟨fun wq K' hK' => ?_, ?_⟩
        · go_wp2_with fail
          exact hK'
        go_simp
        refine hK _ ?_
        clear hK K
        refine tree_b rfl rfl rfl rfl _ rfl (by simp) (fun K hK => ?_)
        apply Exists.intro
        refine ⟨fun wq hq K' hK' => ?_, ?_⟩
        · obtain ⟨⟨d0, d1⟩, d2, d3⟩ := hLk.out wq (hgy.t hq)
          have hk17 := hlk.out wq (hgy.t hq)
          obtain ⟨t0, -⟩ := (hT.pure hq).c 0 rfl
          obtain ⟨t3, -⟩ := (hT.pure hq).c 3 rfl
          obtain ⟨t4, -⟩ := (hT.pure hq).c 4 rfl
          go_wp2_with fail
          exact hK'
        go_simp
        refine hK _ ?_
        clear hK K
        refine tree_p rfl rfl rfl rfl _ rfl (by simp) (fun K hK => ?_)
        apply Exists.intro
        refine ⟨fun wq K' hK' => ?_, ?_⟩
        · go_wp2_with fail
          exact hK'
        go_simp
        refine hK _ ?_
        clear hK K
        refine tree_p rfl rfl rfl rfl _ rfl (by simp) (fun K hK => ?_)
        apply Exists.intro
        refine ⟨fun wq K' hK' => ?_, ?_⟩
        · go_wp2_with fail
          exact hK'
        go_simp
        refine hK _ ?_
        clear hK K
        refine tree_p rfl rfl rfl rfl _ rfl (by simp) (fun K hK => ?_)
        apply Exists.intro
        refine ⟨fun wq K' hK' => ?_, ?_⟩
        · go_wp2_with fail
          exact hK'
        go_simp
        refine hK _ ?_
        clear hK K
        refine tree_b rfl rfl rfl rfl _ rfl (by simp) (fun K hK => ?_)
        apply Exists.intro
        refine ⟨fun wq hq K' hK' => ?_, ?_⟩
        · obtain ⟨⟨d0, d1⟩, d2, d3⟩ := hLk.out wq (hgy.t hq)
          have hk17 := hlk.out wq (hgy.t hq)
          obtain ⟨t0, -⟩ := (hT.pure hq).c 0 rfl
          obtain ⟨t3, -⟩ := (hT.pure hq).c 3 rfl
          obtain ⟨t4, -⟩ := (hT.pure hq).c 4 rfl
          go_wp2_with fail
          exact hK'
        go_simp
        refine hK _ ?_
        clear hK K
        refine tree_p rfl rfl rfl rfl _ rfl (by simp) (fun K hK => ?_)
        apply Exists.intro
        refine ⟨fun wq K' hK' => ?_, ?_⟩
        · go_wp2_with fail
          exact hK'
        go_simp
        refine hK _ ?_
        clear hK K
        refine tree_p rfl rfl rfl rfl _ rfl (by simp) (fun K hK => ?_)
        apply Exists.intro
        refine ⟨fun wq K' hK' => ?_, ?_⟩
        · go_wp2_with fail
          exact hK'
        go_simp
        refine hK _ ?_
        clear hK K
        refine tree_b rfl rfl rfl rfl _ rfl (by simp) (fun K hK => ?_)
        apply Exists.intro
        refine ⟨fun wq hq K' hK' => ?_, ?_⟩
        · obtain ⟨⟨d0, d1⟩, d2, d3⟩ := hLk.out wq (hgy.t hq)
          have hk17 := hlk.out wq (hgy.t hq)
          obtain ⟨t0, -⟩ := (hT.pure hq).c 0 rfl
          obtain ⟨t3, -⟩ := (hT.pure hq).c 3 rfl
          obtain ⟨t4, -⟩ := (hT.pure hq).c 4 rfl
          go_wp2_with fail
          exact hK'
        go_simp
        refine hK _ ?_
        clear hK K
        refine tree_e rfl rfl (fun K hK => ?_)
        go_wp2_with fail
        refine (hD.out _).mono ?_
        rintro e w3 ⟨rfl, hg3⟩
        go_wp2_with fail
        try go_simp
        refine hK _ _ (gr_trans hgwd hg3) ?_
        clear hK K
        refine tree_p rfl rfl rfl rfl _ rfl (by simp) (fun K hK => ?_)
        apply Exists.intro
        refine ⟨fun wq K' hK' => ?_, ?_⟩
        · go_wp2_with fail
          exact hK'
        go_simp
        refine hK _ ?_
        clear hK K
        refine tree_p rfl rfl rfl rfl _ rfl (by simp) (fun K hK => ?_)
        apply Exists.intro
        refine ⟨fun wq K' hK' => ?_, ?_⟩
        · go_wp2_with fail
          exact hK'
        go_simp
        refine hK _ ?_
        clear hK K
        refine tree_done ?_
        have hgz := hgy.t (gr_trans hgwd hg3)
        clear hLk hlk hD hT hgwd hg3 hgy hbt hw2 hcl
        have hov : -9223372036854775808 ≤ distP at_ cc.a + lf q ∧ distP at_ cc.a + lf q ≤ 9223372036854775807 := by omega
        rcases ac with _ | b
        · have hs2 : Hid (fmin (byS l lf at_ S) (q + 1) = some (q, distP at_ cc.a + lf q)) := fmin_first hstep.out hac.out.symm
          simp only [nxI, nxV]
          go_wp2_with fail
          (go_roundw; (case rel => exact ⟨q + 1, some (q, distP at_ cc.a + lf q), by omega, by go_num, hs2.out.symm, rfl, rfl, hb.pure hgz, hg.t hgz⟩); (case measure => simp [intOf]; omega))
        · have hs2 := hide (fmin_next hstep.out hac.out.symm)
          have hb0 : decide ((b.1 : Int) < 0) = false := by simp
          simp only [nxI, nxV]
          by_cases hd : distP at_ cc.a + lf q < b.2
          · have hdd : decide (distP at_ cc.a + lf q < b.2) = true := decide_eq_true hd
            rw [if_pos hd] at hs2
            go_wp2_with fail
            (go_roundw; (case rel => exact ⟨q + 1, some (q, distP at_ cc.a + lf q), by omega, by go_num, hs2.out.symm, rfl, rfl, hb.pure hgz, hg.t hgz⟩); (case measure => simp [intOf]; omega))
          · have hdd : decide (distP at_ cc.a + lf q < b.2) = false := decide_eq_false hd
            rw [if_neg hd] at hs2
            go_wp2_with fail
            (go_roundw; (case rel => exact ⟨q + 1, some b, by omega, by go_num, hs2.out.symm, rfl, rfl, hb.pure hgz, hg.t hgz⟩); (case measure => simp [intOf]; omega))
    · have e : q = (allC l).length := by omega
      subst e
      have hfin : Hid (nxtS l lf at_ S = ac) := hac.out.symm
      clear hac hB
      go_wp2_with fail
      exact bodyPost_ret (v := .tuple #[.int .i64 (nxI ac), .int .i64 (nxV ac)]) (by simp [results, Tryz.results19, go_sem]) rfl ⟨by rw [hfin.out], hg4.t hg⟩

end Go.Proofs.YtgcfaamgilbjdaaGreatDoor

namespace Go.Bl
open Go Go.Proofs.YtgcfaamgilbjdaaGreatDoor

theorem travR_bd {l : List PathV} : ∀ {o : List Vis} {at_ : Pt}, near at_ → (∀ v ∈ o, near (eA l v) ∧ near (eB l v)) → 0 ≤ travR l at_ o ∧ travR l at_ o ≤ 200000 * o.length
  | [], _, _, _ => by simp [travR]
  | v :: o, at_, h, hv => by
    obtain ⟨h1, h2⟩ := hv v (List.mem_cons_self ..)
    have h3 := distP_bd h h1
    have h4 := travR_bd (o := o) h2 fun x hx => hv x (List.mem_cons_of_mem _ hx)
    unfold travR
    rw [List.length_cons]
    omega

theorem pow64 {n : Nat} (h : n ≤ 6) : 1 ≤ 2 ^ n ∧ 2 ^ n ≤ 64 := by
  rcases (show n = 0 ∨ n = 1 ∨ n = 2 ∨ n = 3 ∨ n = 4 ∨ n = 5 ∨ n = 6 by omega) with rfl | rfl | rfl | rfl | rfl | rfl | rfl <;> decide

theorem pow64I {n : Nat} {PN : Int} (h : n ≤ 6) (e : PN = ((2 ^ n : Nat) : Int)) : 1 ≤ PN ∧ PN ≤ 64 := by
  have := pow64 h
  rw [e]
  generalize 2 ^ n = q at *
  omega

theorem chV_neD {l : List PathV} (hp : pathsF l = 0) : ∀ i, i < l.length → chV (l.getD i default) i ≠ [] := fun i hi => by
  rw [getD_path hi]; exact chV_ne hp hi

theorem chV_formD {l : List PathV} (hp : pathsF l = 0) : ∀ i, i < l.length → ∀ v ∈ chV (l.getD i default) i, formF (l.getD i default) v = 0 := fun i hi v hv => by
  rw [getD_path hi] at hv ⊢
  exact (chV_ok hp hi v hv).2.2

theorem ord_ok {l : List PathV} (hp : pathsF l = 0) {o : List Vis} {S : Nat} (h : OrdS l S o) : ∀ v ∈ o, VisOk l v := fun v hv => by
  obtain ⟨i, hi, hm⟩ := ord_vis h v hv
  rw [getD_path hi] at hm
  exact (chV_ok hp hi v hm).2.1

theorem cardS_le (n S : Nat) : cardS n S ≤ n := by
  unfold cardS
  have := List.length_filter_le (fun i => S.testBit i) (List.range n)
  simpa using this

theorem bst_bd {l : List PathV} (hp : pathsF l = 0) (hn : l.length ≤ 6) {at_ : Pt} (hst : near at_) {S : Nat} (hS : S < 2 ^ l.length) : 0 ≤ (bst l at_ S).2 ∧ (bst l at_ S).2 ≤ 1200000 := by
  obtain ⟨h1, h2⟩ := bst_ord (chV_neD hp) S S at_ (Nat.le_refl _) hS
  have h3 := travR_bd (l := l) hst fun v hv => ⟨(ord_ok hp h1 v hv).nA, (ord_ok hp h1 v hv).nB⟩
  have h4 := ord_len h1
  have h5 := cardS_le l.length S
  rw [← h2] at h3
  omega

theorem nxV_bst (l : List PathV) (at_ : Pt) (S : Nat) : nxV (nxtS l (bsL l S) at_ S) = (bst l at_ S).2 := by
  rw [bst_eq]
  rcases nxtS l (bsL l S) at_ S with _ | b <;> rfl

theorem chA_near {l : List PathV} (hp : pathsF l = 0) {k : Nat} (hk : k < (allC l).length) : near (chA l k).a ∧ near (chA l k).b := by
  obtain ⟨i, v, hi, hv, h1, -⟩ := chA_mem hk
  rw [getD_path hi] at hv
  have h2 := (chV_ok hp hi v hv).2.1
  rw [h1]
  exact ⟨h2.nA, h2.nB⟩

/-- what the tables hold: all of the sets before S, and of S itself those of the first q choices -/
def TabOk (l : List PathV) (T : Nat → Int → Option Int) (S q : Nat) : Prop := ∀ k S' : Nat, k < (allC l).length → (S' < S ∨ (S' = S ∧ k < q)) → S'.testBit (pthN (chA l k)) = false → T k (S' : Int) = some (bst l (chA l k).b S').2

theorem TabOk.zero (l : List PathV) : TabOk l (fun _ x => if x = 0 then some 0 else none) 1 0 := by
  intro k S' _ h _
  have : S' = 0 := by omega
  subst this
  rw [bst_zero]; rfl

theorem TabOk.next {l : List PathV} {T : Nat → Int → Option Int} {S : Nat} (h : TabOk l T S (allC l).length) : TabOk l T (S + 1) 0 := fun k S' hk h1 h2 => h k S' hk (by omega) h2

theorem TabOk.skip {l : List PathV} {T : Nat → Int → Option Int} {S q : Nat} (h : TabOk l T S q) (hq : S.testBit (pthN (chA l q)) = true) : TabOk l T S (q + 1) := fun k S' hk h1 h2 => by
  rcases h1 with h1 | ⟨rfl, h1⟩
  · exact h k S' hk (.inl h1) h2
  · by_cases e : k = q
    · subst e; rw [hq] at h2; cases h2
    · exact h k S' hk (.inr ⟨rfl, by omega⟩) h2

theorem TabOk.put {l : List PathV} {T : Nat → Int → Option Int} {S q : Nat} (h : TabOk l T S q) : TabOk l (fun k => if k = q then (fun z => if z = (S : Int) then some (bst l (chA l q).b S).2 else T q z) else T k) S (q + 1) := fun k S' hk h1 h2 => by
  by_cases e : k = q
  · subst e
    simp only [if_true]
    by_cases e2 : S' = S
    · subst e2; simp
    · rw [if_neg (by omega)]
      exact h k S' hk (by omega) h2
  · simp only [if_neg e]
    exact h k S' hk (by omega) h2

theorem TabOk.use {l : List PathV} {T : Nat → Int → Option Int} {S q : Nat} (h : TabOk l T S q) (hp : pathsF l = 0) (hn : l.length ≤ 6) (hS : S < 2 ^ l.length) : ∀ k, k < (allC l).length → S.testBit (pthN (chA l k)) = true → (T k ((clr S (pthN (chA l k)) : Nat) : Int)).getD 0 = bsL l S k ∧ 0 ≤ bsL l S k ∧ bsL l S k ≤ 10000000 := fun k hk hb => by
  have h1 := clr_lt hb
  have h2 : (clr S (pthN (chA l k))).testBit (pthN (chA l k)) = false := by rw [clr_bit]; simp
  rw [h k _ hk (.inl h1) h2]
  have h3 := bst_bd hp hn (chA_near hp hk).2 (show clr S (pthN (chA l k)) < 2 ^ l.length by omega)
  unfold bsL
  exact ⟨rfl, h3.1, by omega⟩

theorem TabOk.down {l : List PathV} {T : Nat → Int → Option Int} {S S2 : Nat} (h : TabOk l T S 0) (h2 : S2 ≤ S) : TabOk l T S2 0 := fun k S' hk h1 h3 => h k S' hk (by omega) h3

theorem nxt_some {l : List PathV} (hp : pathsF l = 0) {at_ : Pt} {S : Nat} (hS : S < 2 ^ l.length) (h0 : S ≠ 0) : ∃ b i, nxtS l (bsL l S) at_ S = some b ∧ b.1 < (allC l).length ∧ i < l.length ∧ S.testBit i = true ∧ (chA l b.1).v.path = (i : Int) ∧ pthN (chA l b.1) = i ∧ (bst l at_ S).1 = (chA l b.1).v :: (bst l (chA l b.1).b (clr S i)).1 := by
  obtain ⟨h1, -⟩ := bst_ord (chV_neD hp) S S at_ (Nat.le_refl _) hS
  have h2 := bst_eq l at_ S
  rcases hq : nxtS l (bsL l S) at_ S with _ | b
  · rw [hq] at h2
    rw [h2] at h1
    exact absurd h1 h0
  · rw [hq] at h2
    obtain ⟨h3, h4, -⟩ := fmin_some hq
    obtain ⟨h5, -⟩ := byS_some h4
    obtain ⟨i, v, hi, hv, h6, h7⟩ := chA_mem h3
    rw [h7] at h5
    refine ⟨b, i, rfl, h3, hi, h5, ?_, h7, ?_⟩
    · rw [h6]; exact chV_path hv
    · rw [h2]
      simp only [h7]

theorem bst_few {l : List PathV} (hp : pathsF l = 0) {at_ : Pt} {S : Nat} (hS : S < 2 ^ l.length) : (bst l at_ S).1.length ≤ l.length ∧ ∀ v ∈ (bst l at_ S).1, VisOk l v := by
  obtain ⟨h1, -⟩ := bst_ord (chV_neD hp) S S at_ (Nat.le_refl _) hS
  exact ⟨by rw [ord_len h1]; exact cardS_le _ _, ord_ok hp h1⟩

end Go.Bl

namespace Go.Bl
open Go Go.Proofs.YtgcfaamgilbjdaaGreatDoor

theorem ord_mem {l : List PathV} : ∀ {o : List Vis} {S : Nat}, OrdS l S o → (∀ v ∈ o, ∃ i, i < l.length ∧ S.testBit i = true ∧ v ∈ chV (l.getD i default) i) ∧ (o.map Vis.path).Nodup
  | [], _, _ => ⟨fun v hv => by simp at hv, List.nodup_nil⟩
  | v :: o, S, ⟨i, hi, hb, hv, ho⟩ => by
    obtain ⟨h1, h2⟩ := ord_mem ho
    have h3 : ∀ x ∈ o, ∃ j, j < l.length ∧ S.testBit j = true ∧ i ≠ j ∧ x ∈ chV (l.getD j default) j := fun x hx => by
      obtain ⟨j, hj, hjb, hjx⟩ := h1 x hx
      rw [clr_bit] at hjb
      simp at hjb
      exact ⟨j, hj, hjb.1, hjb.2, hjx⟩
    refine ⟨fun x hx => ?_, ?_⟩
    · rcases List.mem_cons.1 hx with rfl | hx
      · exact ⟨i, hi, hb, hv⟩
      · obtain ⟨j, hj, hjb, -, hjx⟩ := h3 x hx
        exact ⟨j, hj, hjb, hjx⟩
    · rw [List.map_cons]
      refine List.nodup_cons.2 ⟨fun hm => ?_, h2⟩
      obtain ⟨x, hx, e⟩ := List.mem_map.1 hm
      obtain ⟨j, -, -, hne, hjx⟩ := h3 x hx
      rw [chV_path hv, chV_path hjx] at e
      exact hne (Int.ofNat.inj e).symm

theorem ord_back {l : List PathV} : ∀ {o : List Vis} {S : Nat}, (∀ v ∈ o, ∃ i, i < l.length ∧ S.testBit i = true ∧ v ∈ chV (l.getD i default) i) → (o.map Vis.path).Nodup → S < 2 ^ l.length → o.length = cardS l.length S → OrdS l S o
  | [], S, _, _, hS, hl => zero_bits hS (cardS_zero hl.symm)
  | v :: o, S, hm, hn, hS, hl => by
    obtain ⟨i, hi, hb, hv⟩ := hm v (List.mem_cons_self ..)
    rw [List.map_cons] at hn
    obtain ⟨h1, h2⟩ := List.nodup_cons.1 hn
    have hc := cardS_clr hb l.length
    rw [if_pos hi] at hc
    refine ⟨i, hi, hb, hv, ord_back (fun x hx => ?_) h2 (by have := clr_lt hb; omega) ?_⟩
    · obtain ⟨j, hj, hjb, hjx⟩ := hm x (List.mem_cons_of_mem _ hx)
      refine ⟨j, hj, ?_, hjx⟩
      rw [clr_bit, hjb]
      have hne : i ≠ j := by
        rintro rfl
        refine h1 (List.mem_map.2 ⟨x, hx, ?_⟩)
        rw [chV_path hv, chV_path hjx]
      simp [hne]
    · rw [List.length_cons] at hl
      omega

theorem order_perm {l : List PathV} {o o' : List Vis} (hp : pathsF l = 0) (h : orderF l o = 0) (hpm : o'.Perm o) : orderF l o' = 0 := by
  have h1 := (order_iff hp (chV_formD hp)).1 h
  obtain ⟨h2, h3⟩ := ord_mem h1
  refine (order_iff hp (chV_formD hp)).2 (ord_back (fun v hv => h2 v (hpm.mem_iff.1 hv)) ((hpm.map _).nodup_iff.2 h3) ?_ ?_)
  · have := Nat.two_pow_pos l.length; omega
  · rw [hpm.length_eq, ord_len h1]
/-- the least order is an order, and no order travels less -/
theorem best_order {l : List PathV} (hp : pathsF l = 0) (st : Pt) : orderF l (bst l st (2 ^ l.length - 1)).1 = 0 := by
  refine (order_iff hp (chV_formD hp)).2 (bst_ord (chV_neD hp) _ _ st (Nat.le_refl _) ?_).1
  have := Nat.two_pow_pos l.length; omega

theorem best_least {l : List PathV} (hp : pathsF l = 0) (st : Pt) {o : List Vis} (h : orderF l o = 0) : (travS l st (bst l st (2 ^ l.length - 1)).1).2 ≤ (travS l st o).2 := by
  have hlt : 2 ^ l.length - 1 < 2 ^ l.length := by have := Nat.two_pow_pos l.length; omega
  have h1 := bst_min l o st _ ((order_iff hp (chV_formD hp)).1 h)
  have h2 := (bst_ord (chV_neD hp) _ _ st (Nat.le_refl _) hlt).2
  rw [travS_R, travS_R, ← h2]
  exact h1

end Go.Bl

namespace Go.Bl
open Go Go.Proofs.YtgcfaamgilbjdaaGreatDoor

theorem begun_order {l : List PathV} {o : List Int} {Q : List Vis} (hp : pathsF l = 0) (hQ : Q.map Vis.path = o) (ho : o.Perm ((List.range l.length).map Int.ofNat)) (hv : ∀ v ∈ Q, v ∈ chV (l.getD v.path.toNat default) v.path.toNat) : orderF l Q = 0 := by
  have hlt : 2 ^ l.length - 1 < 2 ^ l.length := by have := Nat.two_pow_pos l.length; omega
  have hlen : Q.length = l.length := by
    have h1 := congrArg List.length hQ
    have h2 := ho.length_eq
    simp only [List.length_map, List.length_range] at h1 h2
    omega
  refine (order_iff hp (chV_formD hp)).2 (ord_back (fun v hv2 => ?_) ?_ hlt (by rw [hlen, cardS_all]))
  · have h1 : v.path ∈ o := by rw [← hQ]; exact List.mem_map_of_mem hv2
    obtain ⟨i, hi, e⟩ := List.mem_map.1 (ho.mem_iff.1 h1)
    have hi := List.mem_range.1 hi
    have h2 := hv v hv2
    have e2 : v.path.toNat = i := by rw [← e]; rfl
    rw [e2] at h2
    exact ⟨i, hi, by rw [Nat.testBit_two_pow_sub_one, decide_eq_true hi], h2⟩
  · rw [hQ]
    refine ho.nodup_iff.2 ?_
    rw [List.nodup_iff_pairwise_ne, List.pairwise_map]
    exact List.Pairwise.imp (fun hne e => hne (Int.ofNat.inj e)) (List.nodup_iff_pairwise_ne.1 List.nodup_range)

end Go.Bl

/- Contracts of functions that this seat's laws reach, each: what one call returns and what it leaves in memory; no condition beyond each theorem's own hypotheses. -/
import Derived.Test.YtanioobepfllgaaDoorZqPlnC
import Derived.Test.YtanioobepfllgaaDoorZqLateL
import Derived.Test.YtanioobepfllgaaDoorZqEqStr
import Derived.Test.YtanioobepfllgaaDoorZqTree
import Derived.Test.YtanioobepfllgaaDoorZqCmpL
import Derived.Test.YtanioobepfllgaaDoorZqGrS
set_option linter.unusedVariables false
set_option linter.unusedSimpArgs false
namespace Go.Proofs.YtanioobepfllgaaDoor
open Go Go.RowKit Go.Bl

/-- what comes of one of the first jobs that is put behind -/
def SOn (E : PEnv) (k : Nat) (Q : List (List Int)) (n : Nat) (X : List (List Int)) : Prop := ∃ i : Nat, i < n ∧ memI Q.flatten (i : Int) = false ∧ Comp E.p.length E.j.length k (Q.set k (Q.getD k [] ++ [(i : Int)])) X

theorem SOn_in {E : PEnv} {k : Nat} {Q : List (List Int)} {n : Nat} (h : memI Q.flatten (n : Int) = true) (X : List (List Int)) : SOn E k Q (n + 1) X ↔ SOn E k Q n X := by
  constructor
  · rintro ⟨i, h1, h2, h3⟩
    by_cases e : i = n
    · subst e; rw [h] at h2; cases h2
    · exact ⟨i, by omega, h2, h3⟩
  · rintro ⟨i, h1, h2, h3⟩
    exact ⟨i, by omega, h2, h3⟩

theorem SOn_out {E : PEnv} {k : Nat} {Q : List (List Int)} {n : Nat} (h : memI Q.flatten (n : Int) = false) (X : List (List Int)) : SOn E k Q (n + 1) X ↔ (SOn E k Q n X ∨ Comp E.p.length E.j.length k (Q.set k (Q.getD k [] ++ [(n : Int)])) X) := by
  constructor
  · rintro ⟨i, h1, h2, h3⟩
    by_cases e : i = n
    · subst e; exact .inr h3
    · exact .inl ⟨i, by omega, h2, h3⟩
  · rintro (⟨i, h1, h2, h3⟩ | h3)
    · exact ⟨i, by omega, h2, h3⟩
    · exact ⟨n, by omega, h, h3⟩

theorem SOn_zero {E : PEnv} {k : Nat} {Q : List (List Int)} (X : List (List Int)) : ¬ SOn E k Q 0 X := by
  rintro ⟨i, h1, -⟩
  omega
/-- what a try leaves -/
def TryR (E : PEnv) (S : List (List Int) → Prop) (Q : List (List Int)) (bo : Option (List (List Int))) (w : World) (e : Ending) (w' : World) : Prop :=
  e = .returned (.tuple #[]) ∧ (∃ b', Bst E.p E.j E.ch S bo b' ∧ InvQ E w' Q b') ∧ KeepC w w'

theorem InvP.ucell {E : PEnv} {wr : World} {Q : List (List Int)} {T : List Int} {raws : List RawS} {B : Option Addr} {d : Nat} {rB : List RawS} {R : List (List Int)} {VB : Value} {l s : Int} (hI : InvP E wr Q T raws B d rB R VB l s) {n : Nat} (hlt : n < E.j.length) :
    wr.cell? ⟨E.gs, n, none⟩ = some (.bool (memI T (n : Int))) := by
  have hml : n < (seenN E.j.length T).length := by rw [seenN_len]; exact hlt
  obtain ⟨cc, hcr, hcc⟩ := hI.us.cell_at (by decide) hml
  have hcr' : cc = [.bool (seenN E.j.length T)[n]] := hcr
  rw [seenN_get] at hcr'
  subst hcr'
  have := hcc 0 _ rfl
  rwa [show Enc.sz Bool = 1 from rfl, Nat.mul_one, Nat.add_zero] at this

set_option maxHeartbeats 8000000 in
set_option maxRecDepth 100000 in
theorem tryNode_any {E : PEnv} (hE : E.Ok) (hok : JOk E.j E.ch) (hj7 : E.j.length ≤ 7) (hp4 : E.p.length ≤ 4) (hJ : Sl E.w0 0 E.J E.j) (hP : Sl E.w0 0 E.P E.p) {w : World} {Q : List (List Int)} {bo : Option (List (List Int))}
    {raws : List RawS} {B : Option Addr} {d : Nat} {rB : List RawS} {R : List (List Int)} {l s : Int}
    (hI : InvP E w Q Q.flatten raws B d rB R (.slice B R.length d) l s) (hS : StP E bo B R l s) (hd : R.length ≤ d) (k : Nat) (left last sum c : Int) (m : ByteArray) (hl : ∀ X, bo = some X → last ≤ l) (hPt : Part E.p.length E.j.length k Q)
    (hleft : 1 ≤ left ∧ left ≤ 7) (hc : 0 ≤ c ∧ c ≤ 100000000) (hla : 0 ≤ last ∧ last ≤ 100000000) (hsu : 0 ≤ sum ∧ sum ≤ 1000000000000)
    (hpush : ∀ (i : Nat) (b' : Option (List (List Int))) (w' : World) (h : i < E.j.length), memI Q.flatten (i : Int) = false → InvQ E w' (Q.set k (Q.getD k [] ++ [(i : Int)])) b' →
      Calls Tryd.prog 30 #[.pointer (some ⟨E.gb, 0, none⟩), .int .i64 k, .agg #[.int .i64 (doC (c, m) E.j[i] E.ch).1, .string (doC (c, m) E.j[i] E.ch).2], .int .i64 (left - 1), .int .i64 (max last (doC (c, m) E.j[i] E.ch).1), .int .i64 (sum + (doC (c, m) E.j[i] E.ch).1)] w' (TryR E (Comp E.p.length E.j.length k (Q.set k (Q.getD k [] ++ [(i : Int)]))) (Q.set k (Q.getD k [] ++ [(i : Int)])) b' w'))
    (hnext : ∀ (h : k + 1 < E.p.length) (b' : Option (List (List Int))) (w' : World), InvQ E w' Q b' →
      Calls Tryd.prog 30 #[.pointer (some ⟨E.gb, 0, none⟩), .int .i64 ((k : Int) + 1), .agg #[.int .i64 0, .string E.p[k + 1].mat], .int .i64 left, .int .i64 last, .int .i64 sum] w' (TryR E (Comp E.p.length E.j.length (k + 1) Q) Q b' w')) :
    Calls Tryd.prog 30 #[.pointer (some ⟨E.gb, 0, none⟩), .int .i64 k, .agg #[.int .i64 c, .string m], .int .i64 left, .int .i64 last, .int .i64 sum] w (TryR E (fun X => SOn E k Q E.j.length X ∨ (k + 1 < E.p.length ∧ Comp E.p.length E.j.length (k + 1) Q X)) Q bo w) := by
  have hN := fun W => run_neq_slice_nilP (P := Tryd.prog) W 36 22 B R.length d 0 0 Tryd.underlying36
  have hgate : B.isNone = true ∨ (B.isNone = false ∧ decide (l < last) = false) := by
    cases bo with
    | none => left; obtain ⟨rfl, -⟩ := hS; rfl
    | some X =>
      right
      obtain ⟨-, -, ⟨ad, rfl⟩, -, -⟩ := hS
      exact ⟨rfl, decide_eq_false (by have := hl X rfl; omega)⟩
  have hIQ : ∀ w', InvP E w' Q Q.flatten raws B d rB R (.slice B R.length d) l s → InvQ E w' Q bo := fun w' h => ⟨raws, B, d, rB, R, l, s, hd, hS, h⟩
  have hkm := hPt.km
  have hQl := hide hPt.len
  have hbL : (left == 0) = false := by rw [beq_eq_false_iff_ne]; omega
  have hch := hok.chg
  replace hok := hide hok
  replace hPt := hide hPt
  replace hpush := hide hpush
  replace hnext := hide hnext
  replace hIQ := hide hIQ
  clear hl hd hS
  go_enter Tryd.func30, Tryd.ntmps30
  go_upto_region 1 with fail
  obtain ⟨w8, hw8⟩ : ∃ x, x = (w).alloc (.cells [.int .i64 c, .string m].toArray 70) := ⟨_, rfl⟩
  have hg8 : (w).grownBy w8 none := by rw [hw8]; exact gr_alloc (World.grownBy.refl _ _) _
  have hb8 : Box w8 (w).heap.size 70 [.int .i64 c, .string m] := by rw [hw8]; exact Box.new _ _ _
  have hxs8 := hb8.lt
  rw [← hw8]
  clear hw8
  obtain ⟨x8, hx8⟩ : ∃ x, x = (w).heap.size := ⟨_, rfl⟩
  rw [← hx8] at hb8 hxs8 ⊢
  have hxl8 : (w).heap.size ≤ x8 := by omega
  clear hx8
  have hI8 := hI.pure hg8
  have hk8 := KeepC.pure hg8
  have hIQ8 := hIQ.out _ hI8
  obtain ⟨b5, -⟩ := hI8.bx.c 5 rfl
  obtain ⟨b6, -⟩ := hI8.bx.c 6 rfl
  obtain ⟨b1, -⟩ := hI8.bx.c 1 rfl
  clear hI hI8 hIQ hg8
  go_cut [29] from 17 to 28 (fun s wx => s = .bool false ∧ wx = w8)
  case first =>
    rcases hgate with hg | ⟨hg, hb⟩
    all_goals
      rw [hg] at hN
      go_wp2_with fail
      go_meet
      exact ⟨rfl, rfl⟩
  case rest =>
  obtain ⟨rfl, hwc⟩ := hcut
  rw [hwc]
  clear hwc wc b5 b6 hN hgate
  go_upto_region 10 with fail
  clear hbL
  go_wp2_with fail
  clear b1
  go_loopw [73] (fun i wr => ∃ (n : Nat) (b' : Option (List (List Int))), n ≤ E.j.length ∧ i = .int .i64 n ∧ Hid (Bst E.p E.j E.ch (SOn E k Q n) bo b') ∧ InvQ E wr Q b' ∧ KeepC w8 wr) (fun i _ => E.j.length - (intOf i).toNat)
  case atStart => exact ⟨0, bo, Nat.zero_le _, rfl, Bst.none bo SOn_zero, hIQ8, KeepC.refl _⟩
  case round =>
    clear hIQ8
    obtain ⟨n, b', hn, rfl, hB, hIQ, hkc⟩ := hrel
    have hb8w := hkc.box hb8
    by_cases hlt : n < E.j.length
    · obtain ⟨raws, B, d, rB, R, l, s, hd, hS, hI⟩ := hIQ
      have hIQ2 := hide fun w' Q' raws' (h : InvP E w' Q' Q'.flatten raws' B d rB R (.slice B R.length d) l s) => (⟨raws', B, d, rB, R, l, s, hd, hS, h⟩ : InvQ E w' Q' b')
      clear hd hS
      obtain ⟨gj, oj, cx, eJ, _, hbj, rfl, hcj⟩ := (hJ.pure hI.gr).at_ (by decide) hlt
      have hjb := hok.out.bd _ (List.getElem_mem hlt)
      have j0 : wr.cell? ⟨gj, oj + n * 4, none⟩ = some (.string E.j[n].key) := hcj 0 _ rfl
      have j1 : wr.cell? ⟨gj, oj + n * 4 + 1, none⟩ = some (.string E.j[n].mat) := hcj 1 _ rfl
      have j2 : wr.cell? ⟨gj, oj + n * 4 + 2, none⟩ = some (.int .i64 E.j[n].min) := hcj 2 _ rfl
      have j3 : wr.cell? ⟨gj, oj + n * 4 + 3, none⟩ = some (.int .i64 E.j[n].due) := hcj 3 _ rfl
      clear hcj
      have hcu := hI.ucell hlt
      have hpn := hide fun b' w' => hpush.out n b' w' hlt
      have hn0 : (0 : Int) ≤ (n : Int) ∧ (n : Int) < (E.j.length : Int) := by omega
      generalize hY : E.j[n] = Y at *
      replace hY := hide hY
      rw [eJ]
      go_upto_region 13 with fail
      clear j0 j1 j2 j3
      obtain ⟨w15, hw15⟩ : ∃ x, x = (wr).alloc (.cells [.string Y.key, .string Y.mat, .int .i64 Y.min, .int .i64 Y.due].toArray 58) := ⟨_, rfl⟩
      have hg15 : (wr).grownBy w15 none := by rw [hw15]; exact gr_alloc (World.grownBy.refl _ _) _
      have hb15 : Box w15 (wr).heap.size 58 [.string Y.key, .string Y.mat, .int .i64 Y.min, .int .i64 Y.due] := by rw [hw15]; exact Box.new _ _ _
      have hxs15 := hb15.lt
      rw [← hw15]
      clear hw15
      obtain ⟨x15, hx15⟩ : ∃ x, x = (wr).heap.size := ⟨_, rfl⟩
      rw [← hx15] at hb15 hxs15 ⊢
      have hxl15 : (wr).heap.size ≤ x15 := by omega
      clear hx15
      have hI15 := hI.pure hg15
      have hcu15 := hg15.k hcu
      have hk15 := hkc.trans (KeepC.pure hg15)
      have hb8x := hb8w.pure hg15
      obtain ⟨b4, -⟩ := hI15.bx.c 4 rfl
      clear hI hcu hkc hb8w
      rcases hmem : memI Q.flatten (n : Int) with _ | _
      · rw [hmem] at hcu15
        have hB2 := hide (fun b'' (h : Bst E.p E.j E.ch (Comp E.p.length E.j.length k (Q.set k (Q.getD k [] ++ [(n : Int)]))) b' b'') => (hB.out.join h).of (SOn_out hmem))
        have hpn2 := hide (fun w' (h : InvQ E w' (Q.set k (Q.getD k [] ++ [(n : Int)])) b') => hpn.out b' w' hmem h)
        have hcd := clockDo_any c m Y E.ch
        have hzb : 0 ≤ (doC (c, m) Y E.ch).1 ∧ (doC (c, m) Y E.ch).1 ≤ 100200000 := by unfold doC; simp only; split <;> omega
        obtain ⟨z, hz⟩ : ∃ z, z = doC (c, m) Y E.ch := ⟨_, rfl⟩
        rw [← hz] at hcd hzb hpn2
        clear hz hpn
        have hbk : Hid ((seenN E.j.length (Q.flatten ++ [(n : Int)])).set n false = seenN E.j.length Q.flatten) := seen_back hmem
        replace hmem := hide hmem
        go_upto_region 14 with fail
        clear b4
        go_cut [16] from 85 to 91 (fun s16 wx => ∃ gx, s16 = .pointer (some ⟨gx, 0, none⟩) ∧ w15.heap.size ≤ gx ∧ Box wx gx 70 [.int .i64 z.1, .string z.2] ∧ w15.grownBy wx none)
        case first =>
          refine wp_region_tree (fun wx => w15.grownBy wx none) [1, 1, 2, 2, 2, 1, 0, 0, 0] (.bl 0 (.bl 1 (.bl 2 (.bl 3 (.bl 4 (.bl 5 (.alt (.ef 6 (.ef 7 (.ef 8 .done))) (.ef 7 (.ef 6 (.ef 8 .done)))))))))) (by kernel_rfl) (by kernel_rfl) (gr_drew (World.grownBy.refl _ _)) ?_
          obtain ⟨u0, hu0⟩ : ∃ x, x = (w15).drew := ⟨_, rfl⟩
          rw [← hu0]
          have hgu0 : (w15).grownBy u0 none := by rw [hu0]; exact gr_drew (World.grownBy.refl _ _)
          clear hu0
          refine tree_b rfl rfl rfl rfl _ rfl (by simp) (fun K hK => ?_)
          apply Exists.intro
          refine ⟨fun wq hq K' hK' => ?_, ?_⟩
          · obtain ⟨d0, -⟩ := (hb8x.pure hq).c 0 rfl
            obtain ⟨d1, -⟩ := (hb8x.pure hq).c 1 rfl
            obtain ⟨e0, -⟩ := (hb15.pure hq).c 0 rfl
            obtain ⟨e1, -⟩ := (hb15.pure hq).c 1 rfl
            obtain ⟨e2, -⟩ := (hb15.pure hq).c 2 rfl
            obtain ⟨e3, -⟩ := (hb15.pure hq).c 3 rfl
            obtain ⟨d2, -⟩ := (hI15.pure hq).bx.c 2 rfl
            go_wp2_with fail
            exact hK'
          go_simp
          refine hK _ ?_
          clear hK K
          refine tree_b rfl rfl rfl rfl _ rfl (by simp) (fun K hK => ?_)
          apply Exists.intro
          refine ⟨fun wq hq K' hK' => ?_, ?_⟩
          · obtain ⟨d0, -⟩ := (hb8x.pure hq).c 0 rfl
            obtain ⟨d1, -⟩ := (hb8x.pure hq).c 1 rfl
            obtain ⟨e0, -⟩ := (hb15.pure hq).c 0 rfl
            obtain ⟨e1, -⟩ := (hb15.pure hq).c 1 rfl
            obtain ⟨e2, -⟩ := (hb15.pure hq).c 2 rfl
            obtain ⟨e3, -⟩ := (hb15.pure hq).c 3 rfl
            obtain ⟨d2, -⟩ := (hI15.pure hq).bx.c 2 rfl
            go_wp2_with fail
            exact hK'
          go_simp
          refine hK _ ?_
          clear hK K
          refine tree_p rfl rfl rfl rfl _ rfl (by simp) (fun K hK => ?_)
          apply Exists.intro
          refine ⟨fun wq K' hK' => ?_, ?_⟩
          · go_wp2_with fail
            exact hK'
          go_simp
          refine hK _ ?_
          clear hK K
          refine tree_n rfl rfl _ rfl _ rfl ?_
          try go_simp
          refine tree_p rfl rfl rfl rfl _ rfl (by simp) (fun K hK => ?_)
          apply Exists.intro
          refine ⟨fun wq K' hK' => ?_, ?_⟩
          · go_wp2_with fail
            exact hK'
          go_simp
          refine hK _ ?_
          clear hK K
          refine tree_b rfl rfl rfl rfl _ rfl (by simp) (fun K hK => ?_)
          apply Exists.intro
          refine ⟨fun wq hq K' hK' => ?_, ?_⟩
          · obtain ⟨d0, -⟩ := (hb8x.pure hq).c 0 rfl
            obtain ⟨d1, -⟩ := (hb8x.pure hq).c 1 rfl
            obtain ⟨e0, -⟩ := (hb15.pure hq).c 0 rfl
            obtain ⟨e1, -⟩ := (hb15.pure hq).c 1 rfl
            obtain ⟨e2, -⟩ := (hb15.pure hq).c 2 rfl
            obtain ⟨e3, -⟩ := (hb15.pure hq).c 3 rfl
            obtain ⟨d2, -⟩ := (hI15.pure hq).bx.c 2 rfl
            go_wp2_with fail
            exact hK'
          go_simp
          refine hK _ ?_
          clear hK K
          refine tree_alt ?_ ?_
          · refine tree_e0 (by kernel_rfl) rfl rfl (fun K hK => ?_)
            go_wp2_with fail
            refine (hcd u0 ?_ ?_ ?_).mono ?_
            · omega
            · omega
            · omega
            rintro e w6 ⟨rfl, hg6⟩
            go_wp2_with fail
            try go_simp
            refine hK _ _ trivial ?_
            clear hK K
            refine tree_e rfl rfl (fun K hK => ?_)
            go_wp2_with fail
            try go_simp
            refine hK _ _ (gr_alloc (gr_trans hgu0 hg6) _) ?_
            clear hK K
            obtain ⟨w7, hw7⟩ : ∃ x, x = (w6).alloc (.cells [.int .i64 0, .string ⟨#[]⟩].toArray 70) := ⟨_, rfl⟩
            have hg7 : (w6).grownBy w7 none := by rw [hw7]; exact gr_alloc (World.grownBy.refl _ _) _
            have hb7 : Box w7 (w6).heap.size 70 [.int .i64 0, .string ⟨#[]⟩] := by rw [hw7]; exact Box.new _ _ _
            rw [← hw7]
            clear hw7
            obtain ⟨x7, hx7⟩ : ∃ x, x = (w6).heap.size := ⟨_, rfl⟩
            rw [← hx7] at hb7 ⊢
            have hxl7 : (w6).heap.size ≤ x7 := by omega
            clear hx7
            have hxw : w15.heap.size ≤ x7 := Nat.le_trans (gr_trans hgu0 hg6).size hxl7
            refine tree_e0 (by kernel_rfl) rfl rfl (fun K hK => ?_)
            have hb7w := hb7.pure (w' := w7) (World.grownBy.refl _ _)
            obtain ⟨m0, f0⟩ := hb7w.c 0 rfl
            obtain ⟨m1, f1⟩ := hb7w.c 1 rfl
            have hgg := gr_trans hgu0 (gr_trans hg6 hg7)
            go_wp2_with fail
            try go_simp
            refine hK _ _ trivial ?_
            clear hK K
            refine tree_done ?_
            obtain ⟨wg, hwg⟩ : ∃ x, x = ((w7).setCell ⟨x7, 0, none⟩ (.int .i64 z.1)).setCell ⟨x7, 1, none⟩ (.string z.2) := ⟨_, rfl⟩
            rw [← hwg]
            have hbg : Box wg x7 70 [.int .i64 z.1, .string z.2] := by rw [hwg]; exact (hb7w.set_ 0 _ (by simp)).set_ 1 _ (by simp)
            replace hgg : w15.grownBy wg none := by rw [hwg]; exact gr_set (gr_set hgg (.inr hxw) _) (.inr hxw) _
            clear hwg hb7w m0 m1 f0 f1
            go_wp2_with fail
            go_meet
            exact ⟨x7, rfl, hxw, hbg, hgg⟩
          · refine tree_e rfl rfl (fun K hK => ?_)
            go_wp2_with fail
            try go_simp
            refine hK _ _ (gr_alloc (gr_trans hgu0 (World.grownBy.refl _ _)) _) ?_
            clear hK K
            obtain ⟨w7, hw7⟩ : ∃ x, x = (u0).alloc (.cells [.int .i64 0, .string ⟨#[]⟩].toArray 70) := ⟨_, rfl⟩
            have hg7 : (u0).grownBy w7 none := by rw [hw7]; exact gr_alloc (World.grownBy.refl _ _) _
            have hb7 : Box w7 (u0).heap.size 70 [.int .i64 0, .string ⟨#[]⟩] := by rw [hw7]; exact Box.new _ _ _
            rw [← hw7]
            clear hw7
            obtain ⟨x7, hx7⟩ : ∃ x, x = (u0).heap.size := ⟨_, rfl⟩
            rw [← hx7] at hb7 ⊢
            have hxl7 : (u0).heap.size ≤ x7 := by omega
            clear hx7
            have hxw : w15.heap.size ≤ x7 := Nat.le_trans (gr_trans hgu0 (World.grownBy.refl _ _)).size hxl7
            refine tree_e0 (by kernel_rfl) rfl rfl (fun K hK => ?_)
            go_wp2_with fail
            refine (hcd w7 ?_ ?_ ?_).mono ?_
            · omega
            · omega
            · omega
            rintro e w6 ⟨rfl, hg6⟩
            go_wp2_with fail
            try go_simp
            refine hK _ _ trivial ?_
            clear hK K
            refine tree_e0 (by kernel_rfl) rfl rfl (fun K hK => ?_)
            have hb7w := hb7.pure (w' := w6) hg6
            obtain ⟨m0, f0⟩ := hb7w.c 0 rfl
            obtain ⟨m1, f1⟩ := hb7w.c 1 rfl
            have hgg := gr_trans hgu0 (gr_trans hg7 hg6)
            go_wp2_with fail
            try go_simp
            refine hK _ _ trivial ?_
            clear hK K
            refine tree_done ?_
            obtain ⟨wg, hwg⟩ : ∃ x, x = ((w6).setCell ⟨x7, 0, none⟩ (.int .i64 z.1)).setCell ⟨x7, 1, none⟩ (.string z.2) := ⟨_, rfl⟩
            rw [← hwg]
            have hbg : Box wg x7 70 [.int .i64 z.1, .string z.2] := by rw [hwg]; exact (hb7w.set_ 0 _ (by simp)).set_ 1 _ (by simp)
            replace hgg : w15.grownBy wg none := by rw [hwg]; exact gr_set (gr_set hgg (.inr hxw) _) (.inr hxw) _
            clear hwg hb7w m0 m1 f0 f1
            go_wp2_with fail
            go_meet
            exact ⟨x7, rfl, hxw, hbg, hgg⟩
        case rest =>
        obtain ⟨gx, rfl, hgx, hbx, hgc⟩ := hcut
        have hIc := hI15.pure hgc
        have hcu1 := hgc.k hcu15
        have hfu := hIc.us.frozen n
        obtain ⟨b4, -⟩ := hIc.bx.c 4 rfl
        have hIs := hIc.setU hE (v := true) (T' := Q.flatten ++ [(n : Int)]) hlt seen_snoc
        have hks := hk15.trans ((KeepC.pure hgc).trans (hIc.keepU n (.bool true)))
        have hbxs := (hIc.keepU n (.bool true)).box hbx
        clear hcd hb8x hb15 hI15 hcu15 hk15 hbx
        go_upto_region 16 with fail
        obtain ⟨ws, hws⟩ : ∃ x, x = wc.setCell ⟨E.gs, n, none⟩ (.bool true) := ⟨_, rfl⟩
        rw [← hws] at hIs hks hbxs ⊢
        clear hws hIc hfu hcu1 b4 hgc hgx
        have hkq : k < Q.length := by rw [hQl.out]; exact hkm
        have hkr : k < raws.length := by rw [hIs.rw.len]; exact hkq
        obtain ⟨hln, hO⟩ := hIs.rw.ins k hkr hkq
        have hcp := hIs.rw.cell hkr
        rw [hln] at hcp
        have hgd : Q.getD k [] = Q[k] := by simp [List.getD_eq_getElem?_getD, hkq]
        have hfl2 : Hid ((Q.set k (Q[k] ++ [(n : Int)])).flatten = Q.flatten ++ [(n : Int)]) := by rw [Hid, ← hgd]; exact hPt.out.push_flat _
        have hback : Hid ((Q.set k (Q[k] ++ [(n : Int)])).set k Q[k] = Q) := by rw [Hid, List.set_set, List.set_getElem_self]
        have hrow7 : Hid (Q[k].length ≤ 7) := by
          have h1 := row_len hkq
          have h2 := hPt.out.isp.nd.length_le_of_subset (l₂ := (List.range E.j.length).map fun i : Nat => (i : Int)) (fun x hx => by
            have hb := hPt.out.isp.bd x hx
            obtain ⟨q, rfl⟩ := Int.eq_ofNat_of_zero_le hb.1
            exact List.mem_map.2 ⟨q, List.mem_range.2 (by omega), rfl⟩)
          rw [List.length_map, List.length_range] at h2
          exact Nat.le_trans (Nat.le_trans h1 h2) hj7
        rw [hgd] at hpn2 hB2
        clear hln hgd
        obtain ⟨q, hq0⟩ : ∃ q, q = Q[k] := ⟨_, rfl⟩
        rw [← hq0] at hcp hO hfl2 hback hpn2 hB2 hrow7
        clear hq0
        have hq7 := hrow7.out
        obtain ⟨RA, hRA⟩ : ∃ x, x = raws[k].A := ⟨_, rfl⟩
        obtain ⟨RC, hRC⟩ : ∃ x, x = raws[k].c := ⟨_, rfl⟩
        rw [← hRA, ← hRC] at hcp hO
        have hcb : ws.cell? ⟨E.gb, 3, none⟩ = some (.slice (some ⟨E.gp, 0, none⟩) E.p.length E.p.length) := (hIs.bx.c 3 rfl).1
        have hRb : RA.map (·.block) ≠ some E.gb := by rw [hRA]; exact hIs.rlt hkr hE.hb.2
        have hRp : RA.map (·.block) ≠ some E.gp := by rw [hRA]; exact hIs.rlt hkr hE.hp.2
        have hRA2 : Hid (RA = raws[k].A) := hRA
        clear hRA hRC
        obtain ⟨i0, hi, hz9, hi1, hi2⟩ := info_parts infoI
        replace hi := hide hi
        replace hz9 := hide hz9
        replace hi1 := hide hi1
        replace hi2 := hide hi2
        have hk0 : (0 : Int) ≤ (k : Int) ∧ (k : Int) < (E.p.length : Int) := by omega
        refine wp_region_tree (fun wx => wx.cell? ⟨E.gb, 3, none⟩ = some (.slice (some ⟨E.gp, 0, none⟩) E.p.length E.p.length) ∧ wx.cell? ⟨E.gp, k, none⟩ = some (.slice RA q.length RC)) [2, 2, 2, 1, 2, 2, 2, 2, 1, 2, 2, 1, 2, 0, 0, 2, 0] (.bl 0 (.bl 1 (.bl 2 (.bl 3 (.bl 4 (.bl 5 (.bl 6 (.bl 7 (.bl 8 (.bl 9 (.bl 10 (.bl 11 (.bl 12 (.ef 13 (.ef 14 (.bl 15 (.ef 16 .done))))))))))))))))) (by kernel_rfl) (by kernel_rfl) (⟨(gr_drew (World.grownBy.refl ws none)).k hcb, (gr_drew (World.grownBy.refl ws none)).k hcp⟩) ?_
        obtain ⟨u1, hu1⟩ : ∃ x, x = (ws).drew := ⟨_, rfl⟩
        rw [← hu1]
        have hgu1 : (ws).grownBy u1 none := by rw [hu1]; exact gr_drew (World.grownBy.refl _ _)
        clear hu1
        refine tree_p rfl rfl rfl rfl _ rfl (by simp) (fun K hK => ?_)
        apply Exists.intro
        refine ⟨fun wq K' hK' => ?_, ?_⟩
        · go_wp2_with fail
          exact hK'
        go_simp
        refine hK _ ?_
        clear hK K
        refine tree_n rfl rfl _ rfl _ rfl ?_
        try go_simp
        refine tree_p rfl rfl rfl rfl _ rfl (by simp) (fun K hK => ?_)
        apply Exists.intro
        refine ⟨fun wq K' hK' => ?_, ?_⟩
        · go_wp2_with fail
          exact hK'
        go_simp
        refine hK _ ?_
        clear hK K
        refine tree_b rfl rfl rfl rfl _ rfl (by simp) (fun K hK => ?_)
        apply Exists.intro
        refine ⟨fun wq hq K' hK' => ?_, ?_⟩
        · obtain ⟨d3, dk⟩ := hq
          go_wp2_with fail
          exact hK'
        go_simp
        refine hK _ ?_
        clear hK K
        refine tree_p rfl rfl rfl rfl _ rfl (by simp) (fun K hK => ?_)
        apply Exists.intro
        refine ⟨fun wq K' hK' => ?_, ?_⟩
        · go_wp2_with fail
          exact hK'
        go_simp
        refine hK _ ?_
        clear hK K
        refine tree_p rfl rfl rfl rfl _ rfl (by simp) (fun K hK => ?_)
        apply Exists.intro
        refine ⟨fun wq K' hK' => ?_, ?_⟩
        · go_wp2_with fail
          exact hK'
        go_simp
        refine hK _ ?_
        clear hK K
        refine tree_n rfl rfl _ rfl _ rfl ?_
        try go_simp
        refine tree_p rfl rfl rfl rfl _ rfl (by simp) (fun K hK => ?_)
        apply Exists.intro
        refine ⟨fun wq K' hK' => ?_, ?_⟩
        · go_wp2_with fail
          exact hK'
        go_simp
        refine hK _ ?_
        clear hK K
        refine tree_b rfl rfl rfl rfl _ rfl (by simp) (fun K hK => ?_)
        apply Exists.intro
        refine ⟨fun wq hq K' hK' => ?_, ?_⟩
        · obtain ⟨d3, dk⟩ := hq
          go_wp2_with fail
          exact hK'
        go_simp
        refine hK _ ?_
        clear hK K
        refine tree_p rfl rfl rfl rfl _ rfl (by simp) (fun K hK => ?_)
        apply Exists.intro
        refine ⟨fun wq K' hK' => ?_, ?_⟩
        · go_wp2_with fail
          exact hK'
        go_simp
        refine hK _ ?_
        clear hK K
        refine tree_p rfl rfl rfl rfl _ rfl (by simp) (fun K hK => ?_)
        apply Exists.intro
        refine ⟨fun wq K' hK' => ?_, ?_⟩
        · go_wp2_with fail
          exact hK'
        go_simp
        refine hK _ ?_
        clear hK K
        refine tree_b rfl rfl rfl rfl _ rfl (by simp) (fun K hK => ?_)
        apply Exists.intro
        refine ⟨fun wq hq K' hK' => ?_, ?_⟩
        · obtain ⟨d3, dk⟩ := hq
          go_wp2_with fail
          exact hK'
        go_simp
        refine hK _ ?_
        clear hK K
        refine tree_p rfl rfl rfl rfl _ rfl (by simp) (fun K hK => ?_)
        apply Exists.intro
        refine ⟨fun wq K' hK' => ?_, ?_⟩
        · go_wp2_with fail
          exact hK'
        go_simp
        refine hK _ ?_
        clear hK K
        refine tree_e rfl rfl (fun K hK => ?_)
        go_wp2_with fail
        try go_simp
        refine hK _ _ (⟨(gr_alloc (gr_trans hgu1 (World.grownBy.refl _ _)) _).k hcb, (gr_alloc (gr_trans hgu1 (World.grownBy.refl _ _)) _).k hcp⟩) ?_
        clear hK K
        obtain ⟨w13, hw13⟩ : ∃ x, x = (u1).alloc (.cells [.int .i64 (n : Int)].toArray 3) := ⟨_, rfl⟩
        have hg13 : (u1).grownBy w13 none := by rw [hw13]; exact gr_alloc (World.grownBy.refl _ _) _
        have hb13 : Box w13 (u1).heap.size 3 [.int .i64 (n : Int)] := by rw [hw13]; exact Box.new _ _ _
        rw [← hw13]
        clear hw13
        have hs13 := hb13.sl (l := [(n : Int)]) (lo := 0) (row_ints _ _ [(n : Int)]) (Nat.zero_le _) (by simp [maxLen])
        have hq13 := gr_trans hgu1 hg13
        have hI13 := hide (hIs.pure hq13)
        have hO13 := hO.pure hq13
        have c13a := hq13.k hcb
        have c13b := hq13.k hcp
        have sz13 := hI13.out.sz
        refine tree_e rfl rfl (fun K hK => ?_)
        refine wp_pushAt (α := Int) _ (.tmp 109) (.tmp 111) _ rfl E.lo 3 i0 _ 8 Tryd.underlying22 hi.out hz9.out hi1.out hi2.out rfl _ _ _ q rfl rfl (by exact hO13) 0 ⟨_, 0, none⟩ 1 1 [(n : Int)] rfl rfl hs13 ?_ ?_ ?_ ?_
        · simp; omega
        · simp [maxLen]; omega
        · exact sz13
        intro A5 c5 w14 hO14 hG14
        have hG14k : Grew raws[k].A A5 w13 w14 := by rw [← hRA2.out]; exact hG14
        have hIp := hide (hI13.out.put hE hkr hO14 hG14k)
        have hkp := hide ((KeepC.pure hq13).trans ((hI13.out.keepR hkr hG14k.1).trans (KeepC.wr (gr_set (World.grownBy.refl w14 (some E.gp)) (p := ⟨E.gp, k, none⟩) (.inl rfl) (.slice A5 (q ++ [(n : Int)]).length c5)) (fun x e => by cases e; exact ⟨_, (hI13.out.rw.outer hkr hG14k).typ rfl, by decide⟩))))
        have hf14 := (hI13.out.rw.outer hkr hG14k).frozen k
        have c14b := gr_cell hG14.1 c13b hRp
        have hln1 : (q ++ [(n : Int)]).length = q.length + 1 := by simp
        rw [hln1] at hIp hkp ⊢
        replace hln1 := hide hln1
        try go_simp
        refine hK _ _ (⟨gr_cell hG14.1 c13a hRb, gr_cell hG14.1 c13b hRp⟩) ?_
        clear hK K
        refine tree_p rfl rfl rfl rfl _ rfl (by simp) (fun K hK => ?_)
        apply Exists.intro
        refine ⟨fun wq K' hK' => ?_, ?_⟩
        · go_wp2_with fail
          exact hK'
        go_simp
        refine hK _ ?_
        clear hK K
        refine tree_e0 (by kernel_rfl) rfl rfl (fun K hK => ?_)
        go_wp2_with fail
        try go_simp
        refine hK _ _ trivial ?_
        clear hK K
        refine tree_done ?_
        obtain ⟨wz, hwz⟩ : ∃ x, x = (w14).setCell ⟨E.gp, k, none⟩ (.slice A5 (q.length + 1) c5) := ⟨_, rfl⟩
        have hIz := hIp.out
        have hkz := hkp.out
        rw [← hwz] at hIz hkz ⊢
        have hbxz := hkz.box hbxs
        replace hkz := hks.trans hkz
        rw [← hfl2.out] at hIz
        have hIH := hide (hpn2.out wz (hIQ2.out _ _ _ hIz))
        clear hwz hIp hkp hIz hf14 c14b hG14 hG14k hO14 hO13 hI13 c13a c13b hs13 hb13 hg13 hq13 hIs hO hcb hcp hks hbxs
        obtain ⟨z0, -⟩ := hbxz.c 0 rfl
        obtain ⟨z1, -⟩ := hbxz.c 1 rfl
        go_wp2_with fail
        refine hIH.out.mono ?_
        rintro e w17 ⟨rfl, ⟨b'', hBb, hIQn⟩, hk17⟩
        replace hkz := hkz.trans hk17
        have hB3 := hide (hB2.out b'' hBb)
        clear hIH z0 z1 hbxz hpn2 hB2 hBb hk17
        obtain ⟨raws2, B2, d2, rB2, R2, l2, s2, hd2, hS2, hI2⟩ := hIQn
        have hIQ3 := hide fun w' raws' (h : InvP E w' Q Q.flatten raws' B2 d2 rB2 R2 (.slice B2 R2.length d2) l2 s2) => (⟨raws', B2, d2, rB2, R2, l2, s2, hd2, hS2, h⟩ : InvQ E w' Q b'')
        have hkq2 : k < (Q.set k (q ++ [(n : Int)])).length := by rw [List.length_set]; exact hkq
        have hkr2 : k < raws2.length := by rw [hI2.rw.len]; exact hkq2
        obtain ⟨hln2, hO2⟩ := hI2.rw.ins k hkr2 hkq2
        rw [List.getElem_set_self] at hln2 hO2
        rw [hln1.out] at hln2
        obtain ⟨g2, hA2, -, -⟩ := hO2.shape (by simp)
        have hcap2 := hO2.cap
        rw [hln1.out] at hcap2
        have hc2 := hI2.rw.cell hkr2
        rw [hA2, hln2] at hc2
        rw [hfl2.out] at hI2
        have hO2c : Own w17 E.lo 3 (some ⟨g2, 0, none⟩) raws2[k].c q := by
          rw [hA2] at hO2
          have h1 := hO2.cut (m := q.length) (by simp)
          rw [List.take_left'] at h1
          · exact h1
          · rfl
        have hPut := hide fun wx (h : w17.grownBy wx none) => (hI2.pure h).put hE hkr2 (hO2c.pure h) ⟨World.grownBy.refl wx _, .inl (by rw [hA2])⟩
        have hkP := hide fun wx (h : w17.grownBy wx none) => (KeepC.pure h).trans ((hI2.pure h).keepP k (.slice (some ⟨g2, 0, none⟩) q.length raws2[k].c))
        have hFr := hide fun wx (h : w17.grownBy wx none) => (hI2.pure h).rw.out.frozen k
        rw [hback.out] at hPut
        obtain ⟨RC2, hRC2⟩ : ∃ x, x = raws2[k].c := ⟨_, rfl⟩
        rw [← hRC2] at hPut hkP hc2 hcap2
        clear hRC2 hO2c hO2 hln2 hd2 hS2
        generalize raws2.set k ⟨some ⟨g2, 0, none⟩, q.length, RC2⟩ = raws3 at *
        go_upto_region 18 with fail
        refine wp_region_tree (fun wx => w17.grownBy wx none) [2, 2, 2, 1, 2, 2, 2, 2, 1, 2, 2, 1, 2, 2, 2, 1, 2, 2, 1, 2, 2, 2, 2, 0] (.bl 0 (.bl 1 (.bl 2 (.bl 3 (.bl 4 (.bl 5 (.bl 6 (.bl 7 (.bl 8 (.bl 9 (.bl 10 (.bl 11 (.bl 12 (.bl 13 (.bl 14 (.bl 15 (.bl 16 (.bl 17 (.bl 18 (.bl 19 (.bl 20 (.bl 21 (.bl 22 (.ef 23 .done)))))))))))))))))))))))) (by kernel_rfl) (by kernel_rfl) (gr_drew (World.grownBy.refl _ _)) ?_
        obtain ⟨u2, hu2⟩ : ∃ x, x = (w17).drew := ⟨_, rfl⟩
        rw [← hu2]
        have hgu2 : (w17).grownBy u2 none := by rw [hu2]; exact gr_drew (World.grownBy.refl _ _)
        clear hu2
        refine tree_p rfl rfl rfl rfl _ rfl (by simp) (fun K hK => ?_)
        apply Exists.intro
        refine ⟨fun wq K' hK' => ?_, ?_⟩
        · go_wp2_with fail
          exact hK'
        go_simp
        refine hK _ ?_
        clear hK K
        refine tree_n rfl rfl _ rfl _ rfl ?_
        try go_simp
        refine tree_p rfl rfl rfl rfl _ rfl (by simp) (fun K hK => ?_)
        apply Exists.intro
        refine ⟨fun wq K' hK' => ?_, ?_⟩
        · go_wp2_with fail
          exact hK'
        go_simp
        refine hK _ ?_
        clear hK K
        refine tree_b rfl rfl rfl rfl _ rfl (by simp) (fun K hK => ?_)
        apply Exists.intro
        refine ⟨fun wq hq K' hK' => ?_, ?_⟩
        · obtain ⟨d3, -⟩ := (hI2.pure hq).bx.c 3 rfl
          have dk := hq.k hc2
          go_wp2_with fail
          exact hK'
        go_simp
        refine hK _ ?_
        clear hK K
        refine tree_p rfl rfl rfl rfl _ rfl (by simp) (fun K hK => ?_)
        apply Exists.intro
        refine ⟨fun wq K' hK' => ?_, ?_⟩
        · go_wp2_with fail
          exact hK'
        go_simp
        refine hK _ ?_
        clear hK K
        refine tree_p rfl rfl rfl rfl _ rfl (by simp) (fun K hK => ?_)
        apply Exists.intro
        refine ⟨fun wq K' hK' => ?_, ?_⟩
        · go_wp2_with fail
          exact hK'
        go_simp
        refine hK _ ?_
        clear hK K
        refine tree_n rfl rfl _ rfl _ rfl ?_
        try go_simp
        refine tree_p rfl rfl rfl rfl _ rfl (by simp) (fun K hK => ?_)
        apply Exists.intro
        refine ⟨fun wq K' hK' => ?_, ?_⟩
        · go_wp2_with fail
          exact hK'
        go_simp
        refine hK _ ?_
        clear hK K
        refine tree_b rfl rfl rfl rfl _ rfl (by simp) (fun K hK => ?_)
        apply Exists.intro
        refine ⟨fun wq hq K' hK' => ?_, ?_⟩
        · obtain ⟨d3, -⟩ := (hI2.pure hq).bx.c 3 rfl
          have dk := hq.k hc2
          go_wp2_with fail
          exact hK'
        go_simp
        refine hK _ ?_
        clear hK K
        refine tree_p rfl rfl rfl rfl _ rfl (by simp) (fun K hK => ?_)
        apply Exists.intro
        refine ⟨fun wq K' hK' => ?_, ?_⟩
        · go_wp2_with fail
          exact hK'
        go_simp
        refine hK _ ?_
        clear hK K
        refine tree_p rfl rfl rfl rfl _ rfl (by simp) (fun K hK => ?_)
        apply Exists.intro
        refine ⟨fun wq K' hK' => ?_, ?_⟩
        · go_wp2_with fail
          exact hK'
        go_simp
        refine hK _ ?_
        clear hK K
        refine tree_b rfl rfl rfl rfl _ rfl (by simp) (fun K hK => ?_)
        apply Exists.intro
        refine ⟨fun wq hq K' hK' => ?_, ?_⟩
        · obtain ⟨d3, -⟩ := (hI2.pure hq).bx.c 3 rfl
          have dk := hq.k hc2
          go_wp2_with fail
          exact hK'
        go_simp
        refine hK _ ?_
        clear hK K
        refine tree_p rfl rfl rfl rfl _ rfl (by simp) (fun K hK => ?_)
        apply Exists.intro
        refine ⟨fun wq K' hK' => ?_, ?_⟩
        · go_wp2_with fail
          exact hK'
        go_simp
        refine hK _ ?_
        clear hK K
        refine tree_n rfl rfl _ rfl _ rfl ?_
        try go_simp
        refine tree_p rfl rfl rfl rfl _ rfl (by simp) (fun K hK => ?_)
        apply Exists.intro
        refine ⟨fun wq K' hK' => ?_, ?_⟩
        · go_wp2_with fail
          exact hK'
        go_simp
        refine hK _ ?_
        clear hK K
        refine tree_b rfl rfl rfl rfl _ rfl (by simp) (fun K hK => ?_)
        apply Exists.intro
        refine ⟨fun wq hq K' hK' => ?_, ?_⟩
        · obtain ⟨d3, -⟩ := (hI2.pure hq).bx.c 3 rfl
          have dk := hq.k hc2
          go_wp2_with fail
          exact hK'
        go_simp
        refine hK _ ?_
        clear hK K
        refine tree_p rfl rfl rfl rfl _ rfl (by simp) (fun K hK => ?_)
        apply Exists.intro
        refine ⟨fun wq K' hK' => ?_, ?_⟩
        · go_wp2_with fail
          exact hK'
        go_simp
        refine hK _ ?_
        clear hK K
        refine tree_p rfl rfl rfl rfl _ rfl (by simp) (fun K hK => ?_)
        apply Exists.intro
        refine ⟨fun wq K' hK' => ?_, ?_⟩
        · go_wp2_with fail
          exact hK'
        go_simp
        refine hK _ ?_
        clear hK K
        refine tree_b rfl rfl rfl rfl _ rfl (by simp) (fun K hK => ?_)
        apply Exists.intro
        refine ⟨fun wq hq K' hK' => ?_, ?_⟩
        · obtain ⟨d3, -⟩ := (hI2.pure hq).bx.c 3 rfl
          have dk := hq.k hc2
          go_wp2_with fail
          exact hK'
        go_simp
        refine hK _ ?_
        clear hK K
        refine tree_p rfl rfl rfl rfl _ rfl (by simp) (fun K hK => ?_)
        apply Exists.intro
        refine ⟨fun wq K' hK' => ?_, ?_⟩
        · go_wp2_with fail
          exact hK'
        go_simp
        refine hK _ ?_
        clear hK K
        refine tree_p rfl rfl rfl rfl _ rfl (by simp) (fun K hK => ?_)
        apply Exists.intro
        refine ⟨fun wq K' hK' => ?_, ?_⟩
        · go_wp2_with fail
          exact hK'
        go_simp
        refine hK _ ?_
        clear hK K
        refine tree_p rfl rfl rfl rfl _ rfl (by simp) (fun K hK => ?_)
        apply Exists.intro
        refine ⟨fun wq K' hK' => ?_, ?_⟩
        · go_wp2_with fail
          exact hK'
        go_simp
        refine hK _ ?_
        clear hK K
        refine tree_p rfl rfl rfl rfl _ rfl (by simp) (fun K hK => ?_)
        apply Exists.intro
        refine ⟨fun wq K' hK' => ?_, ?_⟩
        · go_wp2_with fail
          exact hK'
        go_simp
        refine hK _ ?_
        clear hK K
        refine tree_e0 (by kernel_rfl) rfl rfl (fun K hK => ?_)
        have hf23 := hFr.out u2 hgu2
        have dk := hgu2.k hc2
        go_wp2_with fail
        try go_simp
        refine hK _ _ trivial ?_
        clear hK K
        refine tree_done ?_
        have hI18 := hPut.out u2 hgu2
        have hk18 := hkz.trans (hkP.out u2 hgu2)
        obtain ⟨w18, hw18⟩ : ∃ x, x = u2.setCell ⟨E.gp, k, none⟩ (.slice (some ⟨g2, 0, none⟩) q.length RC2) := ⟨_, rfl⟩
        rw [← hw18] at hI18 hk18 ⊢
        clear hw18 hPut hkP hFr hI2 hgu2 hc2 hf23 dk
        have hcu19 := hI18.ucell hlt
        have hfu19 := hI18.us.frozen n
        obtain ⟨b4, -⟩ := hI18.bx.c 4 rfl
        have hI19 := hIQ3.out _ _ (hI18.setU hE (v := false) (T' := Q.flatten) hlt hbk.out)
        have hk19 := hk18.trans (hI18.keepU n (.bool false))
        generalize memI (Q.flatten ++ [(n : Int)]) (n : Int) = vv at hcu19
        clear hI18 hk18 hkz
        replace hI19 := hide hI19
        replace hk19 := hide hk19
        go_wp2_with fail
        (go_roundw; (case rel => exact ⟨n + 1, b'', by omega, by go_num, hB3, hI19.out, hk19.out⟩); (case measure => simp [intOf]; omega))
      · rw [hmem] at hcu15
        have hB2 : Hid (Bst E.p E.j E.ch (SOn E k Q (n + 1)) bo b') := hB.out.of (SOn_in hmem)
        have hIQ3 := hIQ2.out _ _ _ hI15
        go_wp2_with fail
        (go_roundw; (case rel => exact ⟨n + 1, b', by omega, by go_num, hB2, hIQ3, hk15⟩); (case measure => simp [intOf]; omega))
    · obtain rfl : n = E.j.length := by omega
      obtain ⟨raws, B, d, rB, R, l, s, hd, hS, hI⟩ := hIQ
      have hIQ2 : InvQ E wr Q b' := ⟨raws, B, d, rB, R, l, s, hd, hS, hI⟩
      obtain ⟨b0, -⟩ := hI.bx.c 0 rfl
      clear hd hS hb8w
      by_cases hk1 : k + 1 < E.p.length
      · have hIH := hide (hnext.out hk1 b' wr hIQ2)
        obtain ⟨ga, oa, cx, eP, _, hb2, rfl, hc2⟩ := (hP.pure hI.gr).at_ (by decide) hk1
        have e0 : wr.cell? ⟨ga, oa + (k + 1) * 2, none⟩ = some (.string E.p[k + 1].key) := hc2 0 _ rfl
        have e1 : wr.cell? ⟨ga, oa + (k + 1) * 2 + 1, none⟩ = some (.string E.p[k + 1].mat) := hc2 1 _ rfl
        clear hc2 hI
        rw [eP] at b0
        have hk2 : (0 : Int) ≤ (k : Int) ∧ (k : Int) + 1 < (E.p.length : Int) := by omega
        generalize E.p[k + 1] = pp at *
        go_wp2_with fail
        refine hIH.out.mono ?_
        rintro e w9 ⟨rfl, ⟨b'', hBb, hIQn⟩, hk9⟩
        have hBf : Hid (Bst E.p E.j E.ch (fun X => SOn E k Q E.j.length X ∨ (k + 1 < E.p.length ∧ Comp E.p.length E.j.length (k + 1) Q X)) bo b'') := (hB.out.join hBb).of (fun X => ⟨fun h => h.imp id fun h => h.2, fun h => h.imp id fun h => ⟨hk1, h⟩⟩)
        go_wp2_with fail
        go_end0
        exact ⟨rfl, ⟨b'', hBf.out, hIQn⟩, hk8.trans (hkc.trans hk9)⟩
      · have hBf : Hid (Bst E.p E.j E.ch (fun X => SOn E k Q E.j.length X ∨ (k + 1 < E.p.length ∧ Comp E.p.length E.j.length (k + 1) Q X)) bo b') := hB.out.of (fun X => ⟨fun h => h.resolve_right fun h => hk1 h.1, .inl⟩)
        have hk2 : ¬ ((k : Int) + 1 < (E.p.length : Int)) := by omega
        clear hI
        go_wp2_with fail
        go_end0
        first
        | exact ⟨rfl, ⟨b', hBf.out, hIQ2⟩, hk8.trans hkc⟩
        | exact ⟨rfl, ⟨b', hB.out, hIQ2⟩, hk8.trans hkc⟩

end Go.Proofs.YtanioobepfllgaaDoor

namespace Go.Proofs.YtanioobepfllgaaDoor
open Go Go.RowKit Go.Bl

/-! ### bounds -/

theorem rowC_bd2 {j : List Jb} {ch : Int} (h : JOk j ch) : ∀ (row : List Int) (_ : ∀ i ∈ row, 0 ≤ i ∧ i < (j.length : Int)) (c : Int × ByteArray) (N : Int) (_ : 0 ≤ c.1 ∧ c.1 ≤ N), (∀ q ∈ rowC j ch c row, 0 ≤ q.2 ∧ q.2 ≤ N + 200000 * row.length) ∧ 0 ≤ ((rowC j ch c row).map (·.2)).sum ∧ ((rowC j ch c row).map (·.2)).sum ≤ row.length * (N + 200000 * row.length)
  | [], _, c, N, hc => by simp [rowC]
  | i :: r, hr, c, N, hc => by
    have h1 := doC_bd h (hr i (by simp)) hc
    obtain ⟨h2, h3, h4⟩ := rowC_bd2 h r (fun k hk => hr k (by simp [hk])) (doC c (jobAt j i) ch) (N + 200000) h1
    have e : N + 200000 + 200000 * (r.length : Int) = N + 200000 * ((i :: r).length : Int) := by rw [List.length_cons]; push_cast; omega
    rw [e] at h2 h4
    rw [show rowC j ch c (i :: r) = (i, (doC c (jobAt j i) ch).1) :: rowC j ch (doC c (jobAt j i) ch) r from rfl]
    have e2 : ((i :: r).length : Int) * (N + 200000 * ((i :: r).length : Int)) = (r.length : Int) * (N + 200000 * ((i :: r).length : Int)) + (N + 200000 * ((i :: r).length : Int)) := by
      rw [show ((i :: r).length : Int) = (r.length : Int) + 1 by simp, Int.add_mul, Int.one_mul]
    have e3 : (0 : Int) ≤ (r.length : Int) := by omega
    have e4 : ((i :: r).length : Int) = (r.length : Int) + 1 := by simp
    refine ⟨fun q hq => ?_, ?_, ?_⟩
    · rcases List.mem_cons.1 hq with rfl | hq
      · simp only; omega
      · exact h2 q hq
    · rw [List.map_cons, List.sum_cons]; simp only; omega
    · rw [List.map_cons, List.sum_cons, e2]
      have : (doC c (jobAt j i) ch).1 ≤ N + 200000 * ((i :: r).length : Int) := by omega
      simp only
      omega

theorem last_bd {M : Int} (hM : 0 ≤ M) : ∀ (L : List (Int × Int)), (∀ q ∈ L, q.2 ≤ M) → lastO L ≤ M
  | [], _ => hM
  | q :: L, h => by
    rw [lastO_cons]
    have h1 := h q (by simp)
    have h2 := last_bd hM L (fun x hx => h x (by simp [hx]))
    omega

theorem few_rows {n : Nat} {Q : List (List Int)} (h : IsP n Q.flatten) : Q.flatten.length ≤ n := by
  have h2 := h.nd.length_le_of_subset (l₂ := (List.range n).map fun i : Nat => (i : Int)) (fun x hx => by
    have hb := h.bd x hx
    obtain ⟨q, rfl⟩ := Int.eq_ofNat_of_zero_le hb.1
    exact List.mem_map.2 ⟨q, List.mem_range.2 (by omega), rfl⟩)
  simpa using h2

theorem row7 {n : Nat} {Q : List (List Int)} (h : IsP n Q.flatten) (h7 : n ≤ 7) (k : Nat) : (Q.getD k []).length ≤ 7 ∧ ∀ i ∈ Q.getD k [], 0 ≤ i ∧ i < (n : Int) := by
  by_cases hk : k < Q.length
  · rw [show Q.getD k [] = Q[k] by simp [List.getD_eq_getElem?_getD, hk]]
    exact ⟨Nat.le_trans (Nat.le_trans (row_len hk) (few_rows h)) h7, fun i hi => h.bd i (row_in hk i hi)⟩
  · rw [show Q.getD k [] = [] by simp [List.getD_eq_getElem?_getD, List.getElem?_eq_none (by omega : Q.length ≤ k)]]
    simp

theorem prs_bd {p : List Prn} {j : List Jb} {ch : Int} (hok : JOk j ch) (h7 : j.length ≤ 7) {Q : List (List Int)} (h : IsP j.length Q.flatten) : ∀ k, (∀ q ∈ pairsK p j Q ch k, q.2 ≤ 1400000) ∧ 0 ≤ ((pairsK p j Q ch k).map (·.2)).sum ∧ ((pairsK p j Q ch k).map (·.2)).sum ≤ k * 9800000
  | 0 => by simp [pairsK]
  | k + 1 => by
    obtain ⟨h1, h2, h3⟩ := prs_bd hok h7 h k
    obtain ⟨r1, r2⟩ := row7 h h7 k
    obtain ⟨c1, c2, c3⟩ := rowC_bd2 hok (Q.getD k []) r2 (0, (p.getD k default).mat) 0 (by simp)
    rw [pairsK_succ]
    have e : ((Q.getD k []).length : Int) * (0 + 200000 * ((Q.getD k []).length : Int)) ≤ 7 * 1400000 := Int.mul_le_mul (by omega) (by omega) (by omega) (by omega)
    unfold rowP
    refine ⟨fun q hq => ?_, ?_, ?_⟩
    · rcases List.mem_append.1 hq with hq | hq
      · exact h1 q hq
      · have := (c1 q hq).2
        omega
    · rw [List.map_append, List.sum_append]; omega
    · rw [List.map_append, List.sum_append]; push_cast; omega

theorem try_any {E : PEnv} (hE : E.Ok) (hok : JOk E.j E.ch) (hj7 : E.j.length ≤ 7) (hp4 : 0 < E.p.length ∧ E.p.length ≤ 4) (hJ : Sl E.w0 0 E.J E.j) (hP : Sl E.w0 0 E.P E.p) :
    ∀ (d k : Nat) (Q : List (List Int)) (bo : Option (List (List Int))) (w : World), (E.j.length - Q.flatten.length) * (E.p.length + 1) + (E.p.length - k) ≤ d → Part E.p.length E.j.length k Q → InvQ E w Q bo →
      Calls Tryd.prog 30 #[.pointer (some ⟨E.gb, 0, none⟩), .int .i64 k, .agg #[.int .i64 (clkR E.p E.j E.ch k Q).1, .string (clkR E.p E.j E.ch k Q).2], .int .i64 ((E.j.length : Int) - (Q.flatten.length : Int)), .int .i64 (lstP E.p E.j E.ch Q), .int .i64 (sumP E.p E.j E.ch Q)] w (TryR E (Comp E.p.length E.j.length k Q) Q bo w) := by
  intro d
  induction d with
  | zero =>
    intro k Q bo w hd hPt _
    have := hPt.km
    omega
  | succ d ih =>
    intro k Q bo w hd hPt hIQ
    have hkm := hPt.km
    have hfl := few_rows hPt.isp
    obtain ⟨raws, B, dd, rB, R, l, s, hdd, hS, hI⟩ := hIQ
    have hIQ : InvQ E w Q bo := ⟨raws, B, dd, rB, R, l, s, hdd, hS, hI⟩
    by_cases hcut : ∃ X, bo = some X ∧ l < lstP E.p E.j E.ch Q
    · obtain ⟨X, rfl, hl⟩ := hcut
      refine (tryCut_any hI hS k ((E.j.length : Int) - (Q.flatten.length : Int)) (lstP E.p E.j E.ch Q) (sumP E.p E.j E.ch Q) (clkR E.p E.j E.ch k Q).1 (clkR E.p E.j E.ch k Q).2 hl).mono ?_
      rintro e w' ⟨rfl, hg⟩
      refine ⟨rfl, ⟨some X, Bst.prune fun Y hY => ?_, ?_⟩, KeepC.pure hg⟩
      · have h1 := comp_last (j := E.j) (ch := E.ch) hPt hY
        obtain ⟨-, -, -, rfl, -⟩ := hS
        omega
      · exact ⟨raws, B, dd, rB, R, l, s, hdd, hS, hI.pure hg⟩
    · have hl : ∀ X, bo = some X → lstP E.p E.j E.ch Q ≤ l := fun X hX => by
        rcases Int.lt_or_le l (lstP E.p E.j E.ch Q) with h | h
        · exact absurd ⟨X, hX, h⟩ hcut
        · exact h
      by_cases hleaf : Q.flatten.length = E.j.length
      · have h := tryLeaf_any hE hp4 hI hS hdd (k : Int) (lstP E.p E.j E.ch Q) (sumP E.p E.j E.ch Q) (clkR E.p E.j E.ch k Q).1 (clkR E.p E.j E.ch k Q).2 hl hPt.len (fun i hi => by
          have := (row7 hPt.isp hj7 i).1
          rwa [show Q.getD i [] = Q[i] by simp [List.getD_eq_getElem?_getD, hi]] at this) rfl rfl
        rw [show (E.j.length : Int) - (Q.flatten.length : Int) = 0 by omega]
        refine h.mono ?_
        rintro e w' ⟨rfl, hQ', hk'⟩
        refine ⟨rfl, ⟨_, ?_, hQ'⟩, hk'⟩
        have hb := Bst.leaf (p := E.p) (j := E.j) (ch := E.ch) (P := Q) (b := bo) (fun X => comp_leaf (Q := X) hPt hleaf)
        cases bo with
        | none => exact hb
        | some X =>
          obtain ⟨-, -, -, rfl, rfl⟩ := hS
          exact hb
      · have hlt : Q.flatten.length < E.j.length := by omega
        obtain ⟨r1, r2⟩ := row7 hPt.isp hj7 k
        have hcb := clkC_bd hok (Q.getD k []) r2 (0, (E.p.getD k default).mat) (N := 0) (by simp)
        obtain ⟨q1, q2, q3⟩ := prs_bd (p := E.p) hok hj7 hPt.isp E.p.length
        have hla : 0 ≤ lstP E.p E.j E.ch Q ∧ lstP E.p E.j E.ch Q ≤ 1400000 := ⟨lastO_nn _, last_bd (by omega) _ q1⟩
        have hsu : 0 ≤ sumP E.p E.j E.ch Q ∧ sumP E.p E.j E.ch Q ≤ 39200000 := ⟨q2, by unfold sumP prsA; omega⟩
        refine (tryNode_any hE hok hj7 hp4.2 hJ hP hI hS hdd k ((E.j.length : Int) - (Q.flatten.length : Int)) (lstP E.p E.j E.ch Q) (sumP E.p E.j E.ch Q) (clkR E.p E.j E.ch k Q).1 (clkR E.p E.j E.ch k Q).2 hl hPt (by omega) (by unfold clkR; omega) (by omega) (by omega) ?_ ?_).mono ?_
        · intro i b' w' hi hm hQ'
          have hpf := hPt.push_flat (i : Int)
          have hlen : (Q.set k (Q.getD k [] ++ [(i : Int)])).flatten.length = Q.flatten.length + 1 := by rw [hpf, List.length_append]; rfl
          have hms : (E.j.length - (Q.set k (Q.getD k [] ++ [(i : Int)])).flatten.length) * (E.p.length + 1) + (E.p.length - k) ≤ d := by
            rw [hlen]
            have e : E.j.length - Q.flatten.length = (E.j.length - (Q.flatten.length + 1)) + 1 := by omega
            rw [e, Nat.succ_mul] at hd
            omega
          have h := ih k _ b' w' hms (hPt.push hi hm) hQ'
          have e1 : clkR E.p E.j E.ch k (Q.set k (Q.getD k [] ++ [(i : Int)])) = doC ((clkR E.p E.j E.ch k Q).1, (clkR E.p E.j E.ch k Q).2) E.j[i] E.ch := by rw [hPt.clk_push, jobAt_nat hi]
          have e2 : lstP E.p E.j E.ch (Q.set k (Q.getD k [] ++ [(i : Int)])) = max (lstP E.p E.j E.ch Q) (doC ((clkR E.p E.j E.ch k Q).1, (clkR E.p E.j E.ch k Q).2) E.j[i] E.ch).1 := by
            unfold lstP
            rw [hPt.prs_push hi hm, lastO_snoc, jobAt_nat hi]
          have e3 : sumP E.p E.j E.ch (Q.set k (Q.getD k [] ++ [(i : Int)])) = sumP E.p E.j E.ch Q + (doC ((clkR E.p E.j E.ch k Q).1, (clkR E.p E.j E.ch k Q).2) E.j[i] E.ch).1 := by
            unfold sumP
            rw [hPt.prs_push hi hm, List.map_append, List.sum_append, jobAt_nat hi]
            simp
          rw [e1, e2, e3, hlen] at h
          rw [show (E.j.length : Int) - (Q.flatten.length : Int) - 1 = (E.j.length : Int) - ((Q.flatten.length + 1 : Nat) : Int) by push_cast; omega]
          exact h
        · intro hk1 b' w' hQ'
          obtain ⟨hP1, he⟩ := hPt.next hk1
          have h := ih (k + 1) Q b' w' (by omega) hP1 hQ'
          have e1 : clkR E.p E.j E.ch (k + 1) Q = (0, E.p[k + 1].mat) := by
            unfold clkR
            rw [he]
            simp [clkC, List.getD_eq_getElem?_getD, hk1]
          rw [e1] at h
          exact h
        · rintro e w' ⟨rfl, ⟨b', hB, hQ'⟩, hk'⟩
          refine ⟨rfl, ⟨b', hB.of fun X => ?_, hQ'⟩, hk'⟩
          constructor
          · intro hX
            rcases comp_node hPt hlt hX with ⟨h1, h2⟩ | ⟨i, h1, h2, h3⟩
            · exact .inr ⟨h1, h2⟩
            · exact .inl ⟨i, h1, h2, h3⟩
          · rintro (⟨i, h1, h2, h3⟩ | ⟨h1, h2⟩)
            · exact comp_push hPt h3
            · exact comp_next hPt h2

/-! ### farm.Earliest -/

def EarR (p : List Prn) (j : List Jb) (ch : Int) (w : World) (e : Ending) (w' : World) : Prop :=
  ∃ B d rB R, e = .returned (.tuple #[.slice B R.length d, .int .i64 (lstP p j ch R), .int .i64 0]) ∧ BestP p j ch R ∧ R.length ≤ d ∧ RowsN w' w.heap.size w.heap.size 22 3 B d rB R ∧ w.grownBy w' none

theorem RowsN.low2 {w : World} {lo li lo' : Nat} {eo ei : TypeId} {A : Option Addr} {c : Nat} {raws : List RawS} {ls : List (List Int)} (h : RowsN w lo li eo ei A c raws ls) (h1 : lo' ≤ lo) : RowsN w lo' lo' eo ei A c raws ls :=
  ⟨h.out.lower h1, h.len, fun i a b => ⟨(h.ins i a b).1, (h.ins i a b).2.lower (Nat.le_trans h1 h.le)⟩, h.dis, h.typ, Nat.le_refl _⟩

set_option maxHeartbeats 4000000 in
set_option maxRecDepth 100000 in
theorem earliest_any (P : Option Addr) (cp : Nat) (p : List Prn) (J : Option Addr) (cj : Nat) (j : List Jb) (ch : Int) (w : World) (hP : Sl w 0 P p) (hJ : Sl w 0 J j) (hF : farmF p j = 0) (hc : spanF ch 0 100000 = 0) (hj7 : j.length ≤ 7) (hp4 : p.length ≤ 4) :
    Calls Tryd.prog 11 #[.slice P p.length cp, .slice J j.length cj, .int .i64 ch] w (EarR p j ch w) := by
  have hp0 := (farm_plen hF).1
  have hok := jok_of hF hc
  have hout : outB ch 0 100000 = false := by
    rw [spanF_outB] at hc
    rcases h : outB ch 0 100000 with _ | _
    · rfl
    · rw [h] at hc; cases hc
  have hf := hide (fault_any P cp p J cj j w hP hJ)
  rw [hF] at hf
  have hlj : decide ((j.length : Int) > 7) = false := by rw [decide_eq_false_iff_not]; omega
  have hlp : decide ((p.length : Int) > 4) = false := by rw [decide_eq_false_iff_not]; omega
  clear hc hF
  replace hok := hide hok
  go_enter Tryd.func11, Tryd.ntmps11
  go_wp2_with fail
  refine hf.out.mono ?_
  rintro e w1 ⟨rfl, hg1⟩
  clear hf
  go_upto_region 8 with (go_at_call 29; refine (isChange_any _ _).mono ?_; rintro _ _ ⟨rfl, rfl⟩; rw [hout])
  clear hlj hlp hout
  obtain ⟨i0, hi, hz, hi1, hi2⟩ := info_parts info_intsR
  obtain ⟨i9, hi9, hz9, hi19, hi29⟩ := info_parts info_boolF
  have hmkP := hide (fun V => run_makeOwn (P := Tryd.prog) V 36 22 i0 _ (⟨none, 0, 0⟩ : RawS) Tryd.underlying36 hi hz hi1 rfl rfl .i64 .i64 p.length (by rw [hi2]; omega) (by simp [maxLen]; omega))
  have hmkU := hide (fun V => run_makeOwn (P := Tryd.prog) V 65 4 i9 _ false Tryd.underlying65 hi9 hz9 hi19 rfl rfl .i64 .i64 j.length (by rw [hi29]; omega) (by simp [maxLen]; omega))
  clear hi hz hi1 hi2 hi9 hz9 hi19 hi29
  go_cut [10] from 28 to 38 (fun s10 wx => ∃ gb gp gs, s10 = .pointer (some ⟨gb, 0, none⟩) ∧ w1.grownBy wx none ∧ w1.heap.size ≤ gb ∧ w1.heap.size ≤ gp ∧ w1.heap.size ≤ gs ∧ Box wx gb 67 [.slice P p.length cp, .slice J j.length cj, .int .i64 ch, .slice (some ⟨gp, 0, none⟩) p.length p.length, .slice (some ⟨gs, 0, none⟩) j.length j.length, .slice none 0 0, .int .i64 0, .int .i64 0] ∧
    Own wx w1.heap.size 22 (some ⟨gp, 0, none⟩) p.length (List.replicate p.length (⟨none, 0, 0⟩ : RawS)) ∧ Own wx w1.heap.size 4 (some ⟨gs, 0, none⟩) j.length (List.replicate j.length false))
  case first =>
    refine wp_region_tree (fun wx => w1.grownBy wx none) [2, 2, 2, 2, 2, 0, 2, 2, 0, 2, 0, 2] (.bl 0 (.bl 1 (.bl 2 (.bl 3 (.bl 4 (.bl 6 (.bl 7 (.alt (.ef 5 (.ef 8 (.bl 9 (.ef 10 (.bl 11 .done))))) (.ef 8 (.ef 5 (.bl 9 (.ef 10 (.bl 11 .done))))))))))))) (by kernel_rfl) (by kernel_rfl) (gr_drew (World.grownBy.refl _ _)) ?_
    obtain ⟨u0, hu0⟩ : ∃ x, x = (w1).drew := ⟨_, rfl⟩
    rw [← hu0]
    have hgu0 : (w1).grownBy u0 none := by rw [hu0]; exact gr_drew (World.grownBy.refl _ _)
    clear hu0
    refine tree_p rfl rfl rfl rfl _ rfl (by simp) (fun K hK => ?_)
    apply Exists.intro
    refine ⟨fun wq K' hK' => ?_, ?_⟩
    · go_wp2_with fail
      exact hK'
    go_simp
    refine hK _ ?_
    clear hK K
    refine tree_p rfl rfl rfl rfl _ rfl (by simp) (fun K hK => ?_)
    apply Exists.intro
    refine ⟨fun wq K' hK' => ?_, ?_⟩
    · go_wp2_with fail
      exact hK'
    go_simp
    refine hK _ ?_
    clear hK K
    refine tree_p rfl rfl rfl rfl _ rfl (by simp) (fun K hK => ?_)
    apply Exists.intro
    refine ⟨fun wq K' hK' => ?_, ?_⟩
    · go_wp2_with fail
      exact hK'
    go_simp
    refine hK _ ?_
    clear hK K
    refine tree_p rfl rfl rfl rfl _ rfl (by simp) (fun K hK => ?_)
    apply Exists.intro
    refine ⟨fun wq K' hK' => ?_, ?_⟩
    · go_wp2_with fail
      exact hK'
    go_simp
    refine hK _ ?_
    clear hK K
    refine tree_p rfl rfl rfl rfl _ rfl (by simp) (fun K hK => ?_)
    apply Exists.intro
    refine ⟨fun wq K' hK' => ?_, ?_⟩
    · go_wp2_with fail
      exact hK'
    go_simp
    refine hK _ ?_
    clear hK K
    refine tree_p rfl rfl rfl rfl _ rfl (by simp) (fun K hK => ?_)
    apply Exists.intro
    refine ⟨fun wq K' hK' => ?_, ?_⟩
    · go_wp2_with fail
      exact hK'
    go_simp
    refine hK _ ?_
    clear hK K
    refine tree_p rfl rfl rfl rfl _ rfl (by simp) (fun K hK => ?_)
    apply Exists.intro
    refine ⟨fun wq K' hK' => ?_, ?_⟩
    · go_wp2_with fail
      exact hK'
    go_simp
    refine hK _ ?_
    clear hK K
    refine tree_alt ?_ ?_
    · refine tree_e0 (by kernel_rfl) rfl rfl (fun K hK => ?_)
      obtain ⟨w5, hrun, hoO, hg5⟩ := hmkP.out u0
      obtain ⟨qq, hqq⟩ : ∃ x, x = (u0).heap.size := ⟨_, rfl⟩
      rw [← hqq] at hrun hoO
      have hqs : (u0).heap.size ≤ qq := by omega
      replace hqq := hide hqq
      go_wp2_with fail
      clear hrun
      try go_simp
      refine hK _ _ trivial ?_
      clear hK K
      refine tree_e0 (by kernel_rfl) rfl rfl (fun K hK => ?_)
      obtain ⟨w8, hrun8, hoU, hg8⟩ := hmkU.out w5
      obtain ⟨qu, hqu⟩ : ∃ x, x = (w5).heap.size := ⟨_, rfl⟩
      rw [← hqu] at hrun8 hoU
      have hus : (w5).heap.size ≤ qu := by omega
      replace hqu := hide hqu
      go_wp2_with fail
      clear hrun8
      try go_simp
      refine hK _ _ trivial ?_
      clear hK K
      refine tree_p rfl rfl rfl rfl _ rfl (by simp) (fun K hK => ?_)
      apply Exists.intro
      refine ⟨fun wq K' hK' => ?_, ?_⟩
      · go_wp2_with fail
        exact hK'
      go_simp
      refine hK _ ?_
      clear hK K
      refine tree_e0 (by kernel_rfl) rfl rfl (fun K hK => ?_)
      go_wp2_with fail
      try go_simp
      refine hK _ _ trivial ?_
      clear hK K
      obtain ⟨w10, hw10⟩ : ∃ x, x = (w8).alloc (.cells [.slice P p.length cp, .slice J j.length cj, .int .i64 ch, .slice (some ⟨qq, 0, none⟩) p.length p.length, .slice (some ⟨qu, 0, none⟩) j.length j.length, .slice none 0 0, .int .i64 0, .int .i64 0].toArray 67) := ⟨_, rfl⟩
      have hg10 : (w8).grownBy w10 none := by rw [hw10]; exact gr_alloc (World.grownBy.refl _ _) _
      have hb10 : Box w10 (w8).heap.size 67 [.slice P p.length cp, .slice J j.length cj, .int .i64 ch, .slice (some ⟨qq, 0, none⟩) p.length p.length, .slice (some ⟨qu, 0, none⟩) j.length j.length, .slice none 0 0, .int .i64 0, .int .i64 0] := by rw [hw10]; exact Box.new _ _ _
      rw [← hw10]
      clear hw10
      obtain ⟨x10, hx10⟩ : ∃ x, x = (w8).heap.size := ⟨_, rfl⟩
      rw [← hx10] at hb10 ⊢
      have hxl10 : (w8).heap.size ≤ x10 := by omega
      clear hx10
      refine tree_p rfl rfl rfl rfl _ rfl (by simp) (fun K hK => ?_)
      apply Exists.intro
      refine ⟨fun wq K' hK' => ?_, ?_⟩
      · go_wp2_with fail
        exact hK'
      go_simp
      refine hK _ ?_
      clear hK K
      refine tree_done ?_
      go_wp2_with fail
      go_meet
      have k1 := hgu0.size
      have k2 := hg5.size
      have k3 := hg8.size
      exact ⟨x10, qq, qu, rfl, gr_trans hgu0 (gr_trans (gr_trans hg5 hg8) hg10), by omega, by omega, by omega, hb10, (Own.lower hoO (by omega)).pure (gr_trans hg8 hg10), (Own.lower hoU (by omega)).pure hg10⟩
    · refine tree_e0 (by kernel_rfl) rfl rfl (fun K hK => ?_)
      obtain ⟨w8, hrun8, hoU, hg8⟩ := hmkU.out u0
      obtain ⟨qu, hqu⟩ : ∃ x, x = (u0).heap.size := ⟨_, rfl⟩
      rw [← hqu] at hrun8 hoU
      have hus : (u0).heap.size ≤ qu := by omega
      replace hqu := hide hqu
      go_wp2_with fail
      clear hrun8
      try go_simp
      refine hK _ _ trivial ?_
      clear hK K
      refine tree_e0 (by kernel_rfl) rfl rfl (fun K hK => ?_)
      obtain ⟨w5, hrun, hoO, hg5⟩ := hmkP.out w8
      obtain ⟨qq, hqq⟩ : ∃ x, x = (w8).heap.size := ⟨_, rfl⟩
      rw [← hqq] at hrun hoO
      have hqs : (w8).heap.size ≤ qq := by omega
      replace hqq := hide hqq
      go_wp2_with fail
      clear hrun
      try go_simp
      refine hK _ _ trivial ?_
      clear hK K
      refine tree_p rfl rfl rfl rfl _ rfl (by simp) (fun K hK => ?_)
      apply Exists.intro
      refine ⟨fun wq K' hK' => ?_, ?_⟩
      · go_wp2_with fail
        exact hK'
      go_simp
      refine hK _ ?_
      clear hK K
      refine tree_e0 (by kernel_rfl) rfl rfl (fun K hK => ?_)
      go_wp2_with fail
      try go_simp
      refine hK _ _ trivial ?_
      clear hK K
      obtain ⟨w10, hw10⟩ : ∃ x, x = (w5).alloc (.cells [.slice P p.length cp, .slice J j.length cj, .int .i64 ch, .slice (some ⟨qq, 0, none⟩) p.length p.length, .slice (some ⟨qu, 0, none⟩) j.length j.length, .slice none 0 0, .int .i64 0, .int .i64 0].toArray 67) := ⟨_, rfl⟩
      have hg10 : (w5).grownBy w10 none := by rw [hw10]; exact gr_alloc (World.grownBy.refl _ _) _
      have hb10 : Box w10 (w5).heap.size 67 [.slice P p.length cp, .slice J j.length cj, .int .i64 ch, .slice (some ⟨qq, 0, none⟩) p.length p.length, .slice (some ⟨qu, 0, none⟩) j.length j.length, .slice none 0 0, .int .i64 0, .int .i64 0] := by rw [hw10]; exact Box.new _ _ _
      rw [← hw10]
      clear hw10
      obtain ⟨x10, hx10⟩ : ∃ x, x = (w5).heap.size := ⟨_, rfl⟩
      rw [← hx10] at hb10 ⊢
      have hxl10 : (w5).heap.size ≤ x10 := by omega
      clear hx10
      refine tree_p rfl rfl rfl rfl _ rfl (by simp) (fun K hK => ?_)
      apply Exists.intro
      refine ⟨fun wq K' hK' => ?_, ?_⟩
      · go_wp2_with fail
        exact hK'
      go_simp
      refine hK _ ?_
      clear hK K
      refine tree_done ?_
      go_wp2_with fail
      go_meet
      have k1 := hgu0.size
      have k2 := hg5.size
      have k3 := hg8.size
      exact ⟨x10, qq, qu, rfl, gr_trans hgu0 (gr_trans (gr_trans hg8 hg5) hg10), by omega, by omega, by omega, hb10, (Own.lower hoO (by omega)).pure hg10, (Own.lower hoU (by omega)).pure (gr_trans hg5 hg10)⟩
  case rest =>
  obtain ⟨gb, gp, gs, rfl, hgc, hb0, hp0', hs0, hbx, hop, hos⟩ := hcut
  clear hmkP hmkU
  have hgw := hg1.t hgc
  obtain ⟨E, hEe⟩ : ∃ E : PEnv, E = ⟨w, wc.heap.size, gb, gp, gs, P, cp, J, cj, p, j, ch⟩ := ⟨_, rfl⟩
  have hE : E.Ok := by
    rw [hEe]
    have l1 := hg1.size
    have l2 := hbx.lt
    have l3 := (hop.blk_lt (g := gp) rfl).2
    have l4 := (hos.blk_lt (g := gs) rfl).2
    exact ⟨⟨by show w.heap.size ≤ gb; omega, l2⟩, ⟨by show w.heap.size ≤ gp; omega, l3⟩, ⟨by show w.heap.size ≤ gs; omega, l4⟩, fun e => hbx.ne_own hop (by decide) (by show some gp = some gb; rw [show gb = gp from e]), fun e => hbx.ne_own hos (by decide) (by show some gs = some gb; rw [show gb = gs from e]), fun e => hop.ne_own hos (by decide) (x := gp) rfl (by show some gs = some gp; rw [show gp = gs from e])⟩
  have hf0 : (List.replicate p.length ([] : List Int)).flatten = [] := flat_nil fun x hx => List.eq_of_mem_replicate hx
  have hI0 : InvP E wc (List.replicate p.length []) (List.replicate p.length ([] : List Int)).flatten (List.replicate p.length (⟨none, 0, 0⟩ : RawS)) none 0 [] [] (.slice none ([] : List (List Int)).length 0) 0 0 := by
    rw [hf0, hEe]
    exact ⟨hbx, (RowsN.made hop (by decide) (by have := (hop.blk_lt (g := gp) rfl); show w1.heap.size ≤ wc.heap.size; omega)).lower hg1.size, by show Own wc w.heap.size 4 (some ⟨gs, 0, none⟩) j.length (seenN j.length []); rw [seenN_nil]; exact hos.lower hg1.size, RowsN.nil _ _ _ (by decide) (Nat.le_refl _), fun i k hi => by simp at hi, hgw, Nat.le_refl _⟩
  have hIQ0 : InvQ E wc (List.replicate p.length []) none := ⟨_, none, 0, [], [], 0, 0, Nat.le_refl _, ⟨rfl, rfl, rfl, rfl⟩, hI0⟩
  have hT := try_any hE (by rw [hEe]; exact hok.out) (by rw [hEe]; exact hj7) (by rw [hEe]; exact ⟨hp0, hp4⟩) (by rw [hEe]; exact hJ) (by rw [hEe]; exact hP) _ 0 (List.replicate p.length []) none wc (Nat.le_refl _) (by rw [hEe]; exact part_start p j.length hp0) hIQ0
  have ev : E.gb = gb ∧ E.p = p ∧ E.j = j ∧ E.ch = ch ∧ E.w0 = w ∧ E.lo = wc.heap.size := by rw [hEe]; exact ⟨rfl, rfl, rfl, rfl, rfl, rfl⟩
  have hb10 := hI0.bx
  clear hI0 hIQ0 hop hos hbx
  obtain ⟨e1, e2, e3, e4, e5, e6⟩ := ev
  rw [e1, e2, e3, e4] at hT
  have hc0 : clkR p j ch 0 (List.replicate p.length []) = ((0 : Int), p[0].mat) := by
    unfold clkR
    simp [clkC, List.getD_eq_getElem?_getD, List.getElem?_replicate, hp0]
  have hpr : prsA p j ch (List.replicate p.length []) = [] := by
    have h := pairsK_nil p j (Q := List.replicate p.length []) ch (k := 0) (fun x hx => List.eq_of_mem_replicate hx) p.length
    unfold prsA
    rw [Nat.zero_add] at h
    rw [h]
    rfl
  have hl0 : lstP p j ch (List.replicate p.length []) = 0 := by unfold lstP; rw [hpr]; rfl
  have hs0' : sumP p j ch (List.replicate p.length []) = 0 := by unfold sumP; rw [hpr]; rfl
  rw [hc0, hl0, hs0', hf0, List.length_nil] at hT
  rw [show (j.length : Int) - ((0 : Nat) : Int) = (j.length : Int) by omega] at hT
  clear hc0 hpr hl0 hs0' hf0
  obtain ⟨ga, oa, cx, rfl, _, hb2, rfl, hc2⟩ := (hP.pure hgw).at_ (by decide) hp0
  have d0 : wc.cell? ⟨ga, oa, none⟩ = some (.string p[0].key) := by have := hc2 0 _ rfl; rwa [Nat.zero_mul, Nat.add_zero] at this
  have d1 : wc.cell? ⟨ga, oa + 1, none⟩ = some (.string p[0].mat) := by have := hc2 1 _ rfl; rwa [Nat.zero_mul, Nat.add_zero] at this
  clear hc2
  generalize p[0] = pp at *
  replace hT := hide hT
  replace hEe := hide hEe
  go_wp2_with fail
  refine hT.out.mono ?_
  rintro e w9 ⟨rfl, ⟨b', hB, hIQ⟩, -⟩
  rw [e2, e3, e4] at hB
  obtain ⟨R, rfl, hbest⟩ := best_of (p := p) (j := j) (ch := ch) hp0 (fun Q => comp_start hp0) hB
  clear hT
  obtain ⟨raws, B, d, rB, R', l, s, hd, ⟨rfl, -, -, hll, -⟩, hI⟩ := hIQ
  rw [e2, e3, e4] at hll
  replace hll := hide hll
  obtain ⟨b5, -⟩ := hI.bx.c 5 rfl
  obtain ⟨b6, -⟩ := hI.bx.c 6 rfl
  rw [e1] at b5 b6
  have hbs := hI.bs
  have hgr := hI.gr
  have hlo : w.heap.size ≤ E.lo := by rw [e6]; exact hgw.size
  rw [e5] at hgr
  clear hI hB d0 d1
  go_upto_region 10 with fail
  refine wp_region_tree (fun wx => w9.grownBy wx none) [2, 2, 2, 1, 2, 2, 2, 1, 2, 2, 2] (.bl 0 (.bl 1 (.bl 2 (.bl 3 (.bl 4 (.bl 5 (.bl 6 (.bl 7 (.bl 8 (.bl 9 (.bl 10 .done))))))))))) (by kernel_rfl) (by kernel_rfl) (gr_drew (World.grownBy.refl _ _)) ?_
  obtain ⟨u1, hu1⟩ : ∃ x, x = (w9).drew := ⟨_, rfl⟩
  rw [← hu1]
  have hgu1 : (w9).grownBy u1 none := by rw [hu1]; exact gr_drew (World.grownBy.refl _ _)
  clear hu1
  refine tree_p rfl rfl rfl rfl _ rfl (by simp) (fun K hK => ?_)
  apply Exists.intro
  refine ⟨fun wq K' hK' => ?_, ?_⟩
  · go_wp2_with fail
    exact hK'
  go_simp
  refine hK _ ?_
  clear hK K
  refine tree_n rfl rfl _ rfl _ rfl ?_
  try go_simp
  refine tree_p rfl rfl rfl rfl _ rfl (by simp) (fun K hK => ?_)
  apply Exists.intro
  refine ⟨fun wq K' hK' => ?_, ?_⟩
  · go_wp2_with fail
    exact hK'
  go_simp
  refine hK _ ?_
  clear hK K
  refine tree_b rfl rfl rfl rfl _ rfl (by simp) (fun K hK => ?_)
  apply Exists.intro
  refine ⟨fun wq hq K' hK' => ?_, ?_⟩
  · have k5 := hq.k b5
    have k6 := hq.k b6
    go_wp2_with fail
    exact hK'
  go_simp
  refine hK _ ?_
  clear hK K
  refine tree_p rfl rfl rfl rfl _ rfl (by simp) (fun K hK => ?_)
  apply Exists.intro
  refine ⟨fun wq K' hK' => ?_, ?_⟩
  · go_wp2_with fail
    exact hK'
  go_simp
  refine hK _ ?_
  clear hK K
  refine tree_n rfl rfl _ rfl _ rfl ?_
  try go_simp
  refine tree_p rfl rfl rfl rfl _ rfl (by simp) (fun K hK => ?_)
  apply Exists.intro
  refine ⟨fun wq K' hK' => ?_, ?_⟩
  · go_wp2_with fail
    exact hK'
  go_simp
  refine hK _ ?_
  clear hK K
  refine tree_b rfl rfl rfl rfl _ rfl (by simp) (fun K hK => ?_)
  apply Exists.intro
  refine ⟨fun wq hq K' hK' => ?_, ?_⟩
  · have k5 := hq.k b5
    have k6 := hq.k b6
    go_wp2_with fail
    exact hK'
  go_simp
  refine hK _ ?_
  clear hK K
  refine tree_p rfl rfl rfl rfl _ rfl (by simp) (fun K hK => ?_)
  apply Exists.intro
  refine ⟨fun wq K' hK' => ?_, ?_⟩
  · go_wp2_with fail
    exact hK'
  go_simp
  refine hK _ ?_
  clear hK K
  refine tree_p rfl rfl rfl rfl _ rfl (by simp) (fun K hK => ?_)
  apply Exists.intro
  refine ⟨fun wq K' hK' => ?_, ?_⟩
  · go_wp2_with fail
    exact hK'
  go_simp
  refine hK _ ?_
  clear hK K
  refine tree_p rfl rfl rfl rfl _ rfl (by simp) (fun K hK => ?_)
  apply Exists.intro
  refine ⟨fun wq K' hK' => ?_, ?_⟩
  · go_wp2_with fail
    exact hK'
  go_simp
  refine hK _ ?_
  clear hK K
  refine tree_done ?_
  go_wp2_with fail
  exact bodyPost_ret (v := .tuple #[.slice B R'.length d, .int .i64 l, .int .i64 0]) (by simp [results, Tryd.results11, go_sem]) rfl ⟨B, d, rB, R', by rw [hll.out], hbest, hd, RowsN.low2 (hbs.pure hgu1) hlo, hgr.t hgu1⟩

end Go.Proofs.YtanioobepfllgaaDoor

namespace Go.Bl
open Go

instance : Enc (Int × ByteArray) where
  sz := 2
  rep := fun _ _ p cs => cs = [.int .i64 p.1, .string p.2]
  len := by rintro w lo x cs rfl; rfl
  one := by rintro w lo x cs rfl u hu; simp at hu; rcases hu with rfl | rfl <;> rfl
  keep := fun h _ => h
  mono := fun h _ => h

instance : Flat (Int × ByteArray) := ⟨fun h => h, by decide⟩

theorem clk_set0 (x : Int × ByteArray) (v : Int) (w : World) (lo : Nat) : ∀ c1, Enc.rep w lo x c1 → Enc.rep w lo ((v, x.2) : Int × ByteArray) (c1.set 0 (.int .i64 v)) := by rintro c1 rfl; rfl

theorem clk_set1 (x : Int × ByteArray) (v : ByteArray) (w : World) (lo : Nat) : ∀ c1, Enc.rep w lo x c1 → Enc.rep w lo ((x.1, v) : Int × ByteArray) (c1.set 1 (.string v)) := by rintro c1 rfl; rfl

theorem Own.set_clk {w : World} {lo : Nat} {e : TypeId} {g c : Nat} {l : List (Int × ByteArray)} (h : Own w lo e (some ⟨g, 0, none⟩) c l) {i : Nat} (hi : i < l.length) (a : Int) (b : ByteArray) :
    Own ((w.setCell ⟨g, i * 2, none⟩ (.int .i64 a)).setCell ⟨g, i * 2 + 1, none⟩ (.string b)) lo e (some ⟨g, 0, none⟩) c (l.set i (a, b)) := by
  have h1 := h.put hi (j := 0) (by decide) (clk_set0 l[i] a w lo)
  have h2 := h1.put (i := i) (j := 1) (by simpa using hi) (by decide) (clk_set1 _ b _ lo)
  simp only [List.set_set, List.getElem_set_self] at h2
  exact h2

theorem Own.cell_clk {w : World} {lo : Nat} {e : TypeId} {g c : Nat} {l : List (Int × ByteArray)} (h : Own w lo e (some ⟨g, 0, none⟩) c l) {i : Nat} (hi : i < l.length) :
    w.cell? ⟨g, i * 2, none⟩ = some (.int .i64 l[i].1) ∧ w.cell? ⟨g, i * 2 + 1, none⟩ = some (.string l[i].2) := by
  obtain ⟨c1, hr, hc⟩ := h.cell_at (by decide) hi
  have hr' : c1 = [.int .i64 l[i].1, .string l[i].2] := hr
  subst hr'
  have c0 := hc 0 _ rfl
  have c1 := hc 1 _ rfl
  rw [show Enc.sz (Int × ByteArray) = 2 from rfl] at c0 c1
  exact ⟨c0, c1⟩

end Go.Bl
namespace Go.Proofs.YtanioobepfllgaaDoor
open Go Go.RowKit Go.Bl

theorem info_clk : (Tryd.prog.info? 70).map (fun i => (i.zero, i.size, i.bytes)) = some (some (.agg #[.int .i64 0, .string ByteArray.empty]), 2, 24) := by kernel_rfl
section
variable {p : List Prn} {j : List Jb} {ch : Int}
/-- the clocks of all printers -/
def clkL (p : List Prn) (j : List Jb) (ch : Int) (P : List (List Int)) : List (Int × ByteArray) := (List.range p.length).map fun k => clkR p j ch k P

theorem clkL_len (P : List (List Int)) : (clkL p j ch P).length = p.length := by simp [clkL]

theorem clkL_get (P : List (List Int)) {k : Nat} (h : k < (clkL p j ch P).length) : (clkL p j ch P)[k] = clkR p j ch k P := by simp [clkL]

theorem clkL_zero : clkL p j ch (List.replicate p.length []) = p.map fun x => ((0 : Int), x.mat) := by
  apply List.ext_getElem
  · simp [clkL]
  · intro k h1 h2
    rw [clkL_get]
    rw [List.length_map] at h2
    unfold clkR
    simp [clkC, List.getD_eq_getElem?_getD, List.getElem?_replicate, h2]

theorem clkL_push {P : List (List Int)} (hP : P.length = p.length) {b : Nat} (hb : b < p.length) (i : Int) : clkL p j ch (P.set b (P.getD b [] ++ [i])) = (clkL p j ch P).set b (doC (clkR p j ch b P) (jobAt j i) ch) := by
  apply List.ext_getElem
  · simp [clkL]
  · intro k h1 h2
    rw [clkL_get, List.getElem_set]
    by_cases e : b = k
    · subst e
      rw [if_pos rfl]
      unfold clkR
      rw [getD_setL (by omega), clkC_snoc]
    · rw [if_neg e, clkL_get]
      unfold clkR
      rw [show (P.set b (P.getD b [] ++ [i])).getD k [] = P.getD k [] by simp [List.getD_eq_getElem?_getD, List.getElem?_set_ne e]]

theorem clkR_bd (hok : JOk j ch) {i : Nat} (hi : i ≤ j.length) {P : List (List Int)} (h : IsP i P.flatten) (k : Nat) : 0 ≤ (clkR p j ch k P).1 ∧ (clkR p j ch k P).1 ≤ 100000000 := by
  have hl := few_rows h
  have h5 := hok.len
  have hr : (P.getD k []).length ≤ 500 ∧ ∀ x ∈ P.getD k [], 0 ≤ x ∧ x < (j.length : Int) := by
    by_cases hk : k < P.length
    · rw [show P.getD k [] = P[k] by simp [List.getD_eq_getElem?_getD, hk]]
      have := row_len hk
      exact ⟨by omega, fun x hx => by have := h.bd x (row_in hk x hx); omega⟩
    · rw [show P.getD k [] = [] by simp [List.getD_eq_getElem?_getD, List.getElem?_eq_none (by omega : P.length ≤ k)]]
      simp
  have := clkC_bd hok (P.getD k []) hr.2 (0, (p.getD k default).mat) (N := 0) (by simp)
  unfold clkR
  omega

theorem greL_bd (hok : JOk j ch) (h0 : 0 < p.length) : ∀ i, i ≤ j.length → 0 ≤ greL p j ch i ∧ greL p j ch i ≤ 100200000
  | 0, _ => by simp [greL]
  | i + 1, hi => by
    have h1 := greL_bd hok h0 i (by omega)
    have h2 := clkR_bd (p := p) hok (i := i) (by omega) (greP_isP (j := j) (ch := ch) h0 i).1 (greB p j ch (greP p j ch i) i)
    have h3 := doC_bd hok (c := clkR p j ch (greB p j ch (greP p j ch i) i) (greP p j ch i)) (i := (i : Int)) (by omega) h2
    show 0 ≤ max (greL p j ch i) (doC _ _ _).1 ∧ max (greL p j ch i) (doC _ _ _).1 ≤ _
    omega
end

def GreR (p : List Prn) (j : List Jb) (ch : Int) (w : World) (e : Ending) (w' : World) : Prop :=
  ∃ B d rB R, e = .returned (.tuple #[.slice B R.length d, .int .i64 (lstP p j ch R), .int .i64 0]) ∧ R = greP p j ch j.length ∧ R.length ≤ d ∧ RowsN w' w.heap.size w.heap.size 22 3 B d rB R ∧ w.grownBy w' none

set_option maxHeartbeats 8000000 in
set_option maxRecDepth 100000 in
theorem greedy_any (P : Option Addr) (cp : Nat) (p : List Prn) (J : Option Addr) (cj : Nat) (j : List Jb) (ch : Int) (w : World) (hP : Sl w 0 P p) (hJ : Sl w 0 J j) (hF : farmF p j = 0) (hc : spanF ch 0 100000 = 0) :
    Calls Tryd.prog 12 #[.slice P p.length cp, .slice J j.length cj, .int .i64 ch] w (GreR p j ch w) := by
  obtain ⟨hp0, hp50⟩ := farm_plen hF
  have hok := jok_of hF hc
  have hj5 := hok.len
  have hch := hok.chg
  have hout : outB ch 0 100000 = false := by
    rw [spanF_outB] at hc
    rcases h : outB ch 0 100000 with _ | _
    · rfl
    · rw [h] at hc; cases hc
  have hf := hide (fault_any P cp p J cj j w hP hJ)
  rw [hF] at hf
  clear hc hF
  have hok := hide hok
  go_enter Tryd.func12, Tryd.ntmps12
  go_wp2_with fail
  refine hf.out.mono ?_
  rintro e w1 ⟨rfl, hg1⟩
  clear hf
  obtain ⟨i0, hi, hz, hi1, hi2⟩ := info_parts info_intsR
  obtain ⟨w2, hrun, hoO, hg2⟩ := run_makeOwn (P := Tryd.prog) w1 36 22 i0 _ (⟨none, 0, 0⟩ : RawS) Tryd.underlying36 hi hz hi1 rfl rfl .i64 .i64 p.length (by rw [hi2]; omega) (by simp [maxLen]; omega)
  clear hi hz hi1 hi2 i0
  obtain ⟨gp, hgp⟩ : ∃ g, g = w1.heap.size := ⟨_, rfl⟩
  rw [← hgp] at hrun hoO
  have hgpw : w.heap.size ≤ gp := by have := hg1.size; omega
  clear hgp
  replace hoO := hoO.lower hgpw
  have hgw := hg1.t hg2
  have hR0 := RowsN.made (α := Int) hoO (ei := 3) (li := w.heap.size) (by decide) (Nat.le_refl _)
  go_wp2_with (go_at_call 29; refine (isChange_any _ _).mono ?_; rintro _ _ ⟨rfl, rfl⟩; rw [hout])
  clear hrun hout hoO
  go_loopw [11, 34] (fun c i wr => ∃ (k : Nat) (A : Option Addr) (cc : Nat) (l : List (Int × ByteArray)), k ≤ p.length ∧ i = .int .i64 k ∧ Hid (l = (p.take k).map fun x => ((0 : Int), x.mat)) ∧ Hid (l.length = k) ∧ c = .slice A k cc ∧ Own wr w2.heap.size 70 A cc l ∧ w2.grownBy wr none) (fun _ i _ => p.length - (intOf i).toNat)
  case atStart => exact ⟨0, none, 0, [], Nat.zero_le _, rfl, rfl, rfl, rfl, Own.nil _ _ _, World.grownBy.refl _ _⟩
  case round =>
    obtain ⟨k, A, cc, l, hk, rfl, hl, hll, rfl, hO, hg⟩ := hrel
    by_cases hlt : k < p.length
    · obtain ⟨ga, oa, cx, rfl, _, hb2, rfl, hcx⟩ := (hP.pure (hgw.t hg)).at_ (by decide) hlt
      have c0 : wr.cell? ⟨ga, oa + k * 2, none⟩ = some (.string p[k].key) := hcx 0 _ rfl
      have c1 : wr.cell? ⟨ga, oa + k * 2 + 1, none⟩ = some (.string p[k].mat) := hcx 1 _ rfl
      clear hcx
      have hl2 : Hid (l ++ [((0 : Int), p[k].mat)] = (p.take (k + 1)).map fun x => ((0 : Int), x.mat)) := by
        rw [Hid, List.take_succ_eq_append_getElem hlt, List.map_append, hl.out]; rfl
      generalize p[k] = pp at *
      go_upto_region 11 with fail
      obtain ⟨w13, hw13⟩ : ∃ x, x = (wr).alloc (.cells [.string pp.key, .string pp.mat].toArray 47) := ⟨_, rfl⟩
      have hg13 : (wr).grownBy w13 none := by rw [hw13]; exact gr_alloc (World.grownBy.refl _ _) _
      have hb13 : Box w13 (wr).heap.size 47 [.string pp.key, .string pp.mat] := by rw [hw13]; exact Box.new _ _ _
      have hxs13 := hb13.lt
      rw [← hw13]
      clear hw13
      obtain ⟨x13, hx13⟩ : ∃ x, x = (wr).heap.size := ⟨_, rfl⟩
      rw [← hx13] at hb13 hxs13 ⊢
      have hxl13 : (wr).heap.size ≤ x13 := by omega
      clear hx13
      obtain ⟨d1, -⟩ := hb13.c 1 rfl
      have hO2 := hO.pure hg13
      have hll1 : Hid ((l ++ [((0 : Int), pp.mat)]).length = k + 1) := by rw [Hid, List.length_append, hll.out]; rfl
      have hsz := hgw.size
      have hsz2 := hg.size
      have hsz3 := hg13.size
      obtain ⟨i0, hi, hz, hi1, hi2⟩ := info_parts info_clk
      go_wp2_with (at_builtin; refine wpList_pushAt (α := Int × ByteArray) _ rfl (.tmp 38) (.tmp 42) _ rfl w2.heap.size 70 i0 _ 24 Tryd.underlying71 hi hz hi1 hi2 rfl _ _ _ l rfl hll.out.symm (by exact hO2.pure (gr_alloc (World.grownBy.refl _ _) _)) 0 ⟨_, 0, none⟩ 1 1 [((0 : Int), pp.mat)] rfl rfl (by exact sl_oneAt _ 0 _ _ _ _ (by first | rfl | simp) (Nat.zero_le _) rfl) ?c2 ?c3 ?c4 ?_)
      case c2 => rw [hll.out]; simp; omega
      case c3 => rw [hll.out]; simp [maxLen]; omega
      case c4 => simp; omega
      intro A5 c5 w5 hO5 hG5
      rw [hll.out]
      have hg5 := gr_row ((hg.t hg13).t (gr_alloc (World.grownBy.refl _ _) _)) hG5.1 (fun x e => (hO2.blk_lt e).1)
      go_wp2
      (go_roundw; (case rel => exact ⟨k + 1, A5, c5, _, by omega, by go_num, hl2, hll1, rfl, hO5, hg5⟩); (case measure => simp [intOf]; omega))
    · obtain rfl : k = p.length := by omega
      have hl0 : Hid (l = clkL p j ch (greP p j ch 0)) := by
        rw [Hid, hl.out, List.take_length]
        exact clkL_zero.symm
      obtain ⟨gc, rfl, hgc, -⟩ := hO.shape (by rw [hll.out]; omega)
      rw [hl0.out] at hO
      have hR := hR0.pure hg
      have hszg := hgw.size
      replace hO := hO.lower hszg
      have hgcw : w.heap.size ≤ gc := by omega
      have hg0 := hgw.t hg
      clear hR0 hl hll hl0 hgc hszg hg hgw hg1 hg2
      have hpl : (p.length : Int) ≤ 50 := by omega
      rename World => wa
      go_wp2_with fail
      go_loopw [14, 47] (fun t i wr => ∃ (n : Nat) (raws : List RawS), n ≤ j.length ∧ i = .int .i64 n ∧ t = .int .i64 (greL p j ch n) ∧ RowsN wr w.heap.size w.heap.size 22 3 (some ⟨gp, 0, none⟩) p.length raws (greP p j ch n) ∧ Own wr w.heap.size 70 (some ⟨gc, 0, none⟩) cc (clkL p j ch (greP p j ch n)) ∧ w.grownBy wr none) (fun _ i _ => j.length - (intOf i).toNat)
      case atStart => exact ⟨0, _, Nat.zero_le _, rfl, rfl, hR, hO, hg0⟩
      case round =>
        clear hR hO hg0
        obtain ⟨n, raws, hn, rfl, rfl, hR, hO, hg⟩ := hrel
        by_cases hlt : n < j.length
        · obtain ⟨gj, oj, cx, rfl, _, hbj, rfl, hcj⟩ := (hJ.pure hg).at_ (by decide) hlt
          have hjb := hok.out.bd _ (List.getElem_mem hlt)
          have j0 : wr.cell? ⟨gj, oj + n * 4, none⟩ = some (.string j[n].key) := hcj 0 _ rfl
          have j1 : wr.cell? ⟨gj, oj + n * 4 + 1, none⟩ = some (.string j[n].mat) := hcj 1 _ rfl
          have j2 : wr.cell? ⟨gj, oj + n * 4 + 2, none⟩ = some (.int .i64 j[n].min) := hcj 2 _ rfl
          have j3 : wr.cell? ⟨gj, oj + n * 4 + 3, none⟩ = some (.int .i64 j[n].due) := hcj 3 _ rfl
          clear hcj
          have hjat : jobAt j (n : Int) = j[n] := jobAt_nat hlt
          have hPl : (greP p j ch n).length = p.length := greP_len n
          have hfl := (greP_isP (j := j) (ch := ch) hp0 n).2
          have hbdC := hide fun k => clkR_bd (p := p) hok.out (Nat.le_of_lt hlt) (greP_isP (j := j) (ch := ch) hp0 n).1 k
          have hLb := greL_bd hok.out hp0 n hn
          obtain ⟨C, hC⟩ : ∃ C, C = greC p j ch (greP p j ch n) n := ⟨_, rfl⟩
          have hCk := hide fun k => (show C k = (doC (clkR p j ch k (greP p j ch n)) j[n] ch).1 by rw [hC, ← hjat]; rfl)
          have hP2 : Hid (greP p j ch (n + 1) = (greP p j ch n).set (minB C p.length) ((greP p j ch n).getD (minB C p.length) [] ++ [(n : Int)])) := by rw [hC]; exact rfl
          have hL2 : Hid (greL p j ch (n + 1) = max (greL p j ch n) (C (minB C p.length))) := by rw [hC]; exact rfl
          have hbl := minB_in C hp0
          have hC2 : Hid (clkL p j ch (greP p j ch (n + 1)) = (clkL p j ch (greP p j ch n)).set (minB C p.length) (doC (clkR p j ch (minB C p.length) (greP p j ch n)) j[n] ch)) := by
            rw [Hid, hP2.out, clkL_push hPl hbl, hjat]
          have hCLl : (clkL p j ch (greP p j ch n)).length = p.length := clkL_len _
          have hCLg := hide fun k (h : k < (clkL p j ch (greP p j ch n)).length) => clkL_get (p := p) (j := j) (ch := ch) (greP p j ch n) h
          have hbk0 := hide fun k (h : k ≤ p.length) => (show minB C k < p.length by
            rcases Nat.eq_zero_or_pos k with h0 | h0
            · rw [h0]; exact hp0
            · have := minB_in C h0; omega)
          have hrow5 : Hid (∀ k (h : k < (greP p j ch n).length), (greP p j ch n)[k].length ≤ 500) := fun k h => by
            have := row_len h
            omega
          obtain ⟨cl, hcl⟩ : ∃ f : Nat → Int × ByteArray, f = fun k => clkR p j ch k (greP p j ch n) := ⟨_, rfl⟩
          have hclk : ∀ k, clkR p j ch k (greP p j ch n) = cl k := fun k => by rw [hcl]
          simp only [hclk] at hbdC hCk hC2 hCLg
          clear hC hcl hclk hjat hfl
          generalize clkL p j ch (greP p j ch n) = CL at *
          generalize greP p j ch n = PP at *
          generalize greL p j ch n = GL at *
          generalize j[n] = Y at *
          replace hPl := hide hPl
          replace hCLl := hide hCLl
          have hcd := hide fun k W => clockDo_any (cl k).1 (cl k).2 Y ch W (by have := hbdC.out k; omega) (by omega) (by omega)
          have hCkb := hide fun k => (show 0 ≤ C k ∧ C k ≤ 100200000 by
            rw [hCk.out k]
            have := hbdC.out k
            unfold doC
            simp only
            split <;> omega)
          have hn0 : (0 : Int) ≤ (n : Int) ∧ (n : Int) < (j.length : Int) := by omega
          go_upto_region 17 with fail
          clear j0 j1 j2 j3
          obtain ⟨w16, hw16⟩ : ∃ x, x = (wr).alloc (.cells [.string Y.key, .string Y.mat, .int .i64 Y.min, .int .i64 Y.due].toArray 58) := ⟨_, rfl⟩
          have hg16 : (wr).grownBy w16 none := by rw [hw16]; exact gr_alloc (World.grownBy.refl _ _) _
          have hb16 : Box w16 (wr).heap.size 58 [.string Y.key, .string Y.mat, .int .i64 Y.min, .int .i64 Y.due] := by rw [hw16]; exact Box.new _ _ _
          have hxs16 := hb16.lt
          rw [← hw16]
          clear hw16
          obtain ⟨x16, hx16⟩ : ∃ x, x = (wr).heap.size := ⟨_, rfl⟩
          rw [← hx16] at hb16 hxs16 ⊢
          have hxl16 : (wr).heap.size ≤ x16 := by omega
          clear hx16
          have hO16 := hO.pure hg16
          have hR16 := hR.pure hg16
          have hg0 := hg.t hg16
          clear hO hR hg hg16
          go_wp2_with fail
          go_loopw [17, 54] (fun t i wr => ∃ k : Nat, k ≤ p.length ∧ i = .int .i64 k ∧ t = .int .i64 ((minB C k : Nat) : Int) ∧ w16.grownBy wr none) (fun _ i _ => p.length - (intOf i).toNat)
          case atStart => exact ⟨0, Nat.zero_le _, rfl, rfl, World.grownBy.refl _ _⟩
          case round =>
            obtain ⟨k, hk, rfl, rfl, hgq⟩ := hrel
            by_cases hlk : k < p.length
            · have hOq := hO16.pure hgq
              have hb16 := hb16.pure hgq
              have hmn : minB C (k + 1) = if C k < C (minB C k) then k else minB C k := rfl
              have hbkl := hbk0.out k hk
              obtain ⟨bk, hbk⟩ : ∃ b, b = minB C k := ⟨_, rfl⟩
              rw [← hbk] at hmn hbkl ⊢
              clear hbk
              have hi1 : k < CL.length := by rw [hCLl.out]; exact hlk
              have hi2 : bk < CL.length := by rw [hCLl.out]; exact hbkl
              obtain ⟨x0, x1⟩ := hOq.cell_clk hi1
              obtain ⟨y0, y1⟩ := hOq.cell_clk hi2
              rw [hCLg.out k hi1] at x0 x1
              rw [hCLg.out bk hi2] at y0 y1
              have hd1 := hide (hcd.out k)
              have hd2 := hide (hcd.out bk)
              have e1 := hCk.out k
              have e2 := hCk.out bk
              rw [e1, e2] at hmn
              clear e1 e2 hi1 hi2
              generalize cl k = ca at *
              generalize cl bk = cb at *
              obtain ⟨ca1, ca2⟩ := ca
              obtain ⟨cb1, cb2⟩ := cb
              dsimp only at x0 x1 y0 y1 hd1 hd2
              generalize doC (ca1, ca2) Y ch = za at *
              generalize doC (cb1, cb2) Y ch = zb at *
              replace hmn := hide hmn
              have hk0 : (0 : Int) ≤ (k : Int) ∧ (k : Int) < (p.length : Int) := by omega
              have hk1 : (0 : Int) ≤ (bk : Int) ∧ (bk : Int) < (p.length : Int) := by omega
              have hfd : ∀ (z : Int × ByteArray) wx, (Instr.field 70 (.agg #[.int .i64 z.1, .string z.2]) 0).run Tryd.prog wx = .ok (.int .i64 z.1) wx := by
                intro z wx; simp [Instr.field, asAgg, go_sem]
              clear hOq hO16 hR16
              go_upto_region 21 with fail
              obtain ⟨w19, hw19⟩ : ∃ x, x = (wr).alloc (.cells [.int .i64 ca1, .string ca2].toArray 70) := ⟨_, rfl⟩
              have hg19 : (wr).grownBy w19 none := by rw [hw19]; exact gr_alloc (World.grownBy.refl _ _) _
              have hb19 : Box w19 (wr).heap.size 70 [.int .i64 ca1, .string ca2] := by rw [hw19]; exact Box.new _ _ _
              have hxs19 := hb19.lt
              rw [← hw19]
              clear hw19
              obtain ⟨x19, hx19⟩ : ∃ x, x = (wr).heap.size := ⟨_, rfl⟩
              rw [← hx19] at hb19 hxs19 ⊢
              have hxl19 : (wr).heap.size ≤ x19 := by omega
              clear hx19
              replace y0 := hg19.k y0
              replace y1 := hg19.k y1
              clear x0 x1
              refine wp_region_tree (fun wx => w19.grownBy wx none) [1, 1, 2, 0, 2, 2, 2, 2, 1, 1, 2, 0, 2, 2] (.bl 0 (.bl 1 (.bl 2 (.bl 5 (.bl 6 (.bl 7 (.bl 8 (.bl 9 (.bl 10 (.ef 3 (.bl 4 (.ef 11 (.bl 12 (.bl 13 .done)))))))))))))) (by kernel_rfl) (by kernel_rfl) (gr_drew (World.grownBy.refl _ _)) ?_
              obtain ⟨u0, hu0⟩ : ∃ x, x = (w19).drew := ⟨_, rfl⟩
              rw [← hu0]
              have hgu0 : (w19).grownBy u0 none := by rw [hu0]; exact gr_drew (World.grownBy.refl _ _)
              clear hu0
              refine tree_b rfl rfl rfl rfl _ rfl (by simp) (fun K hK => ?_)
              apply Exists.intro
              refine ⟨fun wq hq K' hK' => ?_, ?_⟩
              · obtain ⟨d0, -⟩ := (hb19.pure hq).c 0 rfl
                obtain ⟨d1, -⟩ := (hb19.pure hq).c 1 rfl
                obtain ⟨e0, -⟩ := (hb16.pure (hg19.t hq)).c 0 rfl
                obtain ⟨e1, -⟩ := (hb16.pure (hg19.t hq)).c 1 rfl
                obtain ⟨e2, -⟩ := (hb16.pure (hg19.t hq)).c 2 rfl
                obtain ⟨e3, -⟩ := (hb16.pure (hg19.t hq)).c 3 rfl
                have f0 := hq.k y0
                have f1 := hq.k y1
                go_wp2_with fail
                exact hK'
              go_simp
              refine hK _ ?_
              clear hK K
              refine tree_b rfl rfl rfl rfl _ rfl (by simp) (fun K hK => ?_)
              apply Exists.intro
              refine ⟨fun wq hq K' hK' => ?_, ?_⟩
              · obtain ⟨d0, -⟩ := (hb19.pure hq).c 0 rfl
                obtain ⟨d1, -⟩ := (hb19.pure hq).c 1 rfl
                obtain ⟨e0, -⟩ := (hb16.pure (hg19.t hq)).c 0 rfl
                obtain ⟨e1, -⟩ := (hb16.pure (hg19.t hq)).c 1 rfl
                obtain ⟨e2, -⟩ := (hb16.pure (hg19.t hq)).c 2 rfl
                obtain ⟨e3, -⟩ := (hb16.pure (hg19.t hq)).c 3 rfl
                have f0 := hq.k y0
                have f1 := hq.k y1
                go_wp2_with fail
                exact hK'
              go_simp
              refine hK _ ?_
              clear hK K
              refine tree_p rfl rfl rfl rfl _ rfl (by simp) (fun K hK => ?_)
              apply Exists.intro
              refine ⟨fun wq K' hK' => ?_, ?_⟩
              · go_wp2_with fail
                exact hK'
              go_simp
              refine hK _ ?_
              clear hK K
              refine tree_p rfl rfl rfl rfl _ rfl (by simp) (fun K hK => ?_)
              apply Exists.intro
              refine ⟨fun wq K' hK' => ?_, ?_⟩
              · go_wp2_with fail
                exact hK'
              go_simp
              refine hK _ ?_
              clear hK K
              refine tree_p rfl rfl rfl rfl _ rfl (by simp) (fun K hK => ?_)
              apply Exists.intro
              refine ⟨fun wq K' hK' => ?_, ?_⟩
              · go_wp2_with fail
                exact hK'
              go_simp
              refine hK _ ?_
              clear hK K
              refine tree_p rfl rfl rfl rfl _ rfl (by simp) (fun K hK => ?_)
              apply Exists.intro
              refine ⟨fun wq K' hK' => ?_, ?_⟩
              · go_wp2_with fail
                exact hK'
              go_simp
              refine hK _ ?_
              clear hK K
              refine tree_b rfl rfl rfl rfl _ rfl (by simp) (fun K hK => ?_)
              apply Exists.intro
              refine ⟨fun wq hq K' hK' => ?_, ?_⟩
              · obtain ⟨d0, -⟩ := (hb19.pure hq).c 0 rfl
                obtain ⟨d1, -⟩ := (hb19.pure hq).c 1 rfl
                obtain ⟨e0, -⟩ := (hb16.pure (hg19.t hq)).c 0 rfl
                obtain ⟨e1, -⟩ := (hb16.pure (hg19.t hq)).c 1 rfl
                obtain ⟨e2, -⟩ := (hb16.pure (hg19.t hq)).c 2 rfl
                obtain ⟨e3, -⟩ := (hb16.pure (hg19.t hq)).c 3 rfl
                have f0 := hq.k y0
                have f1 := hq.k y1
                go_wp2_with fail
                exact hK'
              go_simp
              refine hK _ ?_
              clear hK K
              refine tree_b rfl rfl rfl rfl _ rfl (by simp) (fun K hK => ?_)
              apply Exists.intro
              refine ⟨fun wq hq K' hK' => ?_, ?_⟩
              · obtain ⟨d0, -⟩ := (hb19.pure hq).c 0 rfl
                obtain ⟨d1, -⟩ := (hb19.pure hq).c 1 rfl
                obtain ⟨e0, -⟩ := (hb16.pure (hg19.t hq)).c 0 rfl
                obtain ⟨e1, -⟩ := (hb16.pure (hg19.t hq)).c 1 rfl
                obtain ⟨e2, -⟩ := (hb16.pure (hg19.t hq)).c 2 rfl
                obtain ⟨e3, -⟩ := (hb16.pure (hg19.t hq)).c 3 rfl
                have f0 := hq.k y0
                have f1 := hq.k y1
                go_wp2_with fail
                exact hK'
              go_simp
              refine hK _ ?_
              clear hK K
              refine tree_p rfl rfl rfl rfl _ rfl (by simp) (fun K hK => ?_)
              apply Exists.intro
              refine ⟨fun wq K' hK' => ?_, ?_⟩
              · go_wp2_with fail
                exact hK'
              go_simp
              refine hK _ ?_
              clear hK K
              refine tree_e rfl rfl (fun K hK => ?_)
              go_wp2_with fail
              refine (hd1.out u0).mono ?_
              rintro e w3 ⟨rfl, hg3⟩
              go_wp2_with fail
              try go_simp
              refine hK _ _ (gr_trans hgu0 hg3) ?_
              clear hK K
              refine tree_p rfl rfl rfl rfl _ rfl (by simp) (fun K hK => ?_)
              apply Exists.intro
              refine ⟨fun wq K' hK' => ?_, ?_⟩
              · go_wp2_with fail
                exact hK'
              go_simp
              refine hK _ ?_
              clear hK K
              refine tree_e0 (by kernel_rfl) rfl rfl (fun K hK => ?_)
              go_wp2_with fail
              refine (hd2.out w3).mono ?_
              rintro e w11 ⟨rfl, hg11⟩
              go_wp2_with fail
              try go_simp
              refine hK _ _ trivial ?_
              clear hK K
              refine tree_p rfl rfl rfl rfl _ rfl (by simp) (fun K hK => ?_)
              apply Exists.intro
              refine ⟨fun wq K' hK' => ?_, ?_⟩
              · go_wp2_with fail
                exact hK'
              go_simp
              refine hK _ ?_
              clear hK K
              refine tree_p rfl rfl rfl rfl _ rfl (by simp) (fun K hK => ?_)
              apply Exists.intro
              refine ⟨fun wq K' hK' => ?_, ?_⟩
              · go_wp2_with fail
                exact hK'
              go_simp
              refine hK _ ?_
              clear hK K
              refine tree_done ?_
              have hgz := hgq.t (hg19.t (gr_trans hgu0 (gr_trans hg3 hg11)))
              by_cases hlt2 : za.1 < zb.1
              · have hm2 : Hid (minB C (k + 1) = k) := by rw [Hid, hmn.out, if_pos hlt2]
                clear hmn y0 y1
                go_wp2_with fail
                (go_roundw; (case rel => exact ⟨k + 1, by omega, by go_num, by rw [hm2.out], hgz⟩); (case measure => simp [intOf]; omega))
              · have hm2 : Hid (minB C (k + 1) = bk) := by rw [Hid, hmn.out, if_neg hlt2]
                replace hlt2 : zb.1 ≤ za.1 := by omega
                clear hmn y0 y1
                go_wp2_with fail
                (go_roundw; (case rel => exact ⟨k + 1, by omega, by go_num, by rw [hm2.out], hgz⟩); (case measure => simp [intOf]; omega))
            · obtain rfl : k = p.length := by omega
              have hOq := hO16.pure hgq
              have hRq := hR16.pure hgq
              have hb16 := hb16.pure hgq
              have hgw := hg0.t hgq
              clear hO16 hR16 hg0 hgq hbk0
              obtain ⟨b, hb⟩ : ∃ b, b = minB C p.length := ⟨_, rfl⟩
              rw [← hb] at hP2 hL2 hC2 hbl ⊢
              clear hb
              have hbC : b < CL.length := by rw [hCLl.out]; exact hbl
              obtain ⟨x0, x1⟩ := hOq.cell_clk hbC
              rw [hCLg.out b hbC] at x0 x1
              have hd1 := hide (hcd.out b)
              have e1 := hCk.out b
              have hCb := hCkb.out b
              rw [e1] at hL2 hCb
              clear e1
              generalize cl b = ca at *
              obtain ⟨ca1, ca2⟩ := ca
              dsimp only at x0 x1 hd1
              generalize doC (ca1, ca2) Y ch = z at *
              have hk1 : (0 : Int) ≤ (b : Int) ∧ (b : Int) < (p.length : Int) := by omega
              go_upto_region 24 with fail
              refine wp_region_tree (fun wx => wr.grownBy wx none) [2, 2, 2, 2, 2, 1, 1, 2, 0, 2, 0] (.bl 0 (.bl 1 (.bl 2 (.bl 3 (.bl 4 (.bl 5 (.bl 6 (.bl 7 (.ef 8 (.bl 9 (.ef 10 .done))))))))))) (by kernel_rfl) (by kernel_rfl) (gr_drew (World.grownBy.refl _ _)) ?_
              obtain ⟨u0, hu0⟩ : ∃ x, x = (wr).drew := ⟨_, rfl⟩
              rw [← hu0]
              have hgu0 : (wr).grownBy u0 none := by rw [hu0]; exact gr_drew (World.grownBy.refl _ _)
              clear hu0
              refine tree_p rfl rfl rfl rfl _ rfl (by simp) (fun K hK => ?_)
              apply Exists.intro
              refine ⟨fun wq K' hK' => ?_, ?_⟩
              · go_wp2_with fail
                exact hK'
              go_simp
              refine hK _ ?_
              clear hK K
              refine tree_p rfl rfl rfl rfl _ rfl (by simp) (fun K hK => ?_)
              apply Exists.intro
              refine ⟨fun wq K' hK' => ?_, ?_⟩
              · go_wp2_with fail
                exact hK'
              go_simp
              refine hK _ ?_
              clear hK K
              refine tree_p rfl rfl rfl rfl _ rfl (by simp) (fun K hK => ?_)
              apply Exists.intro
              refine ⟨fun wq K' hK' => ?_, ?_⟩
              · go_wp2_with fail
                exact hK'
              go_simp
              refine hK _ ?_
              clear hK K
              refine tree_p rfl rfl rfl rfl _ rfl (by simp) (fun K hK => ?_)
              apply Exists.intro
              refine ⟨fun wq K' hK' => ?_, ?_⟩
              · go_wp2_with fail
                exact hK'
              go_simp
              refine hK _ ?_
              clear hK K
              refine tree_p rfl rfl rfl rfl _ rfl (by simp) (fun K hK => ?_)
              apply Exists.intro
              refine ⟨fun wq K' hK' => ?_, ?_⟩
              · go_wp2_with fail
                exact hK'
              go_simp
              refine hK _ ?_
              clear hK K
              refine tree_b rfl rfl rfl rfl _ rfl (by simp) (fun K hK => ?_)
              apply Exists.intro
              refine ⟨fun wq hq K' hK' => ?_, ?_⟩
              · obtain ⟨e0, -⟩ := (hb16.pure hq).c 0 rfl
                obtain ⟨e1, -⟩ := (hb16.pure hq).c 1 rfl
                obtain ⟨e2, -⟩ := (hb16.pure hq).c 2 rfl
                obtain ⟨e3, -⟩ := (hb16.pure hq).c 3 rfl
                have f0 := hq.k x0
                have f1 := hq.k x1
                go_wp2_with fail
                exact hK'
              go_simp
              refine hK _ ?_
              clear hK K
              refine tree_b rfl rfl rfl rfl _ rfl (by simp) (fun K hK => ?_)
              apply Exists.intro
              refine ⟨fun wq hq K' hK' => ?_, ?_⟩
              · obtain ⟨e0, -⟩ := (hb16.pure hq).c 0 rfl
                obtain ⟨e1, -⟩ := (hb16.pure hq).c 1 rfl
                obtain ⟨e2, -⟩ := (hb16.pure hq).c 2 rfl
                obtain ⟨e3, -⟩ := (hb16.pure hq).c 3 rfl
                have f0 := hq.k x0
                have f1 := hq.k x1
                go_wp2_with fail
                exact hK'
              go_simp
              refine hK _ ?_
              clear hK K
              refine tree_p rfl rfl rfl rfl _ rfl (by simp) (fun K hK => ?_)
              apply Exists.intro
              refine ⟨fun wq K' hK' => ?_, ?_⟩
              · go_wp2_with fail
                exact hK'
              go_simp
              refine hK _ ?_
              clear hK K
              refine tree_e0 (by kernel_rfl) rfl rfl (fun K hK => ?_)
              go_wp2_with fail
              refine (hd1.out u0).mono ?_
              rintro e w8 ⟨rfl, hg8⟩
              go_wp2_with fail
              try go_simp
              refine hK _ _ trivial ?_
              clear hK K
              refine tree_p rfl rfl rfl rfl _ rfl (by simp) (fun K hK => ?_)
              apply Exists.intro
              refine ⟨fun wq K' hK' => ?_, ?_⟩
              · go_wp2_with fail
                exact hK'
              go_simp
              refine hK _ ?_
              clear hK K
              refine tree_e0 (by kernel_rfl) rfl rfl (fun K hK => ?_)
              have hgr8 := gr_trans hgu0 hg8
              have hO8 := hOq.pure hgr8
              have c0 := hgr8.k x0
              have c1 := hgr8.k x1
              have f0 := hO8.frozen (b * 2)
              have f1 := hO8.frozen (b * 2 + 1)
              go_wp2_with fail
              try go_simp
              refine hK _ _ trivial ?_
              clear hK K
              refine tree_done ?_
              obtain ⟨w9, hw9⟩ : ∃ x, x = (w8.setCell ⟨gc, b * 2, none⟩ (.int .i64 z.1)).setCell ⟨gc, b * 2 + 1, none⟩ (.string z.2) := ⟨_, rfl⟩
              have hO9 : Own w9 w.heap.size 70 (some ⟨gc, 0, none⟩) cc (CL.set b z) := by rw [hw9]; exact hO8.set_clk hbC z.1 z.2
              have hg89 : w8.grownBy w9 (some gc) := by rw [hw9]; exact gr_set (p := ⟨gc, b * 2 + 1, none⟩) (gr_set (p := ⟨gc, b * 2, none⟩) (World.grownBy.refl w8 (some gc)) (.inl rfl) _) (.inl rfl) _
              have hR8 := hRq.pure hgr8
              have hR9 := hR8.ne hg89 (fun g e q => hR8.out.ne_own hO8 (by decide) e q) (fun i hi g e q => (hR8.ins i hi (by rw [← hR8.len]; exact hi)).2.ne_own hO8 (by decide) e q)
              have hgw9 := gr_row (hgw.t hgr8) hg89 (fun g e => by cases e; exact hgcw)
              rw [← hw9]
              clear hw9 c0 c1 f0 f1 hO8 hR8 hRq hOq hgr8 hg89 hgu0 hg8 x0 x1 hd1 hb16
              have hbq : b < PP.length := by rw [hPl.out]; exact hbl
              have hbr : b < raws.length := by rw [hR9.len]; exact hbq
              obtain ⟨hln, hOr⟩ := hR9.ins b hbr hbq
              have hcp := hR9.cell hbr
              rw [hln] at hcp
              have hgd : PP.getD b [] = PP[b] := by simp [List.getD_eq_getElem?_getD, hbq]
              rw [hgd] at hP2
              have hq5 := hrow5.out b hbq
              obtain ⟨q, hq0⟩ : ∃ q, q = PP[b] := ⟨_, rfl⟩
              rw [← hq0] at hcp hOr hP2 hq5
              clear hq0 hln hgd
              have hfr := hR9.out.frozen b
              obtain ⟨RA, hRA⟩ : ∃ x, x = raws[b].A := ⟨_, rfl⟩
              obtain ⟨RC, hRC⟩ : ∃ x, x = raws[b].c := ⟨_, rfl⟩
              rw [← hRA, ← hRC] at hcp hOr
              replace hRA := hide hRA
              clear hRC
              obtain ⟨i0, hi, hz, hi1, hi2⟩ := info_parts infoI
              have hszw := hgw9.size
              go_wp2_with (at_builtin; refine wpList_pushAt (α := Int) _ rfl (.tmp 90) (.tmp 92) _ rfl w.heap.size 3 i0 _ 8 Tryd.underlying22 hi hz hi1 hi2 rfl _ _ _ q rfl rfl (by exact hOr.pure (gr_alloc (World.grownBy.refl _ _) _)) 0 ⟨_, 0, none⟩ 1 1 [(n : Int)] rfl rfl (by exact sl_int1 _ _ _ _ (by first | rfl | simp)) ?c2 ?c3 ?c4 ?_)
              case c2 => simp; omega
              case c3 => simp [maxLen]; omega
              case c4 => simp; omega
              intro A5 c5 w5 hO5 hG5
              have hq9 := gr_alloc (World.grownBy.refl w9 none) (.cells #[.int .i64 (n : Int)] 3)
              have hR10 := hR9.pure hq9
              have hO10 := hO9.pure hq9
              have hG5k : Grew raws[b].A A5 (w9.alloc (.cells #[.int .i64 (n : Int)] 3)) w5 := by rw [← hRA.out]; exact hG5
              have hRp := hR10.put hbr hO5 hG5k
              have hOo := hR10.outer hbr hG5k
              have hO11 := hO10.ne hG5.1 (fun g e q => (hOr.pure hq9).ne_own hO10 (by decide) q e)
              have hO12 := hO11.ne (gr_set (World.grownBy.refl w5 (some gp)) (p := ⟨gp, b, none⟩) (.inl rfl) (.slice A5 (q ++ [(n : Int)]).length c5)) (fun g e q => hO11.ne_own hOo (by decide) e q)
              have hg5 := gr_row (hgw9.t hq9) hG5.1 (fun g e => ((hOr.pure hq9).blk_lt e).1)
              have hg12 := gr_row hg5 (gr_set (World.grownBy.refl w5 (some gp)) (p := ⟨gp, b, none⟩) (.inl rfl) (.slice A5 (q ++ [(n : Int)]).length c5)) (fun g e => by cases e; exact hgpw)
              have hln1 : (q ++ [(n : Int)]).length = q.length + 1 := by simp
              rw [hln1] at hRp hO12 hg12
              clear hln1
              have hfr5 := hOo.frozen b
              obtain ⟨cq, hcr, hcq⟩ := hOo.cell_at (by decide) hbr
              have hcr' : cq = [.slice raws[b].A raws[b].n raws[b].c] := hcr
              rw [hcr'] at hcq
              have hc5 : w5.cell? ⟨gp, b, none⟩ = some (.slice raws[b].A raws[b].n raws[b].c) := by
                have := hcq 0 _ rfl
                rw [show Enc.sz RawS = 1 from rfl] at this
                simpa using this
              clear hcr hcr'
              clear hcq hG5k hR9 hO9 hR10 hO10 hO11 hOo hO5 hG5 hq9 hOr hcp hfr hgw9 hg5 hgw hi hz hi1 hi2
              go_upto_region 26 with fail
              obtain ⟨w6, hw6⟩ : ∃ x, x = w5.setCell ⟨gp, b, none⟩ (.slice A5 (q.length + 1) c5) := ⟨_, rfl⟩
              rw [← hw6] at hRp hO12 hg12 ⊢
              clear hw6 hfr5 hc5
              have hbC2 : b < (CL.set b z).length := by rw [List.length_set]; exact hbC
              obtain ⟨k0, k1⟩ := hO12.cell_clk hbC2
              rw [List.getElem_set_self] at k0 k1
              have hRz : Hid (RowsN w6 w.heap.size w.heap.size 22 3 (some ⟨gp, 0, none⟩) p.length (raws.set b ⟨A5, q.length + 1, c5⟩) (greP p j ch (n + 1))) := by rw [hP2.out]; exact hRp
              rw [← hC2.out] at hO12
              replace hO12 := hide hO12
              clear hRp
              go_wp2_with fail
              (go_roundw; (case rel => exact ⟨n + 1, _, by omega, by go_num, by rw [hL2.out], hRz.out, hO12.out, hg12⟩); (case measure => simp [intOf]; omega))
        · obtain rfl : n = j.length := by omega
          have hRl : (greP p j ch j.length).length = p.length := greP_len _
          have hcap := hR.out.cap
          rw [hR.len, hRl] at hcap
          have hE := greL_eq (j := j) (ch := ch) hp0 j.length
          generalize greL p j ch j.length = GL at *
          replace hE := hide hE
          replace hRl := hide hRl
          go_wp2_with fail
          exact bodyPost_ret (v := .tuple #[.slice (some ⟨gp, 0, none⟩) p.length p.length, .int .i64 GL, .int .i64 0]) (by simp [results, Tryd.results12, go_sem]) rfl ⟨some ⟨gp, 0, none⟩, p.length, raws, _, by rw [hE.out, hRl.out], rfl, by rw [hRl.out]; exact Nat.le_refl _, hR, hg⟩

end Go.Proofs.YtanioobepfllgaaDoor

namespace Go.Proofs.YtanioobepfllgaaDoor
open Go Go.RowKit Go.Bl

theorem pl_pok {p : List Prn} {j : List Jb} {ch : Int} {Q : List (List Int)} (hF : farmF p j = 0) (hc : spanF ch 0 100000 = 0) (h : IsPl p.length j.length Q) : POk p j Q ch := by
  have h1 := (isPl_plan (p := p) hF).2 h
  have h2 : plannedF p j Q ch = 0 := by
    unfold plannedF
    rw [if_pos h1]
    exact hc
  exact pok_of h2
/-- the least end so far -/
def lstS (C : Nat → Int) (k : Nat) : Int := if k = 0 then -1 else C (minB C k)

theorem lstS_yes {C : Nat → Int} {k : Nat} (h : k = 0 ∨ C k < C (minB C k)) : minB C (k + 1) = k ∧ lstS C (k + 1) = C k := by
  have e : minB C (k + 1) = k := by
    show (if C k < C (minB C k) then k else minB C k) = k
    rcases h with h | h
    · subst h
      split
      · rfl
      · rfl
    · rw [if_pos h]
  refine ⟨e, ?_⟩
  unfold lstS
  rw [if_neg (by omega), e]

theorem lstS_no {C : Nat → Int} {k : Nat} (h0 : k ≠ 0) (h : ¬ C k < C (minB C k)) : minB C (k + 1) = minB C k ∧ lstS C (k + 1) = lstS C k := by
  have e : minB C (k + 1) = minB C k := by
    show (if C k < C (minB C k) then k else minB C k) = _
    rw [if_neg h]
  refine ⟨e, ?_⟩
  unfold lstS
  rw [if_neg (by omega), if_neg h0, e]

theorem endV_last {j : List Jb} {ch : Int} {m : ByteArray} {row : List Int} {i : Int} (h : row.length < (endV j ch m (row ++ [i])).length) : (endV j ch m (row ++ [i]))[row.length] = (doC (clkC j ch (0, m) row) (jobAt j i) ch).1 := by
  simp only [endV_snoc]
  rw [List.getElem_append_right (by rw [endV_len]; exact Nat.le_refl _)]
  simp [endV_len]

def LsF (C : Nat → Int) (k MB : Nat) (VK LS : Int) : Prop := ((k = 0 ∨ VK < C MB) → minB C (k + 1) = k ∧ lstS C (k + 1) = VK) ∧ (k ≠ 0 → ¬ VK < C MB → minB C (k + 1) = MB ∧ lstS C (k + 1) = LS) ∧ (k ≠ 0 → LS = C MB ∧ 0 ≤ LS) ∧ (k = 0 → LS = -1)

set_option maxHeartbeats 8000000 in
set_option maxRecDepth 100000 in
theorem greedyOf_any (P : Option Addr) (cp : Nat) (p : List Prn) (J : Option Addr) (cj : Nat) (j : List Jb) (ch : Int) (w : World) (hP : Sl w 0 P p) (hJ : Sl w 0 J j) (hF : farmF p j = 0) (hc : spanF ch 0 100000 = 0) :
    Calls Tryd.prog 14 #[.slice P p.length cp, .slice J j.length cj, .int .i64 ch] w fun e w' => ∃ B d, e = .returned (.tuple #[.slice B (greP p j ch j.length).length d, .int .i64 (lstP p j ch (greP p j ch j.length))]) ∧ Sl w' 0 B (greP p j ch j.length) ∧ w.grownBy w' none := by
  obtain ⟨hp0, hp50⟩ := farm_plen hF
  have hok := jok_of hF hc
  have hj5 := hok.len
  have hpk := hide (pl_pok hF hc (greP_isPl (j := j) (ch := ch) hp0))
  have hE := hide (lst_end (j := j) (ch := ch) (Q := greP p j ch j.length) (greP_len j.length : (greP p j ch j.length).length = p.length))
  clear hF hc
  have hok := hide hok
  obtain ⟨i0, hi, hz, hi1, hi2⟩ := info_parts info_intsR
  obtain ⟨w2, hrun, hoO, hg2⟩ := run_makeOwn (P := Tryd.prog) w 36 22 i0 _ (⟨none, 0, 0⟩ : RawS) Tryd.underlying36 hi hz hi1 rfl rfl .i64 .i64 p.length (by rw [hi2]; omega) (by simp [maxLen]; omega)
  clear hi hz hi1 hi2 i0
  obtain ⟨gp, hgp⟩ : ∃ g, g = w.heap.size := ⟨_, rfl⟩
  rw [← hgp] at hrun hoO
  have hgpw : w.heap.size ≤ gp := by omega
  clear hgp
  replace hoO := hoO.lower hgpw
  have hR0 := RowsN.made (α := Int) hoO (ei := 3) (li := w.heap.size) (by decide) (Nat.le_refl _)
  go_enter Tryd.func14, Tryd.ntmps14
  go_wp2_with fail
  clear hrun hoO
  go_loopw [22] (fun i wr => ∃ (n : Nat) (raws : List RawS), n ≤ j.length ∧ i = .int .i64 n ∧ RowsN wr w.heap.size w.heap.size 22 3 (some ⟨gp, 0, none⟩) p.length raws (greP p j ch n) ∧ w.grownBy wr none) (fun i _ => j.length - (intOf i).toNat)
  case atStart => exact ⟨0, _, Nat.zero_le _, rfl, hR0, hg2⟩
  case round =>
    clear hR0 hg2
    obtain ⟨n, raws, hn, rfl, hR, hg⟩ := hrel
    by_cases hlt : n < j.length
    · have hjat : jobAt j (n : Int) = j[n] := jobAt_nat hlt
      have hjb := hok.out.bd _ (List.getElem_mem hlt)
      have hPl : (greP p j ch n).length = p.length := greP_len n
      obtain ⟨hisp, hfl⟩ := greP_isP (j := j) (ch := ch) hp0 n
      have hbdC := hide fun k => clkR_bd (p := p) hok.out (Nat.le_of_lt hlt) hisp k
      obtain ⟨C, hC⟩ : ∃ C, C = greC p j ch (greP p j ch n) n := ⟨_, rfl⟩
      have hCk := hide fun k => (show C k = (doC (clkR p j ch k (greP p j ch n)) (jobAt j (n : Int)) ch).1 by rw [hC]; rfl)
      have hP2 : Hid (greP p j ch (n + 1) = (greP p j ch n).set (minB C p.length) ((greP p j ch n).getD (minB C p.length) [] ++ [(n : Int)])) := by rw [hC]; exact rfl
      have hbl := minB_in C hp0
      have hrow5 : Hid (∀ k (h : k < (greP p j ch n).length), (greP p j ch n)[k].length ≤ 500 ∧ ∀ i ∈ (greP p j ch n)[k] ++ [(n : Int)], 0 ≤ i ∧ i < (j.length : Int)) := fun k h => by
        have h1 := row_len h
        refine ⟨by omega, fun i hi => ?_⟩
        rcases List.mem_append.1 hi with hi | hi
        · have := hisp.bd i (row_in h i hi); omega
        · rw [List.mem_singleton] at hi; omega
      have hCkb := hide fun k => (show 0 ≤ C k ∧ C k ≤ 100200000 by
        rw [hCk.out k, hjat]
        have := hbdC.out k
        have := hok.out.chg
        unfold doC
        simp only
        split <;> omega)
      clear hC hfl hisp hjb hjat
      generalize greP p j ch n = PP at *
      replace hPl := hide hPl
      have hn0 : (0 : Int) ≤ (n : Int) ∧ (n : Int) < (j.length : Int) := by omega
      have hns : Hid (n < j.length) := hlt
      go_wp2_with fail
      rename World => wo
      go_loopw [10, 11, 27] (fun b l i wr => ∃ k : Nat, k ≤ p.length ∧ i = .int .i64 k ∧ b = .int .i64 ((minB C k : Nat) : Int) ∧ l = .int .i64 (lstS C k) ∧ wo.grownBy wr none) (fun _ _ i _ => p.length - (intOf i).toNat)
      case atStart => exact ⟨0, Nat.zero_le _, rfl, rfl, rfl, World.grownBy.refl _ _⟩
      case round =>
        obtain ⟨k, hk, rfl, rfl, rfl, hgq⟩ := hrel
        by_cases hlk : k < p.length
        · have hkP : k < PP.length := by rw [hPl.out]; exact hlk
          have hkr : k < raws.length := by rw [hR.len]; exact hkP
          obtain ⟨ga, oa, cx, rfl, _, hb2, rfl, hcx⟩ := (hP.pure (hg.t hgq)).at_ (by decide) hlk
          have p0 : wr.cell? ⟨ga, oa + k * 2, none⟩ = some (.string p[k].key) := hcx 0 _ rfl
          have p1 : wr.cell? ⟨ga, oa + k * 2 + 1, none⟩ = some (.string p[k].mat) := hcx 1 _ rfl
          clear hcx
          obtain ⟨hln, hOr⟩ := (hR.pure hgq).ins k hkr hkP
          have hcp := (hR.pure hgq).cell hkr
          rw [hln] at hcp
          have hq5 := hrow5.out k hkP
          have hCv := hCk.out k
          have hcl : clkR p j ch k PP = clkC j ch (0, p[k].mat) PP[k] := by
            unfold clkR
            rw [show PP.getD k [] = PP[k] by simp [List.getD_eq_getElem?_getD, hkP], show p.getD k default = p[k] by simp [List.getD_eq_getElem?_getD, hlk]]
          rw [hcl] at hCv
          have hVb := hCkb.out k
          have hyes := hide (@lstS_yes C k)
          have hno := hide (@lstS_no C k)
          have hls : Hid (k ≠ 0 → lstS C k = C (minB C k) ∧ 0 ≤ lstS C k) := fun h => by
            unfold lstS
            rw [if_neg h]
            exact ⟨rfl, (hCkb.out _).1⟩
          have hls0 : Hid (k = 0 → lstS C k = -1) := fun h => by unfold lstS; rw [if_pos h]
          clear hcl hln
          have hsl := hOr.sl.mono (Nat.zero_le _)
          have hJq := hJ.pure (hg.t hgq)
          obtain ⟨q, hq0⟩ : ∃ q, q = PP[k] := ⟨_, rfl⟩
          rw [← hq0] at hcp hsl hq5 hCv
          clear hq0 hOr
          generalize hpm : p[k].mat = pm at *
          generalize hpk' : p[k].key = pk at *
          clear hpm hpk'
          generalize raws[k].A = RA at *
          generalize raws[k].c = RC at *
          have hq50 := hq5.1
          have hin := hide hq5.2
          have hEv : Hid (q.length < (endV j ch pm (q ++ [(n : Int)])).length) := by rw [Hid, endV_len]; simp
          have hEl := hide (endV_last (j := j) (ch := ch) (m := pm) (row := q) (i := (n : Int)) hEv.out)
          rw [← hCv] at hEl
          generalize hCK : C k = VK at *
          replace hCK := hide hCK
          clear hCv hq5
          have hCl := hide fun W (h : wr.grownBy W none) => cloneInt_any RA RC q W (hsl.pure h) (by omega)
          have hEo := hide fun W A5 c5 (h : wr.grownBy W none) (hs : Sl W 0 A5 (q ++ [(n : Int)])) => endsOn_any pk pm J cj j A5 c5 (q ++ [(n : Int)]) ch W (hJq.pure h) hs hok.out (by simp; omega) hin.out
          obtain ⟨i0, hi, hz9, hi1, hi2⟩ := info_parts infoI
          replace hi := hide hi
          replace hz9 := hide hz9
          replace hi1 := hide hi1
          replace hi2 := hide hi2
          have hlen : Hid ((q ++ [(n : Int)]).length = q.length + 1) := by simp [Hid]
          have hk0 : (0 : Int) ≤ (k : Int) ∧ (k : Int) < (p.length : Int) := by omega
          obtain ⟨LS, hLS⟩ : ∃ x, x = lstS C k := ⟨_, rfl⟩
          rw [← hLS] at hls hls0 hno ⊢
          replace hLS := hide hLS
          obtain ⟨MB, hMB⟩ : ∃ x, x = minB C k := ⟨_, rfl⟩
          rw [← hMB] at hls hno hyes ⊢
          replace hMB := hide hMB
          have hLsF : LsF C k MB VK LS := ⟨hyes.out, hno.out, hls.out, hls0.out⟩
          clear hyes hno hls hls0
          go_upto_region 9 with fail
          refine wp_region_tree (fun wx => wr.grownBy wx none) [2, 2, 2, 1, 2, 2, 2, 2, 1, 0, 2, 0, 0, 2, 0, 2] (.bl 0 (.bl 1 (.bl 2 (.bl 3 (.bl 4 (.bl 5 (.bl 6 (.bl 7 (.bl 8 (.bl 10 (.bl 13 (.alt (.ef 9 (.ef 11 (.ef 12 (.ef 14 (.bl 15 .done))))) (.ef 11 (.ef 9 (.ef 12 (.ef 14 (.bl 15 .done))))))))))))))))) (by kernel_rfl) (by kernel_rfl) (gr_drew (World.grownBy.refl _ _)) ?_
          obtain ⟨u0, hu0⟩ : ∃ x, x = (wr).drew := ⟨_, rfl⟩
          rw [← hu0]
          have hgu0 : (wr).grownBy u0 none := by rw [hu0]; exact gr_drew (World.grownBy.refl _ _)
          clear hu0
          refine tree_p rfl rfl rfl rfl _ rfl (by simp) (fun K hK => ?_)
          apply Exists.intro
          refine ⟨fun wq K' hK' => ?_, ?_⟩
          · go_wp2_with fail
            exact hK'
          go_simp
          refine hK _ ?_
          clear hK K
          refine tree_p rfl rfl rfl rfl _ rfl (by simp) (fun K hK => ?_)
          apply Exists.intro
          refine ⟨fun wq K' hK' => ?_, ?_⟩
          · go_wp2_with fail
            exact hK'
          go_simp
          refine hK _ ?_
          clear hK K
          refine tree_p rfl rfl rfl rfl _ rfl (by simp) (fun K hK => ?_)
          apply Exists.intro
          refine ⟨fun wq K' hK' => ?_, ?_⟩
          · go_wp2_with fail
            exact hK'
          go_simp
          refine hK _ ?_
          clear hK K
          refine tree_b rfl rfl rfl rfl _ rfl (by simp) (fun K hK => ?_)
          apply Exists.intro
          refine ⟨fun wq hq K' hK' => ?_, ?_⟩
          · have kk0 := hq.k p0
            have kk1 := hq.k p1
            have kkc := hq.k hcp
            go_wp2_with fail
            exact hK'
          go_simp
          refine hK _ ?_
          clear hK K
          refine tree_p rfl rfl rfl rfl _ rfl (by simp) (fun K hK => ?_)
          apply Exists.intro
          refine ⟨fun wq K' hK' => ?_, ?_⟩
          · go_wp2_with fail
            exact hK'
          go_simp
          refine hK _ ?_
          clear hK K
          refine tree_p rfl rfl rfl rfl _ rfl (by simp) (fun K hK => ?_)
          apply Exists.intro
          refine ⟨fun wq K' hK' => ?_, ?_⟩
          · go_wp2_with fail
            exact hK'
          go_simp
          refine hK _ ?_
          clear hK K
          refine tree_p rfl rfl rfl rfl _ rfl (by simp) (fun K hK => ?_)
          apply Exists.intro
          refine ⟨fun wq K' hK' => ?_, ?_⟩
          · go_wp2_with fail
            exact hK'
          go_simp
          refine hK _ ?_
          clear hK K
          refine tree_p rfl rfl rfl rfl _ rfl (by simp) (fun K hK => ?_)
          apply Exists.intro
          refine ⟨fun wq K' hK' => ?_, ?_⟩
          · go_wp2_with fail
            exact hK'
          go_simp
          refine hK _ ?_
          clear hK K
          refine tree_b rfl rfl rfl rfl _ rfl (by simp) (fun K hK => ?_)
          apply Exists.intro
          refine ⟨fun wq hq K' hK' => ?_, ?_⟩
          · have kk0 := hq.k p0
            have kk1 := hq.k p1
            have kkc := hq.k hcp
            go_wp2_with fail
            exact hK'
          go_simp
          refine hK _ ?_
          clear hK K
          refine tree_p rfl rfl rfl rfl _ rfl (by simp) (fun K hK => ?_)
          apply Exists.intro
          refine ⟨fun wq K' hK' => ?_, ?_⟩
          · go_wp2_with fail
            exact hK'
          go_simp
          refine hK _ ?_
          clear hK K
          refine tree_p rfl rfl rfl rfl _ rfl (by simp) (fun K hK => ?_)
          apply Exists.intro
          refine ⟨fun wq K' hK' => ?_, ?_⟩
          · go_wp2_with fail
            exact hK'
          go_simp
          refine hK _ ?_
          clear hK K
          refine tree_alt ?_ ?_
          · refine tree_e rfl rfl (fun K hK => ?_)
            go_wp2_with fail
            refine (hCl.out u0 (gr_trans hgu0 (World.grownBy.refl _ _))).mono ?_
            rintro e w9 ⟨A9, c9, rfl, hO9, hg9⟩
            go_wp2_with fail
            try go_simp
            refine hK _ _ (gr_trans (gr_trans hgu0 (World.grownBy.refl _ _)) hg9) ?_
            clear hK K
            have hO9s : Own w9 wr.heap.size 3 A9 c9 q := hO9.lower (gr_trans hgu0 (World.grownBy.refl _ _)).size
            refine tree_e rfl rfl (fun K hK => ?_)
            go_wp2_with fail
            try go_simp
            refine hK _ _ (gr_alloc (gr_trans hgu0 hg9) _) ?_
            clear hK K
            obtain ⟨w11, hw11⟩ : ∃ x, x = (w9).alloc (.cells [.int .i64 (n : Int)].toArray 3) := ⟨_, rfl⟩
            have hg11 : (w9).grownBy w11 none := by rw [hw11]; exact gr_alloc (World.grownBy.refl _ _) _
            have hb11 : Box w11 (w9).heap.size 3 [.int .i64 (n : Int)] := by rw [hw11]; exact Box.new _ _ _
            rw [← hw11]
            clear hw11
            have hs11 := hb11.sl (l := [(n : Int)]) (lo := 0) (row_ints _ _ [(n : Int)]) (Nat.zero_le _) (by simp [maxLen])
            refine tree_e rfl rfl (fun K hK => ?_)
            have hgb := gr_trans hgu0 (gr_trans hg9 hg11)
            refine wp_pushAt (α := Int) _ (.tmp 39) (.tmp 41) _ rfl wr.heap.size 3 i0 _ 8 Tryd.underlying22 hi.out hz9.out hi1.out hi2.out rfl _ _ _ q rfl rfl (by exact hO9s.pure hg11) 0 ⟨_, 0, none⟩ 1 1 [(n : Int)] rfl rfl (by exact hs11.pure (World.grownBy.refl _ _)) ?_ ?_ ?_ ?_
            · simp; omega
            · simp [maxLen]; omega
            · exact hgb.size
            intro A12 c12 w12 hO12 hG12
            have hgt : wr.grownBy w12 none := gr_row hgb hG12.1 (fun x e => (hO9s.blk_lt e).1)
            have hEo12 := hide (hEo.out w12 A12 c12 hgt (hO12.sl.mono (Nat.zero_le _)))
            rw [hlen.out] at hEo12 ⊢
            clear hO12 hG12
            try go_simp
            refine hK _ _ (hgt) ?_
            clear hK K
            refine tree_e0 (by kernel_rfl) rfl rfl (fun K hK => ?_)
            go_wp2_with fail
            refine hEo12.out.mono ?_
            rintro e w14 ⟨A14, c14, rfl, hO14, hg14⟩
            go_wp2_with fail
            try go_simp
            refine hK _ _ trivial ?_
            clear hK K
            refine tree_p rfl rfl rfl rfl _ rfl (by simp) (fun K hK => ?_)
            apply Exists.intro
            refine ⟨fun wq K' hK' => ?_, ?_⟩
            · go_wp2_with fail
              exact hK'
            go_simp
            refine hK _ ?_
            clear hK K
            refine tree_done ?_
            have hgz := hgq.t (hgt.t hg14)
            obtain ⟨g14, rfl, -, -⟩ := hO14.shape (by have := hEv.out; omega)
            have hcE := hO14.cell_int hEv.out
            rw [hEl.out] at hcE
            clear hO14 hg14 hgt hEo12
            obtain ⟨hyes, hno, hls, hls0⟩ := hLsF
            by_cases hc0 : k = 0 ∨ VK < C MB
            · obtain ⟨e1, e2⟩ := hyes hc0
              have e1 := hide e1
              have e2 := hide e2
              rcases Nat.eq_zero_or_pos k with hk00 | hk00
              · have hL := hls0 hk00
                subst hL
                clear hyes hno hls hls0 hc0
                go_wp2_with fail
                (go_roundw; (case rel => exact ⟨k + 1, by omega, by go_num, by rw [e1.out], by rw [e2.out], hgz⟩); (case measure => simp [intOf]; omega))
              · obtain ⟨h1, h2⟩ := hls (by omega)
                have h3 : VK < LS := by rw [h1]; exact hc0.resolve_left (by omega)
                clear hyes hno hls hls0 hc0 h1
                go_wp2_with fail
                (go_roundw; (case rel => exact ⟨k + 1, by omega, by go_num, by rw [e1.out], by rw [e2.out], hgz⟩); (case measure => simp [intOf]; omega))
            · obtain ⟨e1, e2⟩ := hno (fun h => hc0 (.inl h)) (fun h => hc0 (.inr h))
              have e1 := hide e1
              have e2 := hide e2
              obtain ⟨h1, h2⟩ := hls (fun h => hc0 (.inl h))
              have h3 : LS ≤ VK := by
                rw [h1]
                exact Int.not_lt.1 (fun h => hc0 (.inr h))
              clear hyes hno hls hls0 hc0 h1
              go_wp2_with fail
              (go_roundw; (case rel => exact ⟨k + 1, by omega, by go_num, by rw [e1.out], by rw [e2.out], hgz⟩); (case measure => simp [intOf]; omega))
          · refine tree_e rfl rfl (fun K hK => ?_)
            go_wp2_with fail
            try go_simp
            refine hK _ _ (gr_alloc (gr_trans hgu0 (World.grownBy.refl _ _)) _) ?_
            clear hK K
            obtain ⟨w11, hw11⟩ : ∃ x, x = (u0).alloc (.cells [.int .i64 (n : Int)].toArray 3) := ⟨_, rfl⟩
            have hg11 : (u0).grownBy w11 none := by rw [hw11]; exact gr_alloc (World.grownBy.refl _ _) _
            have hb11 : Box w11 (u0).heap.size 3 [.int .i64 (n : Int)] := by rw [hw11]; exact Box.new _ _ _
            rw [← hw11]
            clear hw11
            have hs11 := hb11.sl (l := [(n : Int)]) (lo := 0) (row_ints _ _ [(n : Int)]) (Nat.zero_le _) (by simp [maxLen])
            refine tree_e rfl rfl (fun K hK => ?_)
            go_wp2_with fail
            refine (hCl.out w11 (gr_trans hgu0 hg11)).mono ?_
            rintro e w9 ⟨A9, c9, rfl, hO9, hg9⟩
            go_wp2_with fail
            try go_simp
            refine hK _ _ (gr_trans (gr_trans hgu0 hg11) hg9) ?_
            clear hK K
            have hO9s : Own w9 wr.heap.size 3 A9 c9 q := hO9.lower (gr_trans hgu0 hg11).size
            refine tree_e rfl rfl (fun K hK => ?_)
            have hgb := gr_trans hgu0 (gr_trans hg11 hg9)
            refine wp_pushAt (α := Int) _ (.tmp 39) (.tmp 41) _ rfl wr.heap.size 3 i0 _ 8 Tryd.underlying22 hi.out hz9.out hi1.out hi2.out rfl _ _ _ q rfl rfl (by exact hO9s.pure (World.grownBy.refl _ _)) 0 ⟨_, 0, none⟩ 1 1 [(n : Int)] rfl rfl (by exact hs11.pure hg9) ?_ ?_ ?_ ?_
            · simp; omega
            · simp [maxLen]; omega
            · exact hgb.size
            intro A12 c12 w12 hO12 hG12
            have hgt : wr.grownBy w12 none := gr_row hgb hG12.1 (fun x e => (hO9s.blk_lt e).1)
            have hEo12 := hide (hEo.out w12 A12 c12 hgt (hO12.sl.mono (Nat.zero_le _)))
            rw [hlen.out] at hEo12 ⊢
            clear hO12 hG12
            try go_simp
            refine hK _ _ (hgt) ?_
            clear hK K
            refine tree_e0 (by kernel_rfl) rfl rfl (fun K hK => ?_)
            go_wp2_with fail
            refine hEo12.out.mono ?_
            rintro e w14 ⟨A14, c14, rfl, hO14, hg14⟩
            go_wp2_with fail
            try go_simp
            refine hK _ _ trivial ?_
            clear hK K
            refine tree_p rfl rfl rfl rfl _ rfl (by simp) (fun K hK => ?_)
            apply Exists.intro
            refine ⟨fun wq K' hK' => ?_, ?_⟩
            · go_wp2_with fail
              exact hK'
            go_simp
            refine hK _ ?_
            clear hK K
            refine tree_done ?_
            have hgz := hgq.t (hgt.t hg14)
            obtain ⟨g14, rfl, -, -⟩ := hO14.shape (by have := hEv.out; omega)
            have hcE := hO14.cell_int hEv.out
            rw [hEl.out] at hcE
            clear hO14 hg14 hgt hEo12
            obtain ⟨hyes, hno, hls, hls0⟩ := hLsF
            by_cases hc0 : k = 0 ∨ VK < C MB
            · obtain ⟨e1, e2⟩ := hyes hc0
              have e1 := hide e1
              have e2 := hide e2
              rcases Nat.eq_zero_or_pos k with hk00 | hk00
              · have hL := hls0 hk00
                subst hL
                clear hyes hno hls hls0 hc0
                go_wp2_with fail
                (go_roundw; (case rel => exact ⟨k + 1, by omega, by go_num, by rw [e1.out], by rw [e2.out], hgz⟩); (case measure => simp [intOf]; omega))
              · obtain ⟨h1, h2⟩ := hls (by omega)
                have h3 : VK < LS := by rw [h1]; exact hc0.resolve_left (by omega)
                clear hyes hno hls hls0 hc0 h1
                go_wp2_with fail
                (go_roundw; (case rel => exact ⟨k + 1, by omega, by go_num, by rw [e1.out], by rw [e2.out], hgz⟩); (case measure => simp [intOf]; omega))
            · obtain ⟨e1, e2⟩ := hno (fun h => hc0 (.inl h)) (fun h => hc0 (.inr h))
              have e1 := hide e1
              have e2 := hide e2
              obtain ⟨h1, h2⟩ := hls (fun h => hc0 (.inl h))
              have h3 : LS ≤ VK := by
                rw [h1]
                exact Int.not_lt.1 (fun h => hc0 (.inr h))
              clear hyes hno hls hls0 hc0 h1
              go_wp2_with fail
              (go_roundw; (case rel => exact ⟨k + 1, by omega, by go_num, by rw [e1.out], by rw [e2.out], hgz⟩); (case measure => simp [intOf]; omega))
        · obtain rfl : k = p.length := by omega
          have hRq := hR.pure hgq
          have hgw := hg.t hgq
          clear hR hg hgq hCk hCkb hbdC
          obtain ⟨b, hb⟩ : ∃ b, b = minB C p.length := ⟨_, rfl⟩
          rw [← hb] at hP2 hbl ⊢
          clear hb
          generalize lstS C p.length = LZ at *
          have hbq : b < PP.length := by rw [hPl.out]; exact hbl
          have hbr : b < raws.length := by rw [hRq.len]; exact hbq
          obtain ⟨hln, hOr⟩ := hRq.ins b hbr hbq
          have hcp := hRq.cell hbr
          rw [hln] at hcp
          have hgd : PP.getD b [] = PP[b] := by simp [List.getD_eq_getElem?_getD, hbq]
          rw [hgd] at hP2
          have hq5 := (hrow5.out b hbq).1
          obtain ⟨q, hq0⟩ : ∃ q, q = PP[b] := ⟨_, rfl⟩
          rw [← hq0] at hcp hOr hP2 hq5
          clear hq0 hln hgd
          have hfr := hRq.out.frozen b
          obtain ⟨RA, hRA⟩ : ∃ x, x = raws[b].A := ⟨_, rfl⟩
          obtain ⟨RC, hRC⟩ : ∃ x, x = raws[b].c := ⟨_, rfl⟩
          rw [← hRA, ← hRC] at hcp hOr
          replace hRA := hide hRA
          clear hRC
          have hk1 : (0 : Int) ≤ (b : Int) ∧ (b : Int) < (p.length : Int) := by omega
          obtain ⟨i0, hi, hz, hi1, hi2⟩ := info_parts infoI
          have hszw := hgw.size
          go_wp2_with (at_builtin; refine wpList_pushAt (α := Int) _ rfl (.tmp 66) (.tmp 68) _ rfl w.heap.size 3 i0 _ 8 Tryd.underlying22 hi hz hi1 hi2 rfl _ _ _ q rfl rfl (by exact hOr.pure (gr_alloc (World.grownBy.refl _ _) _)) 0 ⟨_, 0, none⟩ 1 1 [(n : Int)] rfl rfl (by exact sl_int1 _ _ _ _ (by first | rfl | simp)) ?c2 ?c3 ?c4 ?_)
          case c2 => simp; omega
          case c3 => simp [maxLen]; omega
          case c4 => simp; omega
          intro A5 c5 w5 hO5 hG5
          have hq9 := gr_alloc (World.grownBy.refl wr none) (.cells #[.int .i64 (n : Int)] 3)
          have hR10 := hRq.pure hq9
          have hG5k : Grew raws[b].A A5 (wr.alloc (.cells #[.int .i64 (n : Int)] 3)) w5 := by rw [← hRA.out]; exact hG5
          have hRp := hR10.put hbr hO5 hG5k
          have hOo := hR10.outer hbr hG5k
          have hg5 := gr_row (hgw.t hq9) hG5.1 (fun g e => ((hOr.pure hq9).blk_lt e).1)
          have hg12 := gr_row hg5 (gr_set (World.grownBy.refl w5 (some gp)) (p := ⟨gp, b, none⟩) (.inl rfl) (.slice A5 (q ++ [(n : Int)]).length c5)) (fun g e => by cases e; exact hgpw)
          have hln1 : (q ++ [(n : Int)]).length = q.length + 1 := by simp
          rw [hln1] at hRp hg12
          clear hln1
          have hfr5 := hOo.frozen b
          obtain ⟨cq, hcr, hcq⟩ := hOo.cell_at (by decide) hbr
          have hcr' : cq = [.slice raws[b].A raws[b].n raws[b].c] := hcr
          rw [hcr'] at hcq
          have hc5 : w5.cell? ⟨gp, b, none⟩ = some (.slice raws[b].A raws[b].n raws[b].c) := by
            have := hcq 0 _ rfl
            rw [show Enc.sz RawS = 1 from rfl] at this
            simpa using this
          clear hcr hcr' hcq hG5k hRq hR10 hOo hO5 hG5 hq9 hOr hcp hfr hg5 hgw hi hz hi1 hi2
          have hRz : Hid (RowsN (w5.setCell ⟨gp, b, none⟩ (.slice A5 (q.length + 1) c5)) w.heap.size w.heap.size 22 3 (some ⟨gp, 0, none⟩) p.length (raws.set b ⟨A5, q.length + 1, c5⟩) (greP p j ch (n + 1))) := by rw [hP2.out]; exact hRp
          clear hRp
          have hns2 := hns.out
          go_wp2_with fail
          (go_roundw; (case rel => exact ⟨n + 1, _, by omega, by go_num, hRz.out, hg12⟩); (case measure => simp [intOf]; omega))
    · obtain rfl : n = j.length := by omega
      have hRl := hide (greP_len (p := p) (j := j) (ch := ch) j.length)
      have hEb := hide (endsBy_any P cp p J cj j (some ⟨gp, 0, none⟩) p.length (greP p j ch j.length) ch wr (hP.pure hg) (hJ.pure hg) (hR.sl.mono (Nat.zero_le _)) hpk.out)
      rw [hE.out, hRl.out] at hEb
      have hs := hR.sl.mono (Nat.zero_le _)
      go_wp2_with fail
      refine hEb.out.mono ?_
      rintro e w9 ⟨gE, rfl, -, hg9⟩
      go_wp2_with fail
      exact bodyPost_ret (v := .tuple #[.slice (some ⟨gp, 0, none⟩) p.length p.length, .int .i64 (lstP p j ch (greP p j ch j.length))]) (by simp [results, Tryd.results14, go_sem]) rfl ⟨_, _, by rw [hRl.out], hs.pure hg9, hg.t hg9⟩

end Go.Proofs.YtanioobepfllgaaDoor

namespace Go.Bl
open Go
section
variable {α : Type} [Enc α] {w : World} {lo : Nat}
/-- rows of rows, and the slices that lie in the outer one -/
theorem row_raws : ∀ {ls : List (List α)} {cs : List Value}, Row w lo ls cs → ∃ raws : List RawS, Row w lo raws cs ∧ All2 (fun (r : RawS) (l : List α) => r.n = l.length ∧ l.length ≤ r.c ∧ Sl w lo r.A l) raws ls
  | [], cs, h => ⟨[], h, .nil⟩
  | l :: ls, cs, h => by
    obtain ⟨c1, c2, rfl, ⟨A, c, rfl, h1, h2⟩, h3⟩ := h
    obtain ⟨raws, h4, h5⟩ := row_raws h3
    exact ⟨⟨A, l.length, c⟩ :: raws, ⟨_, c2, rfl, rfl, h4⟩, .cons ⟨rfl, h1, h2⟩ h5⟩

theorem raws_row : ∀ {raws : List RawS} {ls : List (List α)} {cs : List Value}, Row w lo raws cs → All2 (fun (r : RawS) (l : List α) => r.n = l.length ∧ l.length ≤ r.c ∧ Sl w lo r.A l) raws ls → Row w lo ls cs
  | [], [], cs, h, .nil => by
    have h' : cs = [] := h
    exact h'
  | r :: _, l :: _, cs, h, .cons ⟨h1, h2, h3⟩ h4 => by
    obtain ⟨c1, c2, rfl, hc, h5⟩ := h
    have hc' : c1 = [.slice r.A r.n r.c] := hc
    subst hc'
    exact ⟨_, c2, rfl, ⟨r.A, r.c, by rw [h1], h2, h3⟩, raws_row h5 h4⟩

theorem sl_raws {A : Option Addr} {ls : List (List α)} (h : Sl w lo A ls) : ∃ raws : List RawS, Sl w lo A raws ∧ All2 (fun (r : RawS) (l : List α) => r.n = l.length ∧ l.length ≤ r.c ∧ Sl w lo r.A l) raws ls := by
  obtain ⟨hm, cs, hr, hl⟩ := h
  obtain ⟨raws, h1, h2⟩ := row_raws hr
  exact ⟨raws, ⟨by rw [h2.len]; exact hm, cs, h1, hl⟩, h2⟩

theorem raws_sl {A : Option Addr} {raws : List RawS} {ls : List (List α)} (h : Sl w lo A raws) (h2 : All2 (fun (r : RawS) (l : List α) => r.n = l.length ∧ l.length ≤ r.c ∧ Sl w lo r.A l) raws ls) : Sl w lo A ls := by
  obtain ⟨hm, cs, hr, hl⟩ := h
  exact ⟨by rw [← h2.len]; exact hm, cs, raws_row hr h2, hl⟩
end

end Go.Bl
namespace Go.Proofs.YtanioobepfllgaaDoor
open Go Go.RowKit Go.Bl

/-! ### sums of ends -/

theorem getD_sum : ∀ (E : List Int), (((List.range E.length).map fun i : Nat => (i : Int)).map fun i => E.getD i.toNat 0).sum = E.sum := by
  intro E
  have : ∀ k, k ≤ E.length → (((List.range k).map fun i : Nat => (i : Int)).map fun i => E.getD i.toNat 0).sum = (E.take k).sum := by
    intro k
    induction k with
    | zero => intro _; rfl
    | succ k ih =>
      intro hk
      rw [List.range_succ, List.map_append, List.map_append, List.sum_append, ih (by omega), List.take_succ_eq_append_getElem (by omega), List.sum_append]
      simp [List.getD_eq_getElem?_getD, show k < E.length by omega]
  rw [this _ (Nat.le_refl _), List.take_length]

theorem prs_fst (p : List Prn) (j : List Jb) (ch : Int) (Q : List (List Int)) : ∀ k, k ≤ Q.length → (pairsK p j Q ch k).map (·.1) = (Q.take k).flatten
  | 0, _ => by simp [pairsK]
  | k + 1, h => by
    rw [pairsK_succ, List.map_append, prs_fst p j ch Q k (by omega), List.take_succ_eq_append_getElem (by omega), List.flatten_append]
    unfold rowP
    rw [rowC_fst]
    simp [List.getD_eq_getElem?_getD, show k < Q.length by omega]

theorem sum_ends {p : List Prn} {j : List Jb} {ch : Int} {Q : List (List Int)} (h : IsPl p.length j.length Q) : (endsF p j Q ch).sum = sumP p j ch Q := by
  have hE : endsF p j Q ch = (prsA p j ch Q).foldl (fun o q => o.set q.1.toNat q.2) (List.replicate j.length 0) := by
    unfold endsF outO prsA
    rw [h.len]
  have hf : (prsA p j ch Q).map (·.1) = Q.flatten := by
    unfold prsA
    rw [← h.len, prs_fst p j ch Q _ (Nat.le_refl _), List.take_length]
  obtain ⟨h1, -⟩ := outO_get (n := j.length) (prsA p j ch Q) (List.replicate j.length 0) (by simp) (by rw [hf]; exact h.isp.nd) (fun q hq => by
    have : q.1 ∈ (prsA p j ch Q).map (·.1) := List.mem_map_of_mem hq
    rw [hf] at this
    exact h.isp.bd _ this)
  have hl : (endsF p j Q ch).length = j.length := endsF_len p j Q ch
  rw [← getD_sum, hl, ← perm_sum (isP_perm h.isp h.all)]
  unfold sumP
  rw [← hf, List.map_map]
  congr 1
  refine List.map_congr_left fun q hq => ?_
  show (endsF p j Q ch).getD q.1.toNat 0 = q.2
  rw [hE, h1 q hq]

/-! ### which jobs are used, as bits -/

def b1 (b : Bool) : Nat := if b then 1 else 0

def bt (T : List Int) : Nat := b1 (memI T 0) + 2 * b1 (memI T 1) + 4 * b1 (memI T 2) + 8 * b1 (memI T 3)

theorem bt_le (T : List Int) : bt T ≤ 15 := by
  unfold bt b1
  (repeat' split) <;> omega

theorem bt_nil : bt [] = 0 := rfl

theorem bt_bit (T : List Int) {k : Nat} (hk : k ≤ 3) : (bt T >>> k) % 2 = b1 (memI T (k : Int)) := by
  rcases (show k = 0 ∨ k = 1 ∨ k = 2 ∨ k = 3 by omega) with rfl | rfl | rfl | rfl <;> unfold bt <;>
    (rcases memI T 0 with _ | _) <;> (rcases memI T 1 with _ | _) <;> (rcases memI T 2 with _ | _) <;> (rcases memI T 3 with _ | _) <;> first | decide | rfl

theorem bt_or (T : List Int) {k : Nat} (hk : k ≤ 3) (h : memI T (k : Int) = false) : bt T ||| 2 ^ k = bt (T ++ [(k : Int)]) := by
  unfold bt
  rw [memI_snoc, memI_snoc, memI_snoc, memI_snoc]
  rcases (show k = 0 ∨ k = 1 ∨ k = 2 ∨ k = 3 by omega) with rfl | rfl | rfl | rfl
  · have h : memI T 0 = false := h
    rw [h]; generalize memI T 1 = b; generalize memI T 2 = c; generalize memI T 3 = d; revert b c d; decide
  · have h : memI T 1 = false := h
    rw [h]; generalize memI T 0 = b; generalize memI T 2 = c; generalize memI T 3 = d; revert b c d; decide
  · have h : memI T 2 = false := h
    rw [h]; generalize memI T 1 = b; generalize memI T 0 = c; generalize memI T 3 = d; revert b c d; decide
  · have h : memI T 3 = false := h
    rw [h]; generalize memI T 1 = b; generalize memI T 2 = c; generalize memI T 0 = d; revert b c d; decide

theorem bt_all {n : Nat} {T : List Int} (hn : n ≤ 4) (h : IsP n T) : bt T = 2 ^ n - 1 ↔ T.length = n := by
  have hm : ∀ k : Nat, n ≤ k → memI T (k : Int) = false := fun k hk => by
    unfold memI
    rw [decide_eq_false_iff_not]
    intro hc
    have := (h.bd _ hc).2
    omega
  have key : bt T = 2 ^ n - 1 ↔ ∀ k, k < n → memI T (k : Int) = true := by
    have e : ∀ a b c d : Bool, ∀ m, m ≤ 4 → (∀ k : Fin 4, m ≤ k.val → [a, b, c, d].getD k.val false = false) → ((b1 a + 2 * b1 b + 4 * b1 c + 8 * b1 d = 2 ^ m - 1) ↔ ∀ k : Fin 4, k.val < m → [a, b, c, d].getD k.val false = true) := by
      intro a b c d m hm4
      rcases (show m = 0 ∨ m = 1 ∨ m = 2 ∨ m = 3 ∨ m = 4 by omega) with rfl | rfl | rfl | rfl | rfl <;> (revert a b c d; decide)
    have hg : ∀ k : Fin 4, [memI T 0, memI T 1, memI T 2, memI T 3].getD k.val false = memI T (k.val : Int) := by
      intro k
      match k with
      | 0 => rfl
      | 1 => rfl
      | 2 => rfl
      | 3 => rfl
    have e2 := e (memI T 0) (memI T 1) (memI T 2) (memI T 3) n hn (fun k hk => by rw [hg]; exact hm k.val hk)
    unfold bt
    rw [e2]
    constructor
    · intro h1 k hk
      have := h1 ⟨k, by omega⟩ hk
      rwa [hg] at this
    · intro h1 k hk
      rw [hg]
      exact h1 k.val hk
  rw [key]
  constructor
  · intro h1
    have hsub : ((List.range n).map fun i : Nat => (i : Int)) ⊆ T := fun x hx => by
      obtain ⟨q, hq, rfl⟩ := List.mem_map.1 hx
      have := h1 q (List.mem_range.1 hq)
      unfold memI at this
      simpa using this
    have hnd : ((List.range n).map fun i : Nat => (i : Int)).Nodup := by
      rw [List.nodup_iff_pairwise_ne, List.pairwise_map]
      exact List.pairwise_lt_range.imp fun h => by omega
    have h2 := hnd.length_le_of_subset hsub
    have h3 := h.nd.length_le_of_subset (l₂ := (List.range n).map fun i : Nat => (i : Int)) (fun x hx => by
      have hb := h.bd x hx
      obtain ⟨q, rfl⟩ := Int.eq_ofNat_of_zero_le hb.1
      exact List.mem_map.2 ⟨q, List.mem_range.2 (by omega), rfl⟩)
    simp at h2 h3
    omega
  · intro h1 k hk
    have := isP_all h h1 hk
    unfold memI
    simpa using this

/-! ### walks -/

set_option maxHeartbeats 400000 in
theorem cloneRowsR_any (A : Option Addr) (c : Nat) (l : List RawS) (w : World) (hl : Sl w 0 A l) (hlen : l.length ≤ 1000000) :
    Calls Tryd.prog 41 #[.slice A l.length c] w fun e w' => ∃ A' c', e = .returned (.slice A' l.length c') ∧ Own w' w.heap.size 22 A' c' l ∧ w.grownBy w' none := by
  obtain ⟨i0, hi, hz, h1, h2⟩ := info_parts info_intsR
  have hq := fun W => Lib.run_eql_slice_nil (P := Tryd.prog) W 36 22 A l.length c 0 0 Tryd.underlying36
  rcases A with _ | ad
  · have hl0 : l = [] := by
      rcases Nat.eq_zero_or_pos l.length with h | h
      · exact List.eq_nil_of_length_eq_zero h
      · obtain ⟨g, o, cx, e, _⟩ := hl.at_ (by decide) h
        cases e
    subst hl0
    simp only [List.length_nil] at hq
    go_enter Tryd.func41, Tryd.ntmps41
    go_wp2_with fail
    go_ret
    exact ⟨none, 0, rfl, Own.nil _ _ _, World.grownBy.refl _ _⟩
  · go_enter Tryd.func41, Tryd.ntmps41
    go_wp2_with (at_builtin; refine wpList_push _ rfl (.tmp 5) (.tmp 6) _ rfl w.heap.size 22 i0 _ 24 Tryd.underlying36 hi hz h1 h2 rfl _ _ _ [] rfl rfl (by exact Own.empty _ _ _ (Nat.le_refl _)) 0 ad _ c l rfl rfl (by exact hl.pure (gr_alloc (World.grownBy.refl _ _) _)) ?c2 ?c3 ?c4 ?_)
    case c2 => simp; omega
    case c3 => simp [maxLen]; omega
    case c4 => simp
    intro A2 c2 w2 hown hup
    go_wp2
    go_ret
    exact ⟨A2, c2, rfl, hown, hup.gr (Nat.le_refl _) (gr_alloc (World.grownBy.refl _ _) _)⟩

set_option maxHeartbeats 2000000 in
set_option maxRecDepth 100000 in
theorem compareRowsR_any (A : Option Addr) (c : Nat) (l : List (List Int)) (B : Option Addr) (d : Nat) (m : List (List Int)) (w : World) (hl : Sl w 0 A l) (hm : Sl w 0 B m) :
    Calls Tryd.prog 37 #[.slice A l.length c, .slice B m.length d, .func (.func 38) #[] #[]] w fun e w' => e = .returned (.int .i64 (cmpLL l m)) ∧ w' = w := by
  have hl1 := hl.1
  have hm1 := hm.1
  unfold maxLen at hl1 hm1
  obtain ⟨V, hV⟩ : ∃ V, cmpLL l m = V := ⟨_, rfl⟩
  rw [hV]
  replace hV := hide hV
  go_enter Tryd.func37, Tryd.ntmps37
  go_wp2_with fail
  go_loopw [13] (fun i wr => ∃ k : Nat, k ≤ l.length ∧ i = .int .i64 k ∧ Hid (cmpLL (l.drop k) (m.drop k) = V) ∧ wr = w) (fun i _ => l.length - (intOf i).toNat)
  case atStart => exact ⟨0, Nat.zero_le _, rfl, hV.out, rfl⟩
  case round =>
    obtain ⟨k, hk, rfl, hr, rfl⟩ := hrel
    by_cases hlt : k < l.length
    · obtain ⟨g, o, Bk, dk, rfl, hb1, c0, hsl⟩ := sl_inner hl hlt
      by_cases hlt2 : k < m.length
      · obtain ⟨g', o', Bm, dm, rfl, hb1', c1, hsm⟩ := sl_inner hm hlt2
        have hs : cmpG cmpL (l.drop k) (m.drop k) = V := hr.out
        rw [cmpG_at hlt hlt2] at hs
        replace hs := hide hs
        have hC := hide (compareInts_any Bk dk l[k] Bm dm m[k] wr hsl hsm)
        generalize cmpL l[k] m[k] = q at *
        generalize l[k] = a at *
        generalize m[k] = b at *
        have hi0 : (0 : Int) ≤ (k : Int) ∧ (k : Int) < l.length ∧ (k : Int) < m.length := by omega
        go_wp2_with fail
        go_at_call 38
        refine hC.out.mono ?_
        rintro e wq ⟨rfl, hwq⟩
        rw [hwq]
        clear hwq wq
        by_cases hq : q = 0
        · have hs2 := hs.out
          rw [if_pos hq] at hs2
          replace hs2 := hide hs2
          subst hq
          go_wp2_with fail
          (go_roundw; (case rel => exact ⟨k + 1, by omega, by go_num, hs2, by first | exact rfl | trivial⟩); (case measure => simp [intOf]; omega))
        · have hs2 := hs.out
          rw [if_neg hq] at hs2
          have hq2 : (q != 0) = true := by simp [hq]
          clear hs hq
          replace hs2 := hide hs2
          go_wp2_with fail
          go_ret
          exact ⟨ret_int hs2.out, rfl⟩
      · have hs : cmpG cmpL (l.drop k) (m.drop k) = V := hr.out
        rw [cmpG_more hlt (by omega)] at hs
        replace hs := hide hs
        have hge : ¬ ((k : Int) < (m.length : Int)) := by omega
        go_wp2_with fail
        go_ret
        exact ⟨ret_int hs.out, rfl⟩
    · obtain rfl : k = l.length := by omega
      have hs : cmpG cmpL (l.drop l.length) (m.drop l.length) = V := hr.out
      rw [cmpG_end] at hs
      by_cases hlt2 : l.length < m.length
      · rw [if_pos hlt2] at hs
        replace hs := hide hs
        go_wp2_with fail
        go_ret
        exact ⟨ret_int hs.out, rfl⟩
      · rw [if_neg hlt2] at hs
        replace hs := hide hs
        go_wp2_with fail
        go_ret
        exact ⟨ret_int hs.out, rfl⟩

def fullB (l : List Int) : Bool := decide (0 < l.length)

set_option maxHeartbeats 400000 in
theorem fullCl_any (A : Option Addr) (c : Nat) (l : List Int) (w : World) : Calls Tryd.prog 40 #[.slice A l.length c] w fun e w' => e = .returned (.bool (fullB l)) ∧ w.grownBy w' none := by
  have hV : Hid (decide (0 < (l.length : Int)) = fullB l) := by unfold Hid fullB; rw [decide_eq_decide]; omega
  go_enter Tryd.func40, Tryd.ntmps40
  go_wp2_with fail
  go_ret
  exact ⟨by first | exact ret_bool hV.out | (rw [← hV.out]; simp), World.grownBy.refl _ _⟩

set_option maxHeartbeats 1000000 in
set_option maxRecDepth 100000 in
theorem containsFull_any (A : Option Addr) (n c : Nat) (l : List (List Int)) (w : World) (hl : Sl w 0 A l) (hn : n = l.length) :
    Calls Tryd.prog 39 #[.slice A n c, .func (.func 40) #[] #[]] w fun e w' => e = .returned (.bool (l.any fullB)) ∧ w.grownBy w' none := by
  subst hn
  have hI : Calls Tryd.prog 58 #[.slice A l.length c, .func (.func 40) #[] #[]] w fun e w' => ∃ r : Int, e = .returned (.int .i64 r) ∧ Hid (decide (0 ≤ r) = l.any fullB) ∧ w.grownBy w' none := by
    have hm := hl.1
    unfold maxLen at hm
    go_enter Tryd.func58, Tryd.ntmps58
    go_wp2
    go_loopw [8] (fun i wr => ∃ k : Nat, k ≤ l.length ∧ i = .int .i64 k ∧ w.grownBy wr none ∧ Hid ((l.take k).any fullB = false)) (fun i _ => l.length - (intOf i).toNat)
    case atStart => exact ⟨0, Nat.zero_le _, rfl, World.grownBy.refl _ _, by simp [Hid]⟩
    case round =>
      obtain ⟨k, hk, rfl, hg, hall⟩ := hrel
      by_cases hlt : k < l.length
      · obtain ⟨g1, o1, Bk1, dk1, rfl, hb11, d1, hsl1⟩ := sl_inner hl hlt
        replace d1 := hg.k d1
        have HS : Hid ((l.take (k + 1)).any fullB = ((l.take k).any fullB || fullB l[k])) := by rw [Hid, take_snoc hlt, List.any_append]; simp
        have HA : Hid (fullB l[k] = true → l.any fullB = true) := fun h => List.any_eq_true.2 ⟨_, List.getElem_mem _, h⟩
        generalize l[k] = f at *
        obtain ⟨bb, hbb⟩ : ∃ bb, fullB f = bb := ⟨_, rfl⟩
        have hcon := hide (fullCl_any Bk1 dk1 f wr)
        rw [hbb] at hcon HS HA
        replace hbb := hide hbb
        go_wp2_with fail
        refine (hcon.out).mono ?_
        rintro e w' ⟨rfl, hg'⟩
        cases bb
        · go_wp2_with fail
          (go_roundw; (case rel => exact ⟨k + 1, by omega, by go_num, gr_trans hg hg', by rw [Hid, HS.out, hall.out]; rfl⟩); (case measure => simp [intOf]; omega))
        · have HB := hide (HA.out rfl)
          go_wp2_with fail
          go_ret
          exact ⟨k, rfl, by rw [Hid, HB.out]; simp, gr_trans hg hg'⟩
      · have HB : Hid (l.any fullB = false) := by have := hall.out; rwa [List.take_of_length_le (by omega)] at this
        go_wp2
        go_ret
        exact ⟨-1, rfl, by rw [Hid, HB.out]; rfl, hg⟩
  replace hI := hide hI
  go_enter Tryd.func39, Tryd.ntmps39
  go_wp2_with fail
  refine hI.out.mono ?_
  rintro e w1 ⟨r, rfl, hr, hg⟩
  go_wp2_with fail
  go_ret
  exact ⟨ret_bool hr.out, hg⟩

set_option maxHeartbeats 400000 in
theorem total_any (A : Option Addr) (c : Nat) (l : List Int) (w : World) (hl : Sl w 0 A l) (hb : ∀ k, k ≤ l.length → 0 ≤ (l.take k).sum ∧ (l.take k).sum ≤ 1000000000000) :
    Calls Tryd.prog 36 #[.slice A l.length c] w fun e w' => e = .returned (.int .i64 l.sum) ∧ w' = w := by
  have hm := hl.1
  unfold maxLen at hm
  replace hb := hide hb
  go_enter Tryd.func36, Tryd.ntmps36
  go_wp2_with fail
  go_loopw [3, 8] (fun t i wr => ∃ k : Nat, k ≤ l.length ∧ i = .int .i64 k ∧ t = .int .i64 (l.take k).sum ∧ wr = w) (fun _ i _ => l.length - (intOf i).toNat)
  case atStart => exact ⟨0, Nat.zero_le _, rfl, rfl, rfl⟩
  case round =>
    obtain ⟨k, hk, rfl, rfl, rfl⟩ := hrel
    by_cases hlt : k < l.length
    · obtain ⟨g, o, cx, rfl, hb0, hb1, rfl, hc⟩ := hl.at_ (by decide) hlt
      have c0 : wr.cell? ⟨g, o + k, none⟩ = some (.int .i64 l[k]) := by have := hc 0 _ rfl; rwa [show Enc.sz Int = 1 from rfl, Nat.mul_one, Nat.add_zero] at this
      clear hc
      have hs : Hid ((l.take (k + 1)).sum = (l.take k).sum + l[k]) := by rw [Hid, List.take_succ_eq_append_getElem hlt, List.sum_append]; simp
      have h1 := hb.out k hk
      have h2 := hb.out (k + 1) (by omega)
      rw [hs.out] at h2
      generalize (l.take k).sum = S at *
      generalize l[k] = a at *
      have hi0 : (0 : Int) ≤ (k : Int) ∧ (k : Int) < l.length := by omega
      go_wp2_with fail
      (go_roundw; (case rel => exact ⟨k + 1, by omega, by go_num, by rw [hs.out], by first | exact rfl | trivial⟩); (case measure => simp [intOf]; omega))
    · obtain rfl : k = l.length := by omega
      rw [List.take_length]
      go_wp2_with fail
      go_ret
      exact ⟨rfl, rfl⟩

end Go.Proofs.YtanioobepfllgaaDoor

/- Contracts of functions that this seat's laws reach, each: what one call returns and what it leaves in memory; no condition beyond each theorem's own hypotheses. -/
import Derived.Test.YtanioobepfllgaaGreatDoorZqPlnC
import Derived.Test.YtanioobepfllgaaGreatDoorZqLateJ
import Derived.Test.YtanioobepfllgaaGreatDoorZqGreData
set_option linter.unusedVariables false
set_option linter.unusedSimpArgs false
namespace Go.Proofs.YtanioobepfllgaaGreatDoor
open Go Go.RowKit Go.Bl

/-- what comes of one of the first jobs that is put behind -/
def SOn (E : PEnv) (k : Nat) (Q : List (List Int)) (n : Nat) (X : List (List Int)) : Prop := ∃ i : Nat, i < n ∧ memI Q.flatten (i : Int) = false ∧ Comp E.p.length E.j.length k (Q.set k (Q.getD k [] ++ [(i : Int)])) X

theorem SOn_in {E : PEnv} {k : Nat} {Q : List (List Int)} {n : Nat} (h : memI Q.flatten (n : Int) = true) (X : List (List Int)) : SOn E k Q (n + 1) X ↔ SOn E k Q n X := by
  constructor
  · rintro ⟨i, h1, h2, h3⟩
    by_cases e : i = n
    · subst e; rw [h] at h2; cases h2
    · exact ⟨i, by omega, h2, h3⟩
  · rintro ⟨i, h1, h2, h3⟩
    exact ⟨i, by omega, h2, h3⟩

theorem SOn_out {E : PEnv} {k : Nat} {Q : List (List Int)} {n : Nat} (h : memI Q.flatten (n : Int) = false) (X : List (List Int)) : SOn E k Q (n + 1) X ↔ (SOn E k Q n X ∨ Comp E.p.length E.j.length k (Q.set k (Q.getD k [] ++ [(n : Int)])) X) := by
  constructor
  · rintro ⟨i, h1, h2, h3⟩
    by_cases e : i = n
    · subst e; exact .inr h3
    · exact .inl ⟨i, by omega, h2, h3⟩
  · rintro (⟨i, h1, h2, h3⟩ | h3)
    · exact ⟨i, by omega, h2, h3⟩
    · exact ⟨n, by omega, h, h3⟩

theorem SOn_zero {E : PEnv} {k : Nat} {Q : List (List Int)} (X : List (List Int)) : ¬ SOn E k Q 0 X := by
  rintro ⟨i, h1, -⟩
  omega
/-- what a try leaves -/
def TryR (E : PEnv) (S : List (List Int) → Prop) (Q : List (List Int)) (bo : Option (List (List Int))) (w : World) (e : Ending) (w' : World) : Prop :=
  e = .returned (.tuple #[]) ∧ (∃ b', Bst E.p E.j E.ch S bo b' ∧ InvQ E w' Q b') ∧ KeepC w w'

theorem InvP.ucell {E : PEnv} {wr : World} {Q : List (List Int)} {T : List Int} {raws : List RawS} {B : Option Addr} {d : Nat} {rB : List RawS} {R : List (List Int)} {VB : Value} {l s : Int} (hI : InvP E wr Q T raws B d rB R VB l s) {n : Nat} (hlt : n < E.j.length) :
    wr.cell? ⟨E.gs, n, none⟩ = some (.bool (memI T (n : Int))) := by
  have hml : n < (seenN E.j.length T).length := by rw [seenN_len]; exact hlt
  obtain ⟨cc, hcr, hcc⟩ := hI.us.cell_at (by decide) hml
  have hcr' : cc = [.bool (seenN E.j.length T)[n]] := hcr
  rw [seenN_get] at hcr'
  subst hcr'
  have := hcc 0 _ rfl
  rwa [show Enc.sz Bool = 1 from rfl, Nat.mul_one, Nat.add_zero] at this

set_option maxHeartbeats 8000000 in
set_option maxRecDepth 100000 in
theorem tryNode_any {E : PEnv} (hE : E.Ok) (hok : JOk E.j E.ch) (hj7 : E.j.length ≤ 7) (hp4 : E.p.length ≤ 4) (hJ : Sl E.w0 0 E.J E.j) (hP : Sl E.w0 0 E.P E.p) {w : World} {Q : List (List Int)} {bo : Option (List (List Int))}
    {raws : List RawS} {B : Option Addr} {d : Nat} {rB : List RawS} {R : List (List Int)} {l s : Int}
    (hI : InvP E w Q Q.flatten raws B d rB R (.slice B R.length d) l s) (hS : StP E bo B R l s) (hd : R.length ≤ d) (k : Nat) (left last sum c : Int) (m : ByteArray) (hl : ∀ X, bo = some X → last ≤ l) (hPt : Part E.p.length E.j.length k Q)
    (hleft : 1 ≤ left ∧ left ≤ 7) (hc : 0 ≤ c ∧ c ≤ 100000000) (hla : 0 ≤ last ∧ last ≤ 100000000) (hsu : 0 ≤ sum ∧ sum ≤ 1000000000000)
    (hpush : ∀ (i : Nat) (b' : Option (List (List Int))) (w' : World) (h : i < E.j.length), memI Q.flatten (i : Int) = false → InvQ E w' (Q.set k (Q.getD k [] ++ [(i : Int)])) b' →
      Calls Tryz.prog 38 #[.pointer (some ⟨E.gb, 0, none⟩), .int .i64 k, .agg #[.int .i64 (doC (c, m) E.j[i] E.ch).1, .string (doC (c, m) E.j[i] E.ch).2], .int .i64 (left - 1), .int .i64 (max last (doC (c, m) E.j[i] E.ch).1), .int .i64 (sum + (doC (c, m) E.j[i] E.ch).1)] w' (TryR E (Comp E.p.length E.j.length k (Q.set k (Q.getD k [] ++ [(i : Int)]))) (Q.set k (Q.getD k [] ++ [(i : Int)])) b' w'))
    (hnext : ∀ (h : k + 1 < E.p.length) (b' : Option (List (List Int))) (w' : World), InvQ E w' Q b' →
      Calls Tryz.prog 38 #[.pointer (some ⟨E.gb, 0, none⟩), .int .i64 ((k : Int) + 1), .agg #[.int .i64 0, .string E.p[k + 1].mat], .int .i64 left, .int .i64 last, .int .i64 sum] w' (TryR E (Comp E.p.length E.j.length (k + 1) Q) Q b' w')) :
    Calls Tryz.prog 38 #[.pointer (some ⟨E.gb, 0, none⟩), .int .i64 k, .agg #[.int .i64 c, .string m], .int .i64 left, .int .i64 last, .int .i64 sum] w (TryR E (fun X => SOn E k Q E.j.length X ∨ (k + 1 < E.p.length ∧ Comp E.p.length E.j.length (k + 1) Q X)) Q bo w) := by
  have hN := fun W => run_neq_slice_nilP (P := Tryz.prog) W 31 22 B R.length d 0 0 Tryz.underlying31
  have hgate : B.isNone = true ∨ (B.isNone = false ∧ decide (l < last) = false) := by
    cases bo with
    | none => left; obtain ⟨rfl, -⟩ := hS; rfl
    | some X =>
      right
      obtain ⟨-, -, ⟨ad, rfl⟩, -, -⟩ := hS
      exact ⟨rfl, decide_eq_false (by have := hl X rfl; omega)⟩
  have hIQ : ∀ w', InvP E w' Q Q.flatten raws B d rB R (.slice B R.length d) l s → InvQ E w' Q bo := fun w' h => ⟨raws, B, d, rB, R, l, s, hd, hS, h⟩
  have hkm := hPt.km
  have hQl := hide hPt.len
  have hbL : (left == 0) = false := by rw [beq_eq_false_iff_ne]; omega
  have hch := hok.chg
  replace hok := hide hok
  replace hPt := hide hPt
  replace hpush := hide hpush
  replace hnext := hide hnext
  replace hIQ := hide hIQ
  clear hl hd hS
  go_enter Tryz.func38, Tryz.ntmps38
  go_upto_region 1 with fail
  obtain ⟨w8, hw8⟩ : ∃ x, x = (w).alloc (.cells [.int .i64 c, .string m].toArray 79) := ⟨_, rfl⟩
  have hg8 : (w).grownBy w8 none := by rw [hw8]; exact gr_alloc (World.grownBy.refl _ _) _
  have hb8 : Box w8 (w).heap.size 79 [.int .i64 c, .string m] := by rw [hw8]; exact Box.new _ _ _
  have hxs8 := hb8.lt
  rw [← hw8]
  clear hw8
  obtain ⟨x8, hx8⟩ : ∃ x, x = (w).heap.size := ⟨_, rfl⟩
  rw [← hx8] at hb8 hxs8 ⊢
  have hxl8 : (w).heap.size ≤ x8 := by omega
  clear hx8
  have hI8 := hI.pure hg8
  have hk8 := KeepC.pure hg8
  have hIQ8 := hIQ.out _ hI8
  obtain ⟨b5, -⟩ := hI8.bx.c 5 rfl
  obtain ⟨b6, -⟩ := hI8.bx.c 6 rfl
  obtain ⟨b1, -⟩ := hI8.bx.c 1 rfl
  clear hI hI8 hIQ hg8
  go_cut [29] from 17 to 28 (fun s wx => s = .bool false ∧ wx = w8)
  case first =>
    rcases hgate with hg | ⟨hg, hb⟩
    all_goals
      rw [hg] at hN
      go_wp2_with fail
      go_meet
      exact ⟨rfl, rfl⟩
  case rest =>
  obtain ⟨rfl, hwc⟩ := hcut
  rw [hwc]
  clear hwc wc b5 b6 hN hgate
  go_upto_region 10 with fail
  clear hbL
  go_wp2_with fail
  clear b1
  go_loopw [73] (fun i wr => ∃ (n : Nat) (b' : Option (List (List Int))), n ≤ E.j.length ∧ i = .int .i64 n ∧ Hid (Bst E.p E.j E.ch (SOn E k Q n) bo b') ∧ InvQ E wr Q b' ∧ KeepC w8 wr) (fun i _ => E.j.length - (intOf i).toNat)
  case atStart => exact ⟨0, bo, Nat.zero_le _, rfl, Bst.none bo SOn_zero, hIQ8, KeepC.refl _⟩
  case round =>
    clear hIQ8
    obtain ⟨n, b', hn, rfl, hB, hIQ, hkc⟩ := hrel
    have hb8w := hkc.box hb8
    by_cases hlt : n < E.j.length
    · obtain ⟨raws, B, d, rB, R, l, s, hd, hS, hI⟩ := hIQ
      have hIQ2 := hide fun w' Q' raws' (h : InvP E w' Q' Q'.flatten raws' B d rB R (.slice B R.length d) l s) => (⟨raws', B, d, rB, R, l, s, hd, hS, h⟩ : InvQ E w' Q' b')
      clear hd hS
      obtain ⟨gj, oj, cx, eJ, _, hbj, rfl, hcj⟩ := (hJ.pure hI.gr).at_ (by decide) hlt
      have hjb := hok.out.bd _ (List.getElem_mem hlt)
      have j0 : wr.cell? ⟨gj, oj + n * 4, none⟩ = some (.string E.j[n].key) := hcj 0 _ rfl
      have j1 : wr.cell? ⟨gj, oj + n * 4 + 1, none⟩ = some (.string E.j[n].mat) := hcj 1 _ rfl
      have j2 : wr.cell? ⟨gj, oj + n * 4 + 2, none⟩ = some (.int .i64 E.j[n].min) := hcj 2 _ rfl
      have j3 : wr.cell? ⟨gj, oj + n * 4 + 3, none⟩ = some (.int .i64 E.j[n].due) := hcj 3 _ rfl
      clear hcj
      have hcu := hI.ucell hlt
      have hpn := hide fun b' w' => hpush.out n b' w' hlt
      have hn0 : (0 : Int) ≤ (n : Int) ∧ (n : Int) < (E.j.length : Int) := by omega
      generalize hY : E.j[n] = Y at *
      replace hY := hide hY
      rw [eJ]
      go_upto_region 13 with fail
      clear j0 j1 j2 j3
      obtain ⟨w15, hw15⟩ : ∃ x, x = (wr).alloc (.cells [.string Y.key, .string Y.mat, .int .i64 Y.min, .int .i64 Y.due].toArray 49) := ⟨_, rfl⟩
      have hg15 : (wr).grownBy w15 none := by rw [hw15]; exact gr_alloc (World.grownBy.refl _ _) _
      have hb15 : Box w15 (wr).heap.size 49 [.string Y.key, .string Y.mat, .int .i64 Y.min, .int .i64 Y.due] := by rw [hw15]; exact Box.new _ _ _
      have hxs15 := hb15.lt
      rw [← hw15]
      clear hw15
      obtain ⟨x15, hx15⟩ : ∃ x, x = (wr).heap.size := ⟨_, rfl⟩
      rw [← hx15] at hb15 hxs15 ⊢
      have hxl15 : (wr).heap.size ≤ x15 := by omega
      clear hx15
      have hI15 := hI.pure hg15
      have hcu15 := hg15.k hcu
      have hk15 := hkc.trans (KeepC.pure hg15)
      have hb8x := hb8w.pure hg15
      obtain ⟨b4, -⟩ := hI15.bx.c 4 rfl
      clear hI hcu hkc hb8w
      rcases hmem : memI Q.flatten (n : Int) with _ | _
      · rw [hmem] at hcu15
        have hB2 := hide (fun b'' (h : Bst E.p E.j E.ch (Comp E.p.length E.j.length k (Q.set k (Q.getD k [] ++ [(n : Int)]))) b' b'') => (hB.out.join h).of (SOn_out hmem))
        have hpn2 := hide (fun w' (h : InvQ E w' (Q.set k (Q.getD k [] ++ [(n : Int)])) b') => hpn.out b' w' hmem h)
        have hcd := clockDo_any c m Y E.ch
        have hzb : 0 ≤ (doC (c, m) Y E.ch).1 ∧ (doC (c, m) Y E.ch).1 ≤ 100200000 := by unfold doC; simp only; split <;> omega
        obtain ⟨z, hz⟩ : ∃ z, z = doC (c, m) Y E.ch := ⟨_, rfl⟩
        rw [← hz] at hcd hzb hpn2
        clear hz hpn
        have hbk : Hid ((seenN E.j.length (Q.flatten ++ [(n : Int)])).set n false = seenN E.j.length Q.flatten) := seen_back hmem
        replace hmem := hide hmem
        go_upto_region 14 with fail
        clear b4
        go_cut [16] from 85 to 91 (fun s16 wx => ∃ gx, s16 = .pointer (some ⟨gx, 0, none⟩) ∧ w15.heap.size ≤ gx ∧ Box wx gx 79 [.int .i64 z.1, .string z.2] ∧ w15.grownBy wx none)
        case first =>
          refine wp_region_tree (fun wx => w15.grownBy wx none) [1, 1, 2, 2, 2, 1, 0, 0, 0] (.bl 0 (.bl 1 (.bl 2 (.bl 3 (.bl 4 (.bl 5 (.alt (.ef 6 (.ef 7 (.ef 8 .done))) (.ef 7 (.ef 6 (.ef 8 .done)))))))))) (by kernel_rfl) (by kernel_rfl) (gr_drew (World.grownBy.refl _ _)) ?_
          obtain ⟨u0, hu0⟩ : ∃ x, x = (w15).drew := ⟨_, rfl⟩
          rw [← hu0]
          have hgu0 : (w15).grownBy u0 none := by rw [hu0]; exact gr_drew (World.grownBy.refl _ _)
          clear hu0
          refine tree_b rfl rfl rfl rfl _ rfl (by simp) (fun K hK => ?_)
          apply Exists.intro
          refine ⟨fun wq hq K' hK' => ?_, ?_⟩
          · obtain ⟨d0, -⟩ := (hb8x.pure hq).c 0 rfl
            obtain ⟨d1, -⟩ := (hb8x.pure hq).c 1 rfl
            obtain ⟨e0, -⟩ := (hb15.pure hq).c 0 rfl
            obtain ⟨e1, -⟩ := (hb15.pure hq).c 1 rfl
            obtain ⟨e2, -⟩ := (hb15.pure hq).c 2 rfl
            obtain ⟨e3, -⟩ := (hb15.pure hq).c 3 rfl
            obtain ⟨d2, -⟩ := (hI15.pure hq).bx.c 2 rfl
            go_wp2_with fail
            exact hK'
          go_simp
          refine hK _ ?_
          clear hK K
          refine tree_b rfl rfl rfl rfl _ rfl (by simp) (fun K hK => ?_)
          apply Exists.intro
          refine ⟨fun wq hq K' hK' => ?_, ?_⟩
          · obtain ⟨d0, -⟩ := (hb8x.pure hq).c 0 rfl
            obtain ⟨d1, -⟩ := (hb8x.pure hq).c 1 rfl
            obtain ⟨e0, -⟩ := (hb15.pure hq).c 0 rfl
            obtain ⟨e1, -⟩ := (hb15.pure hq).c 1 rfl
            obtain ⟨e2, -⟩ := (hb15.pure hq).c 2 rfl
            obtain ⟨e3, -⟩ := (hb15.pure hq).c 3 rfl
            obtain ⟨d2, -⟩ := (hI15.pure hq).bx.c 2 rfl
            go_wp2_with fail
            exact hK'
          go_simp
          refine hK _ ?_
          clear hK K
          refine tree_p rfl rfl rfl rfl _ rfl (by simp) (fun K hK => ?_)
          apply Exists.intro
          refine ⟨fun wq K' hK' => ?_, ?_⟩
          · go_wp2_with fail
            exact hK'
          go_simp
          refine hK _ ?_
          clear hK K
          refine tree_n rfl rfl _ rfl _ rfl ?_
          try go_simp
          refine tree_p rfl rfl rfl rfl _ rfl (by simp) (fun K hK => ?_)
          apply Exists.intro
          refine ⟨fun wq K' hK' => ?_, ?_⟩
          · go_wp2_with fail
            exact hK'
          go_simp
          refine hK _ ?_
          clear hK K
          refine tree_b rfl rfl rfl rfl _ rfl (by simp) (fun K hK => ?_)
          apply Exists.intro
          refine ⟨fun wq hq K' hK' => ?_, ?_⟩
          · obtain ⟨d0, -⟩ := (hb8x.pure hq).c 0 rfl
            obtain ⟨d1, -⟩ := (hb8x.pure hq).c 1 rfl
            obtain ⟨e0, -⟩ := (hb15.pure hq).c 0 rfl
            obtain ⟨e1, -⟩ := (hb15.pure hq).c 1 rfl
            obtain ⟨e2, -⟩ := (hb15.pure hq).c 2 rfl
            obtain ⟨e3, -⟩ := (hb15.pure hq).c 3 rfl
            obtain ⟨d2, -⟩ := (hI15.pure hq).bx.c 2 rfl
            go_wp2_with fail
            exact hK'
          go_simp
          refine hK _ ?_
          clear hK K
          refine tree_alt ?_ ?_
          · refine tree_e0 (by kernel_rfl) rfl rfl (fun K hK => ?_)
            go_wp2_with fail
            refine (hcd u0 ?_ ?_ ?_).mono ?_
            · omega
            · omega
            · omega
            rintro e w6 ⟨rfl, hg6⟩
            go_wp2_with fail
            try go_simp
            refine hK _ _ trivial ?_
            clear hK K
            refine tree_e rfl rfl (fun K hK => ?_)
            go_wp2_with fail
            try go_simp
            refine hK _ _ (gr_alloc (gr_trans hgu0 hg6) _) ?_
            clear hK K
            obtain ⟨w7, hw7⟩ : ∃ x, x = (w6).alloc (.cells [.int .i64 0, .string ⟨#[]⟩].toArray 79) := ⟨_, rfl⟩
            have hg7 : (w6).grownBy w7 none := by rw [hw7]; exact gr_alloc (World.grownBy.refl _ _) _
            have hb7 : Box w7 (w6).heap.size 79 [.int .i64 0, .string ⟨#[]⟩] := by rw [hw7]; exact Box.new _ _ _
            rw [← hw7]
            clear hw7
            obtain ⟨x7, hx7⟩ : ∃ x, x = (w6).heap.size := ⟨_, rfl⟩
            rw [← hx7] at hb7 ⊢
            have hxl7 : (w6).heap.size ≤ x7 := by omega
            clear hx7
            have hxw : w15.heap.size ≤ x7 := Nat.le_trans (gr_trans hgu0 hg6).size hxl7
            refine tree_e0 (by kernel_rfl) rfl rfl (fun K hK => ?_)
            have hb7w := hb7.pure (w' := w7) (World.grownBy.refl _ _)
            obtain ⟨m0, f0⟩ := hb7w.c 0 rfl
            obtain ⟨m1, f1⟩ := hb7w.c 1 rfl
            have hgg := gr_trans hgu0 (gr_trans hg6 hg7)
            go_wp2_with fail
            try go_simp
            refine hK _ _ trivial ?_
            clear hK K
            refine tree_done ?_
            obtain ⟨wg, hwg⟩ : ∃ x, x = ((w7).setCell ⟨x7, 0, none⟩ (.int .i64 z.1)).setCell ⟨x7, 1, none⟩ (.string z.2) := ⟨_, rfl⟩
            rw [← hwg]
            have hbg : Box wg x7 79 [.int .i64 z.1, .string z.2] := by rw [hwg]; exact (hb7w.set_ 0 _ (by simp)).set_ 1 _ (by simp)
            replace hgg : w15.grownBy wg none := by rw [hwg]; exact gr_set (gr_set hgg (.inr hxw) _) (.inr hxw) _
            clear hwg hb7w m0 m1 f0 f1
            go_wp2_with fail
            go_meet
            exact ⟨x7, rfl, hxw, hbg, hgg⟩
          · refine tree_e rfl rfl (fun K hK => ?_)
            go_wp2_with fail
            try go_simp
            refine hK _ _ (gr_alloc (gr_trans hgu0 (World.grownBy.refl _ _)) _) ?_
            clear hK K
            obtain ⟨w7, hw7⟩ : ∃ x, x = (u0).alloc (.cells [.int .i64 0, .string ⟨#[]⟩].toArray 79) := ⟨_, rfl⟩
            have hg7 : (u0).grownBy w7 none := by rw [hw7]; exact gr_alloc (World.grownBy.refl _ _) _
            have hb7 : Box w7 (u0).heap.size 79 [.int .i64 0, .string ⟨#[]⟩] := by rw [hw7]; exact Box.new _ _ _
            rw [← hw7]
            clear hw7
            obtain ⟨x7, hx7⟩ : ∃ x, x = (u0).heap.size := ⟨_, rfl⟩
            rw [← hx7] at hb7 ⊢
            have hxl7 : (u0).heap.size ≤ x7 := by omega
            clear hx7
            have hxw : w15.heap.size ≤ x7 := Nat.le_trans (gr_trans hgu0 (World.grownBy.refl _ _)).size hxl7
            refine tree_e0 (by kernel_rfl) rfl rfl (fun K hK => ?_)
            go_wp2_with fail
            refine (hcd w7 ?_ ?_ ?_).mono ?_
            · omega
            · omega
            · omega
            rintro e w6 ⟨rfl, hg6⟩
            go_wp2_with fail
            try go_simp
            refine hK _ _ trivial ?_
            clear hK K
            refine tree_e0 (by kernel_rfl) rfl rfl (fun K hK => ?_)
            have hb7w := hb7.pure (w' := w6) hg6
            obtain ⟨m0, f0⟩ := hb7w.c 0 rfl
            obtain ⟨m1, f1⟩ := hb7w.c 1 rfl
            have hgg := gr_trans hgu0 (gr_trans hg7 hg6)
            go_wp2_with fail
            try go_simp
            refine hK _ _ trivial ?_
            clear hK K
            refine tree_done ?_
            obtain ⟨wg, hwg⟩ : ∃ x, x = ((w6).setCell ⟨x7, 0, none⟩ (.int .i64 z.1)).setCell ⟨x7, 1, none⟩ (.string z.2) := ⟨_, rfl⟩
            rw [← hwg]
            have hbg : Box wg x7 79 [.int .i64 z.1, .string z.2] := by rw [hwg]; exact (hb7w.set_ 0 _ (by simp)).set_ 1 _ (by simp)
            replace hgg : w15.grownBy wg none := by rw [hwg]; exact gr_set (gr_set hgg (.inr hxw) _) (.inr hxw) _
            clear hwg hb7w m0 m1 f0 f1
            go_wp2_with fail
            go_meet
            exact ⟨x7, rfl, hxw, hbg, hgg⟩
        case rest =>
        obtain ⟨gx, rfl, hgx, hbx, hgc⟩ := hcut
        have hIc := hI15.pure hgc
        have hcu1 := hgc.k hcu15
        have hfu := hIc.us.frozen n
        obtain ⟨b4, -⟩ := hIc.bx.c 4 rfl
        have hIs := hIc.setU hE (v := true) (T' := Q.flatten ++ [(n : Int)]) hlt seen_snoc
        have hks := hk15.trans ((KeepC.pure hgc).trans (hIc.keepU n (.bool true)))
        have hbxs := (hIc.keepU n (.bool true)).box hbx
        clear hcd hb8x hb15 hI15 hcu15 hk15 hbx
        go_upto_region 16 with fail
        obtain ⟨ws, hws⟩ : ∃ x, x = wc.setCell ⟨E.gs, n, none⟩ (.bool true) := ⟨_, rfl⟩
        rw [← hws] at hIs hks hbxs ⊢
        clear hws hIc hfu hcu1 b4 hgc hgx
        have hkq : k < Q.length := by rw [hQl.out]; exact hkm
        have hkr : k < raws.length := by rw [hIs.rw.len]; exact hkq
        obtain ⟨hln, hO⟩ := hIs.rw.ins k hkr hkq
        have hcp := hIs.rw.cell hkr
        rw [hln] at hcp
        have hgd : Q.getD k [] = Q[k] := by simp [List.getD_eq_getElem?_getD, hkq]
        have hfl2 : Hid ((Q.set k (Q[k] ++ [(n : Int)])).flatten = Q.flatten ++ [(n : Int)]) := by rw [Hid, ← hgd]; exact hPt.out.push_flat _
        have hback : Hid ((Q.set k (Q[k] ++ [(n : Int)])).set k Q[k] = Q) := by rw [Hid, List.set_set, List.set_getElem_self]
        have hrow7 : Hid (Q[k].length ≤ 7) := by
          have h1 := row_len hkq
          have h2 := hPt.out.isp.nd.length_le_of_subset (l₂ := (List.range E.j.length).map fun i : Nat => (i : Int)) (fun x hx => by
            have hb := hPt.out.isp.bd x hx
            obtain ⟨q, rfl⟩ := Int.eq_ofNat_of_zero_le hb.1
            exact List.mem_map.2 ⟨q, List.mem_range.2 (by omega), rfl⟩)
          rw [List.length_map, List.length_range] at h2
          exact Nat.le_trans (Nat.le_trans h1 h2) hj7
        rw [hgd] at hpn2 hB2
        clear hln hgd
        obtain ⟨q, hq0⟩ : ∃ q, q = Q[k] := ⟨_, rfl⟩
        rw [← hq0] at hcp hO hfl2 hback hpn2 hB2 hrow7
        clear hq0
        have hq7 := hrow7.out
        obtain ⟨RA, hRA⟩ : ∃ x, x = raws[k].A := ⟨_, rfl⟩
        obtain ⟨RC, hRC⟩ : ∃ x, x = raws[k].c := ⟨_, rfl⟩
        rw [← hRA, ← hRC] at hcp hO
        have hcb : ws.cell? ⟨E.gb, 3, none⟩ = some (.slice (some ⟨E.gp, 0, none⟩) E.p.length E.p.length) := (hIs.bx.c 3 rfl).1
        have hRb : RA.map (·.block) ≠ some E.gb := by rw [hRA]; exact hIs.rlt hkr hE.hb.2
        have hRp : RA.map (·.block) ≠ some E.gp := by rw [hRA]; exact hIs.rlt hkr hE.hp.2
        have hRA2 : Hid (RA = raws[k].A) := hRA
        clear hRA hRC
        obtain ⟨i0, hi, hz9, hi1, hi2⟩ := info_parts infoI
        replace hi := hide hi
        replace hz9 := hide hz9
        replace hi1 := hide hi1
        replace hi2 := hide hi2
        have hk0 : (0 : Int) ≤ (k : Int) ∧ (k : Int) < (E.p.length : Int) := by omega
        refine wp_region_tree (fun wx => wx.cell? ⟨E.gb, 3, none⟩ = some (.slice (some ⟨E.gp, 0, none⟩) E.p.length E.p.length) ∧ wx.cell? ⟨E.gp, k, none⟩ = some (.slice RA q.length RC)) [2, 2, 2, 1, 2, 2, 2, 2, 1, 2, 2, 1, 2, 0, 0, 2, 0] (.bl 0 (.bl 1 (.bl 2 (.bl 3 (.bl 4 (.bl 5 (.bl 6 (.bl 7 (.bl 8 (.bl 9 (.bl 10 (.bl 11 (.bl 12 (.ef 13 (.ef 14 (.bl 15 (.ef 16 .done))))))))))))))))) (by kernel_rfl) (by kernel_rfl) (⟨(gr_drew (World.grownBy.refl ws none)).k hcb, (gr_drew (World.grownBy.refl ws none)).k hcp⟩) ?_
        obtain ⟨u1, hu1⟩ : ∃ x, x = (ws).drew := ⟨_, rfl⟩
        rw [← hu1]
        have hgu1 : (ws).grownBy u1 none := by rw [hu1]; exact gr_drew (World.grownBy.refl _ _)
        clear hu1
        refine tree_p rfl rfl rfl rfl _ rfl (by simp) (fun K hK => ?_)
        apply Exists.intro
        refine ⟨fun wq K' hK' => ?_, ?_⟩
        · go_wp2_with fail
          exact hK'
        go_simp
        refine hK _ ?_
        clear hK K
        refine tree_n rfl rfl _ rfl _ rfl ?_
        try go_simp
        refine tree_p rfl rfl rfl rfl _ rfl (by simp) (fun K hK => ?_)
        apply Exists.intro
        refine ⟨fun wq K' hK' => ?_, ?_⟩
        · go_wp2_with fail
          exact hK'
        go_simp
        refine hK _ ?_
        clear hK K
        refine tree_b rfl rfl rfl rfl _ rfl (by simp) (fun K hK => ?_)
        apply Exists.intro
        refine ⟨fun wq hq K' hK' => ?_, ?_⟩
        · obtain ⟨d3, dk⟩ := hq
          go_wp2_with fail
          exact hK'
        go_simp
        refine hK _ ?_
        clear hK K
        refine tree_p rfl rfl rfl rfl _ rfl (by simp) (fun K hK => ?_)
        apply Exists.intro
        refine ⟨fun wq K' hK' => ?_, ?_⟩
        · go_wp2_with fail
          exact hK'
        go_simp
        refine hK _ ?_
        clear hK K
        refine tree_p rfl rfl rfl rfl _ rfl (by simp) (fun K hK => ?_)
        apply Exists.intro
        refine ⟨fun wq K' hK' => ?_, ?_⟩
        · go_wp2_with fail
          exact hK'
        go_simp
        refine hK _ ?_
        clear hK K
        refine tree_n rfl rfl _ rfl _ rfl ?_
        try go_simp
        refine tree_p rfl rfl rfl rfl _ rfl (by simp) (fun K hK => ?_)
        apply Exists.intro
        refine ⟨fun wq K' hK' => ?_, ?_⟩
        · go_wp2_with fail
          exact hK'
        go_simp
        refine hK _ ?_
        clear hK K
        refine tree_b rfl rfl rfl rfl _ rfl (by simp) (fun K hK => ?_)
        apply Exists.intro
        refine ⟨fun wq hq K' hK' => ?_, ?_⟩
        · obtain ⟨d3, dk⟩ := hq
          go_wp2_with fail
          exact hK'
        go_simp
        refine hK _ ?_
        clear hK K
        refine tree_p rfl rfl rfl rfl _ rfl (by simp) (fun K hK => ?_)
        apply Exists.intro
        refine ⟨fun wq K' hK' => ?_, ?_⟩
        · go_wp2_with fail
          exact hK'
        go_simp
        refine hK _ ?_
        clear hK K
        refine tree_p rfl rfl rfl rfl _ rfl (by simp) (fun K hK => ?_)
        apply Exists.intro
        refine ⟨fun wq K' hK' => ?_, ?_⟩
        · go_wp2_with fail
          exact hK'
        go_simp
        refine hK _ ?_
        clear hK K
        refine tree_b rfl rfl rfl rfl _ rfl (by simp) (fun K hK => ?_)
        apply Exists.intro
        refine ⟨fun wq hq K' hK' => ?_, ?_⟩
        · obtain ⟨d3, dk⟩ := hq
          go_wp2_with fail
          exact hK'
        go_simp
        refine hK _ ?_
        clear hK K
        refine tree_p rfl rfl rfl rfl _ rfl (by simp) (fun K hK => ?_)
        apply Exists.intro
        refine ⟨fun wq K' hK' => ?_, ?_⟩
        · go_wp2_with fail
          exact hK'
        go_simp
        refine hK _ ?_
        clear hK K
        refine tree_e rfl rfl (fun K hK => ?_)
        go_wp2_with fail
        try go_simp
        refine hK _ _ (⟨(gr_alloc (gr_trans hgu1 (World.grownBy.refl _ _)) _).k hcb, (gr_alloc (gr_trans hgu1 (World.grownBy.refl _ _)) _).k hcp⟩) ?_
        clear hK K
        obtain ⟨w13, hw13⟩ : ∃ x, x = (u1).alloc (.cells [.int .i64 (n : Int)].toArray 3) := ⟨_, rfl⟩
        have hg13 : (u1).grownBy w13 none := by rw [hw13]; exact gr_alloc (World.grownBy.refl _ _) _
        have hb13 : Box w13 (u1).heap.size 3 [.int .i64 (n : Int)] := by rw [hw13]; exact Box.new _ _ _
        rw [← hw13]
        clear hw13
        have hs13 := hb13.sl (l := [(n : Int)]) (lo := 0) (row_ints _ _ [(n : Int)]) (Nat.zero_le _) (by simp [maxLen])
        have hq13 := gr_trans hgu1 hg13
        have hI13 := hide (hIs.pure hq13)
        have hO13 := hO.pure hq13
        have c13a := hq13.k hcb
        have c13b := hq13.k hcp
        have sz13 := hI13.out.sz
        refine tree_e rfl rfl (fun K hK => ?_)
        refine wp_pushAt (α := Int) _ (.tmp 109) (.tmp 111) _ rfl E.lo 3 i0 _ 8 Tryz.underlying22 hi.out hz9.out hi1.out hi2.out rfl _ _ _ q rfl rfl (by exact hO13) 0 ⟨_, 0, none⟩ 1 1 [(n : Int)] rfl rfl hs13 ?_ ?_ ?_ ?_
        · simp; omega
        · simp [maxLen]; omega
        · exact sz13
        intro A5 c5 w14 hO14 hG14
        have hG14k : Grew raws[k].A A5 w13 w14 := by rw [← hRA2.out]; exact hG14
        have hIp := hide (hI13.out.put hE hkr hO14 hG14k)
        have hkp := hide ((KeepC.pure hq13).trans ((hI13.out.keepR hkr hG14k.1).trans (KeepC.wr (gr_set (World.grownBy.refl w14 (some E.gp)) (p := ⟨E.gp, k, none⟩) (.inl rfl) (.slice A5 (q ++ [(n : Int)]).length c5)) (fun x e => by cases e; exact ⟨_, (hI13.out.rw.outer hkr hG14k).typ rfl, by decide⟩))))
        have hf14 := (hI13.out.rw.outer hkr hG14k).frozen k
        have c14b := gr_cell hG14.1 c13b hRp
        have hln1 : (q ++ [(n : Int)]).length = q.length + 1 := by simp
        rw [hln1] at hIp hkp ⊢
        replace hln1 := hide hln1
        try go_simp
        refine hK _ _ (⟨gr_cell hG14.1 c13a hRb, gr_cell hG14.1 c13b hRp⟩) ?_
        clear hK K
        refine tree_p rfl rfl rfl rfl _ rfl (by simp) (fun K hK => ?_)
        apply Exists.intro
        refine ⟨fun wq K' hK' => ?_, ?_⟩
        · go_wp2_with fail
          exact hK'
        go_simp
        refine hK _ ?_
        clear hK K
        refine tree_e0 (by kernel_rfl) rfl rfl (fun K hK => ?_)
        go_wp2_with fail
        try go_simp
        refine hK _ _ trivial ?_
        clear hK K
        refine tree_done ?_
        obtain ⟨wz, hwz⟩ : ∃ x, x = (w14).setCell ⟨E.gp, k, none⟩ (.slice A5 (q.length + 1) c5) := ⟨_, rfl⟩
        have hIz := hIp.out
        have hkz := hkp.out
        rw [← hwz] at hIz hkz ⊢
        have hbxz := hkz.box hbxs
        replace hkz := hks.trans hkz
        rw [← hfl2.out] at hIz
        have hIH := hide (hpn2.out wz (hIQ2.out _ _ _ hIz))
        clear hwz hIp hkp hIz hf14 c14b hG14 hG14k hO14 hO13 hI13 c13a c13b hs13 hb13 hg13 hq13 hIs hO hcb hcp hks hbxs
        obtain ⟨z0, -⟩ := hbxz.c 0 rfl
        obtain ⟨z1, -⟩ := hbxz.c 1 rfl
        go_wp2_with fail
        refine hIH.out.mono ?_
        rintro e w17 ⟨rfl, ⟨b'', hBb, hIQn⟩, hk17⟩
        replace hkz := hkz.trans hk17
        have hB3 := hide (hB2.out b'' hBb)
        clear hIH z0 z1 hbxz hpn2 hB2 hBb hk17
        obtain ⟨raws2, B2, d2, rB2, R2, l2, s2, hd2, hS2, hI2⟩ := hIQn
        have hIQ3 := hide fun w' raws' (h : InvP E w' Q Q.flatten raws' B2 d2 rB2 R2 (.slice B2 R2.length d2) l2 s2) => (⟨raws', B2, d2, rB2, R2, l2, s2, hd2, hS2, h⟩ : InvQ E w' Q b'')
        have hkq2 : k < (Q.set k (q ++ [(n : Int)])).length := by rw [List.length_set]; exact hkq
        have hkr2 : k < raws2.length := by rw [hI2.rw.len]; exact hkq2
        obtain ⟨hln2, hO2⟩ := hI2.rw.ins k hkr2 hkq2
        rw [List.getElem_set_self] at hln2 hO2
        rw [hln1.out] at hln2
        obtain ⟨g2, hA2, -, -⟩ := hO2.shape (by simp)
        have hcap2 := hO2.cap
        rw [hln1.out] at hcap2
        have hc2 := hI2.rw.cell hkr2
        rw [hA2, hln2] at hc2
        rw [hfl2.out] at hI2
        have hO2c : Own w17 E.lo 3 (some ⟨g2, 0, none⟩) raws2[k].c q := by
          rw [hA2] at hO2
          have h1 := hO2.cut (m := q.length) (by simp)
          rw [List.take_left'] at h1
          · exact h1
          · rfl
        have hPut := hide fun wx (h : w17.grownBy wx none) => (hI2.pure h).put hE hkr2 (hO2c.pure h) ⟨World.grownBy.refl wx _, .inl (by rw [hA2])⟩
        have hkP := hide fun wx (h : w17.grownBy wx none) => (KeepC.pure h).trans ((hI2.pure h).keepP k (.slice (some ⟨g2, 0, none⟩) q.length raws2[k].c))
        have hFr := hide fun wx (h : w17.grownBy wx none) => (hI2.pure h).rw.out.frozen k
        rw [hback.out] at hPut
        obtain ⟨RC2, hRC2⟩ : ∃ x, x = raws2[k].c := ⟨_, rfl⟩
        rw [← hRC2] at hPut hkP hc2 hcap2
        clear hRC2 hO2c hO2 hln2 hd2 hS2
        generalize raws2.set k ⟨some ⟨g2, 0, none⟩, q.length, RC2⟩ = raws3 at *
        go_upto_region 18 with fail
        refine wp_region_tree (fun wx => w17.grownBy wx none) [2, 2, 2, 1, 2, 2, 2, 2, 1, 2, 2, 1, 2, 2, 2, 1, 2, 2, 1, 2, 2, 2, 2, 0] (.bl 0 (.bl 1 (.bl 2 (.bl 3 (.bl 4 (.bl 5 (.bl 6 (.bl 7 (.bl 8 (.bl 9 (.bl 10 (.bl 11 (.bl 12 (.bl 13 (.bl 14 (.bl 15 (.bl 16 (.bl 17 (.bl 18 (.bl 19 (.bl 20 (.bl 21 (.bl 22 (.ef 23 .done)))))))))))))))))))))))) (by kernel_rfl) (by kernel_rfl) (gr_drew (World.grownBy.refl _ _)) ?_
        obtain ⟨u2, hu2⟩ : ∃ x, x = (w17).drew := ⟨_, rfl⟩
        rw [← hu2]
        have hgu2 : (w17).grownBy u2 none := by rw [hu2]; exact gr_drew (World.grownBy.refl _ _)
        clear hu2
        refine tree_p rfl rfl rfl rfl _ rfl (by simp) (fun K hK => ?_)
        apply Exists.intro
        refine ⟨fun wq K' hK' => ?_, ?_⟩
        · go_wp2_with fail
          exact hK'
        go_simp
        refine hK _ ?_
        clear hK K
        refine tree_n rfl rfl _ rfl _ rfl ?_
        try go_simp
        refine tree_p rfl rfl rfl rfl _ rfl (by simp) (fun K hK => ?_)
        apply Exists.intro
        refine ⟨fun wq K' hK' => ?_, ?_⟩
        · go_wp2_with fail
          exact hK'
        go_simp
        refine hK _ ?_
        clear hK K
        refine tree_b rfl rfl rfl rfl _ rfl (by simp) (fun K hK => ?_)
        apply Exists.intro
        refine ⟨fun wq hq K' hK' => ?_, ?_⟩
        · obtain ⟨d3, -⟩ := (hI2.pure hq).bx.c 3 rfl
          have dk := hq.k hc2
          go_wp2_with fail
          exact hK'
        go_simp
        refine hK _ ?_
        clear hK K
        refine tree_p rfl rfl rfl rfl _ rfl (by simp) (fun K hK => ?_)
        apply Exists.intro
        refine ⟨fun wq K' hK' => ?_, ?_⟩
        · go_wp2_with fail
          exact hK'
        go_simp
        refine hK _ ?_
        clear hK K
        refine tree_p rfl rfl rfl rfl _ rfl (by simp) (fun K hK => ?_)
        apply Exists.intro
        refine ⟨fun wq K' hK' => ?_, ?_⟩
        · go_wp2_with fail
          exact hK'
        go_simp
        refine hK _ ?_
        clear hK K
        refine tree_n rfl rfl _ rfl _ rfl ?_
        try go_simp
        refine tree_p rfl rfl rfl rfl _ rfl (by simp) (fun K hK => ?_)
        apply Exists.intro
        refine ⟨fun wq K' hK' => ?_, ?_⟩
        · go_wp2_with fail
          exact hK'
        go_simp
        refine hK _ ?_
        clear hK K
        refine tree_b rfl rfl rfl rfl _ rfl (by simp) (fun K hK => ?_)
        apply Exists.intro
        refine ⟨fun wq hq K' hK' => ?_, ?_⟩
        · obtain ⟨d3, -⟩ := (hI2.pure hq).bx.c 3 rfl
          have dk := hq.k hc2
          go_wp2_with fail
          exact hK'
        go_simp
        refine hK _ ?_
        clear hK K
        refine tree_p rfl rfl rfl rfl _ rfl (by simp) (fun K hK => ?_)
        apply Exists.intro
        refine ⟨fun wq K' hK' => ?_, ?_⟩
        · go_wp2_with fail
          exact hK'
        go_simp
        refine hK _ ?_
        clear hK K
        refine tree_p rfl rfl rfl rfl _ rfl (by simp) (fun K hK => ?_)
        apply Exists.intro
        refine ⟨fun wq K' hK' => ?_, ?_⟩
        · go_wp2_with fail
          exact hK'
        go_simp
        refine hK _ ?_
        clear hK K
        refine tree_b rfl rfl rfl rfl _ rfl (by simp) (fun K hK => ?_)
        apply Exists.intro
        refine ⟨fun wq hq K' hK' => ?_, ?_⟩
        · obtain ⟨d3, -⟩ := (hI2.pure hq).bx.c 3 rfl
          have dk := hq.k hc2
          go_wp2_with fail
          exact hK'
        go_simp
        refine hK _ ?_
        clear hK K
        refine tree_p rfl rfl rfl rfl _ rfl (by simp) (fun K hK => ?_)
        apply Exists.intro
        refine ⟨fun wq K' hK' => ?_, ?_⟩
        · go_wp2_with fail
          exact hK'
        go_simp
        refine hK _ ?_
        clear hK K
        refine tree_n rfl rfl _ rfl _ rfl ?_
        try go_simp
        refine tree_p rfl rfl rfl rfl _ rfl (by simp) (fun K hK => ?_)
        apply Exists.intro
        refine ⟨fun wq K' hK' => ?_, ?_⟩
        · go_wp2_with fail
          exact hK'
        go_simp
        refine hK _ ?_
        clear hK K
        refine tree_b rfl rfl rfl rfl _ rfl (by simp) (fun K hK => ?_)
        apply Exists.intro
        refine ⟨fun wq hq K' hK' => ?_, ?_⟩
        · obtain ⟨d3, -⟩ := (hI2.pure hq).bx.c 3 rfl
          have dk := hq.k hc2
          go_wp2_with fail
          exact hK'
        go_simp
        refine hK _ ?_
        clear hK K
        refine tree_p rfl rfl rfl rfl _ rfl (by simp) (fun K hK => ?_)
        apply Exists.intro
        refine ⟨fun wq K' hK' => ?_, ?_⟩
        · go_wp2_with fail
          exact hK'
        go_simp
        refine hK _ ?_
        clear hK K
        refine tree_p rfl rfl rfl rfl _ rfl (by simp) (fun K hK => ?_)
        apply Exists.intro
        refine ⟨fun wq K' hK' => ?_, ?_⟩
        · go_wp2_with fail
          exact hK'
        go_simp
        refine hK _ ?_
        clear hK K
        refine tree_b rfl rfl rfl rfl _ rfl (by simp) (fun K hK => ?_)
        apply Exists.intro
        refine ⟨fun wq hq K' hK' => ?_, ?_⟩
        · obtain ⟨d3, -⟩ := (hI2.pure hq).bx.c 3 rfl
          have dk := hq.k hc2
          go_wp2_with fail
          exact hK'
        go_simp
        refine hK _ ?_
        clear hK K
        refine tree_p rfl rfl rfl rfl _ rfl (by simp) (fun K hK => ?_)
        apply Exists.intro
        refine ⟨fun wq K' hK' => ?_, ?_⟩
        · go_wp2_with fail
          exact hK'
        go_simp
        refine hK _ ?_
        clear hK K
        refine tree_p rfl rfl rfl rfl _ rfl (by simp) (fun K hK => ?_)
        apply Exists.intro
        refine ⟨fun wq K' hK' => ?_, ?_⟩
        · go_wp2_with fail
          exact hK'
        go_simp
        refine hK _ ?_
        clear hK K
        refine tree_p rfl rfl rfl rfl _ rfl (by simp) (fun K hK => ?_)
        apply Exists.intro
        refine ⟨fun wq K' hK' => ?_, ?_⟩
        · go_wp2_with fail
          exact hK'
        go_simp
        refine hK _ ?_
        clear hK K
        refine tree_p rfl rfl rfl rfl _ rfl (by simp) (fun K hK => ?_)
        apply Exists.intro
        refine ⟨fun wq K' hK' => ?_, ?_⟩
        · go_wp2_with fail
          exact hK'
        go_simp
        refine hK _ ?_
        clear hK K
        refine tree_e0 (by kernel_rfl) rfl rfl (fun K hK => ?_)
        have hf23 := hFr.out u2 hgu2
        have dk := hgu2.k hc2
        go_wp2_with fail
        try go_simp
        refine hK _ _ trivial ?_
        clear hK K
        refine tree_done ?_
        have hI18 := hPut.out u2 hgu2
        have hk18 := hkz.trans (hkP.out u2 hgu2)
        obtain ⟨w18, hw18⟩ : ∃ x, x = u2.setCell ⟨E.gp, k, none⟩ (.slice (some ⟨g2, 0, none⟩) q.length RC2) := ⟨_, rfl⟩
        rw [← hw18] at hI18 hk18 ⊢
        clear hw18 hPut hkP hFr hI2 hgu2 hc2 hf23 dk
        have hcu19 := hI18.ucell hlt
        have hfu19 := hI18.us.frozen n
        obtain ⟨b4, -⟩ := hI18.bx.c 4 rfl
        have hI19 := hIQ3.out _ _ (hI18.setU hE (v := false) (T' := Q.flatten) hlt hbk.out)
        have hk19 := hk18.trans (hI18.keepU n (.bool false))
        generalize memI (Q.flatten ++ [(n : Int)]) (n : Int) = vv at hcu19
        clear hI18 hk18 hkz
        replace hI19 := hide hI19
        replace hk19 := hide hk19
        go_wp2_with fail
        (go_roundw; (case rel => exact ⟨n + 1, b'', by omega, by go_num, hB3, hI19.out, hk19.out⟩); (case measure => simp [intOf]; omega))
      · rw [hmem] at hcu15
        have hB2 : Hid (Bst E.p E.j E.ch (SOn E k Q (n + 1)) bo b') := hB.out.of (SOn_in hmem)
        have hIQ3 := hIQ2.out _ _ _ hI15
        go_wp2_with fail
        (go_roundw; (case rel => exact ⟨n + 1, b', by omega, by go_num, hB2, hIQ3, hk15⟩); (case measure => simp [intOf]; omega))
    · obtain rfl : n = E.j.length := by omega
      obtain ⟨raws, B, d, rB, R, l, s, hd, hS, hI⟩ := hIQ
      have hIQ2 : InvQ E wr Q b' := ⟨raws, B, d, rB, R, l, s, hd, hS, hI⟩
      obtain ⟨b0, -⟩ := hI.bx.c 0 rfl
      clear hd hS hb8w
      by_cases hk1 : k + 1 < E.p.length
      · have hIH := hide (hnext.out hk1 b' wr hIQ2)
        obtain ⟨ga, oa, cx, eP, _, hb2, rfl, hc2⟩ := (hP.pure hI.gr).at_ (by decide) hk1
        have e0 : wr.cell? ⟨ga, oa + (k + 1) * 2, none⟩ = some (.string E.p[k + 1].key) := hc2 0 _ rfl
        have e1 : wr.cell? ⟨ga, oa + (k + 1) * 2 + 1, none⟩ = some (.string E.p[k + 1].mat) := hc2 1 _ rfl
        clear hc2 hI
        rw [eP] at b0
        have hk2 : (0 : Int) ≤ (k : Int) ∧ (k : Int) + 1 < (E.p.length : Int) := by omega
        generalize E.p[k + 1] = pp at *
        go_wp2_with fail
        refine hIH.out.mono ?_
        rintro e w9 ⟨rfl, ⟨b'', hBb, hIQn⟩, hk9⟩
        have hBf : Hid (Bst E.p E.j E.ch (fun X => SOn E k Q E.j.length X ∨ (k + 1 < E.p.length ∧ Comp E.p.length E.j.length (k + 1) Q X)) bo b'') := (hB.out.join hBb).of (fun X => ⟨fun h => h.imp id fun h => h.2, fun h => h.imp id fun h => ⟨hk1, h⟩⟩)
        go_wp2_with fail
        go_end0
        exact ⟨rfl, ⟨b'', hBf.out, hIQn⟩, hk8.trans (hkc.trans hk9)⟩
      · have hBf : Hid (Bst E.p E.j E.ch (fun X => SOn E k Q E.j.length X ∨ (k + 1 < E.p.length ∧ Comp E.p.length E.j.length (k + 1) Q X)) bo b') := hB.out.of (fun X => ⟨fun h => h.resolve_right fun h => hk1 h.1, .inl⟩)
        have hk2 : ¬ ((k : Int) + 1 < (E.p.length : Int)) := by omega
        clear hI
        go_wp2_with fail
        go_end0
        first
        | exact ⟨rfl, ⟨b', hBf.out, hIQ2⟩, hk8.trans hkc⟩
        | exact ⟨rfl, ⟨b', hB.out, hIQ2⟩, hk8.trans hkc⟩

end Go.Proofs.YtanioobepfllgaaGreatDoor

namespace Go.Proofs.YtanioobepfllgaaGreatDoor
open Go Go.RowKit Go.Bl

/-! ### bounds -/

theorem rowC_bd2 {j : List Jb} {ch : Int} (h : JOk j ch) : ∀ (row : List Int) (_ : ∀ i ∈ row, 0 ≤ i ∧ i < (j.length : Int)) (c : Int × ByteArray) (N : Int) (_ : 0 ≤ c.1 ∧ c.1 ≤ N), (∀ q ∈ rowC j ch c row, 0 ≤ q.2 ∧ q.2 ≤ N + 200000 * row.length) ∧ 0 ≤ ((rowC j ch c row).map (·.2)).sum ∧ ((rowC j ch c row).map (·.2)).sum ≤ row.length * (N + 200000 * row.length)
  | [], _, c, N, hc => by simp [rowC]
  | i :: r, hr, c, N, hc => by
    have h1 := doC_bd h (hr i (by simp)) hc
    obtain ⟨h2, h3, h4⟩ := rowC_bd2 h r (fun k hk => hr k (by simp [hk])) (doC c (jobAt j i) ch) (N + 200000) h1
    have e : N + 200000 + 200000 * (r.length : Int) = N + 200000 * ((i :: r).length : Int) := by rw [List.length_cons]; push_cast; omega
    rw [e] at h2 h4
    rw [show rowC j ch c (i :: r) = (i, (doC c (jobAt j i) ch).1) :: rowC j ch (doC c (jobAt j i) ch) r from rfl]
    have e2 : ((i :: r).length : Int) * (N + 200000 * ((i :: r).length : Int)) = (r.length : Int) * (N + 200000 * ((i :: r).length : Int)) + (N + 200000 * ((i :: r).length : Int)) := by
      rw [show ((i :: r).length : Int) = (r.length : Int) + 1 by simp, Int.add_mul, Int.one_mul]
    have e3 : (0 : Int) ≤ (r.length : Int) := by omega
    have e4 : ((i :: r).length : Int) = (r.length : Int) + 1 := by simp
    refine ⟨fun q hq => ?_, ?_, ?_⟩
    · rcases List.mem_cons.1 hq with rfl | hq
      · simp only; omega
      · exact h2 q hq
    · rw [List.map_cons, List.sum_cons]; simp only; omega
    · rw [List.map_cons, List.sum_cons, e2]
      have : (doC c (jobAt j i) ch).1 ≤ N + 200000 * ((i :: r).length : Int) := by omega
      simp only
      omega

theorem last_bd {M : Int} (hM : 0 ≤ M) : ∀ (L : List (Int × Int)), (∀ q ∈ L, q.2 ≤ M) → lastO L ≤ M
  | [], _ => hM
  | q :: L, h => by
    rw [lastO_cons]
    have h1 := h q (by simp)
    have h2 := last_bd hM L (fun x hx => h x (by simp [hx]))
    omega

theorem few_rows {n : Nat} {Q : List (List Int)} (h : IsP n Q.flatten) : Q.flatten.length ≤ n := by
  have h2 := h.nd.length_le_of_subset (l₂ := (List.range n).map fun i : Nat => (i : Int)) (fun x hx => by
    have hb := h.bd x hx
    obtain ⟨q, rfl⟩ := Int.eq_ofNat_of_zero_le hb.1
    exact List.mem_map.2 ⟨q, List.mem_range.2 (by omega), rfl⟩)
  simpa using h2

theorem row7 {n : Nat} {Q : List (List Int)} (h : IsP n Q.flatten) (h7 : n ≤ 7) (k : Nat) : (Q.getD k []).length ≤ 7 ∧ ∀ i ∈ Q.getD k [], 0 ≤ i ∧ i < (n : Int) := by
  by_cases hk : k < Q.length
  · rw [show Q.getD k [] = Q[k] by simp [List.getD_eq_getElem?_getD, hk]]
    exact ⟨Nat.le_trans (Nat.le_trans (row_len hk) (few_rows h)) h7, fun i hi => h.bd i (row_in hk i hi)⟩
  · rw [show Q.getD k [] = [] by simp [List.getD_eq_getElem?_getD, List.getElem?_eq_none (by omega : Q.length ≤ k)]]
    simp

theorem prs_bd {p : List Prn} {j : List Jb} {ch : Int} (hok : JOk j ch) (h7 : j.length ≤ 7) {Q : List (List Int)} (h : IsP j.length Q.flatten) : ∀ k, (∀ q ∈ pairsK p j Q ch k, q.2 ≤ 1400000) ∧ 0 ≤ ((pairsK p j Q ch k).map (·.2)).sum ∧ ((pairsK p j Q ch k).map (·.2)).sum ≤ k * 9800000
  | 0 => by simp [pairsK]
  | k + 1 => by
    obtain ⟨h1, h2, h3⟩ := prs_bd hok h7 h k
    obtain ⟨r1, r2⟩ := row7 h h7 k
    obtain ⟨c1, c2, c3⟩ := rowC_bd2 hok (Q.getD k []) r2 (0, (p.getD k default).mat) 0 (by simp)
    rw [pairsK_succ]
    have e : ((Q.getD k []).length : Int) * (0 + 200000 * ((Q.getD k []).length : Int)) ≤ 7 * 1400000 := Int.mul_le_mul (by omega) (by omega) (by omega) (by omega)
    unfold rowP
    refine ⟨fun q hq => ?_, ?_, ?_⟩
    · rcases List.mem_append.1 hq with hq | hq
      · exact h1 q hq
      · have := (c1 q hq).2
        omega
    · rw [List.map_append, List.sum_append]; omega
    · rw [List.map_append, List.sum_append]; push_cast; omega

theorem try_any {E : PEnv} (hE : E.Ok) (hok : JOk E.j E.ch) (hj7 : E.j.length ≤ 7) (hp4 : 0 < E.p.length ∧ E.p.length ≤ 4) (hJ : Sl E.w0 0 E.J E.j) (hP : Sl E.w0 0 E.P E.p) :
    ∀ (d k : Nat) (Q : List (List Int)) (bo : Option (List (List Int))) (w : World), (E.j.length - Q.flatten.length) * (E.p.length + 1) + (E.p.length - k) ≤ d → Part E.p.length E.j.length k Q → InvQ E w Q bo →
      Calls Tryz.prog 38 #[.pointer (some ⟨E.gb, 0, none⟩), .int .i64 k, .agg #[.int .i64 (clkR E.p E.j E.ch k Q).1, .string (clkR E.p E.j E.ch k Q).2], .int .i64 ((E.j.length : Int) - (Q.flatten.length : Int)), .int .i64 (lstP E.p E.j E.ch Q), .int .i64 (sumP E.p E.j E.ch Q)] w (TryR E (Comp E.p.length E.j.length k Q) Q bo w) := by
  intro d
  induction d with
  | zero =>
    intro k Q bo w hd hPt _
    have := hPt.km
    omega
  | succ d ih =>
    intro k Q bo w hd hPt hIQ
    have hkm := hPt.km
    have hfl := few_rows hPt.isp
    obtain ⟨raws, B, dd, rB, R, l, s, hdd, hS, hI⟩ := hIQ
    have hIQ : InvQ E w Q bo := ⟨raws, B, dd, rB, R, l, s, hdd, hS, hI⟩
    by_cases hcut : ∃ X, bo = some X ∧ l < lstP E.p E.j E.ch Q
    · obtain ⟨X, rfl, hl⟩ := hcut
      refine (tryCut_any hI hS k ((E.j.length : Int) - (Q.flatten.length : Int)) (lstP E.p E.j E.ch Q) (sumP E.p E.j E.ch Q) (clkR E.p E.j E.ch k Q).1 (clkR E.p E.j E.ch k Q).2 hl).mono ?_
      rintro e w' ⟨rfl, hg⟩
      refine ⟨rfl, ⟨some X, Bst.prune fun Y hY => ?_, ?_⟩, KeepC.pure hg⟩
      · have h1 := comp_last (j := E.j) (ch := E.ch) hPt hY
        obtain ⟨-, -, -, rfl, -⟩ := hS
        omega
      · exact ⟨raws, B, dd, rB, R, l, s, hdd, hS, hI.pure hg⟩
    · have hl : ∀ X, bo = some X → lstP E.p E.j E.ch Q ≤ l := fun X hX => by
        rcases Int.lt_or_le l (lstP E.p E.j E.ch Q) with h | h
        · exact absurd ⟨X, hX, h⟩ hcut
        · exact h
      by_cases hleaf : Q.flatten.length = E.j.length
      · have h := tryLeaf_any hE hp4 hI hS hdd (k : Int) (lstP E.p E.j E.ch Q) (sumP E.p E.j E.ch Q) (clkR E.p E.j E.ch k Q).1 (clkR E.p E.j E.ch k Q).2 hl hPt.len (fun i hi => by
          have := (row7 hPt.isp hj7 i).1
          rwa [show Q.getD i [] = Q[i] by simp [List.getD_eq_getElem?_getD, hi]] at this) rfl rfl
        rw [show (E.j.length : Int) - (Q.flatten.length : Int) = 0 by omega]
        refine h.mono ?_
        rintro e w' ⟨rfl, hQ', hk'⟩
        refine ⟨rfl, ⟨_, ?_, hQ'⟩, hk'⟩
        have hb := Bst.leaf (p := E.p) (j := E.j) (ch := E.ch) (P := Q) (b := bo) (fun X => comp_leaf (Q := X) hPt hleaf)
        cases bo with
        | none => exact hb
        | some X =>
          obtain ⟨-, -, -, rfl, rfl⟩ := hS
          exact hb
      · have hlt : Q.flatten.length < E.j.length := by omega
        obtain ⟨r1, r2⟩ := row7 hPt.isp hj7 k
        have hcb := clkC_bd hok (Q.getD k []) r2 (0, (E.p.getD k default).mat) (N := 0) (by simp)
        obtain ⟨q1, q2, q3⟩ := prs_bd (p := E.p) hok hj7 hPt.isp E.p.length
        have hla : 0 ≤ lstP E.p E.j E.ch Q ∧ lstP E.p E.j E.ch Q ≤ 1400000 := ⟨lastO_nn _, last_bd (by omega) _ q1⟩
        have hsu : 0 ≤ sumP E.p E.j E.ch Q ∧ sumP E.p E.j E.ch Q ≤ 39200000 := ⟨q2, by unfold sumP prsA; omega⟩
        refine (tryNode_any hE hok hj7 hp4.2 hJ hP hI hS hdd k ((E.j.length : Int) - (Q.flatten.length : Int)) (lstP E.p E.j E.ch Q) (sumP E.p E.j E.ch Q) (clkR E.p E.j E.ch k Q).1 (clkR E.p E.j E.ch k Q).2 hl hPt (by omega) (by unfold clkR; omega) (by omega) (by omega) ?_ ?_).mono ?_
        · intro i b' w' hi hm hQ'
          have hpf := hPt.push_flat (i : Int)
          have hlen : (Q.set k (Q.getD k [] ++ [(i : Int)])).flatten.length = Q.flatten.length + 1 := by rw [hpf, List.length_append]; rfl
          have hms : (E.j.length - (Q.set k (Q.getD k [] ++ [(i : Int)])).flatten.length) * (E.p.length + 1) + (E.p.length - k) ≤ d := by
            rw [hlen]
            have e : E.j.length - Q.flatten.length = (E.j.length - (Q.flatten.length + 1)) + 1 := by omega
            rw [e, Nat.succ_mul] at hd
            omega
          have h := ih k _ b' w' hms (hPt.push hi hm) hQ'
          have e1 : clkR E.p E.j E.ch k (Q.set k (Q.getD k [] ++ [(i : Int)])) = doC ((clkR E.p E.j E.ch k Q).1, (clkR E.p E.j E.ch k Q).2) E.j[i] E.ch := by rw [hPt.clk_push, jobAt_nat hi]
          have e2 : lstP E.p E.j E.ch (Q.set k (Q.getD k [] ++ [(i : Int)])) = max (lstP E.p E.j E.ch Q) (doC ((clkR E.p E.j E.ch k Q).1, (clkR E.p E.j E.ch k Q).2) E.j[i] E.ch).1 := by
            unfold lstP
            rw [hPt.prs_push hi hm, lastO_snoc, jobAt_nat hi]
          have e3 : sumP E.p E.j E.ch (Q.set k (Q.getD k [] ++ [(i : Int)])) = sumP E.p E.j E.ch Q + (doC ((clkR E.p E.j E.ch k Q).1, (clkR E.p E.j E.ch k Q).2) E.j[i] E.ch).1 := by
            unfold sumP
            rw [hPt.prs_push hi hm, List.map_append, List.sum_append, jobAt_nat hi]
            simp
          rw [e1, e2, e3, hlen] at h
          rw [show (E.j.length : Int) - (Q.flatten.length : Int) - 1 = (E.j.length : Int) - ((Q.flatten.length + 1 : Nat) : Int) by push_cast; omega]
          exact h
        · intro hk1 b' w' hQ'
          obtain ⟨hP1, he⟩ := hPt.next hk1
          have h := ih (k + 1) Q b' w' (by omega) hP1 hQ'
          have e1 : clkR E.p E.j E.ch (k + 1) Q = (0, E.p[k + 1].mat) := by
            unfold clkR
            rw [he]
            simp [clkC, List.getD_eq_getElem?_getD, hk1]
          rw [e1] at h
          exact h
        · rintro e w' ⟨rfl, ⟨b', hB, hQ'⟩, hk'⟩
          refine ⟨rfl, ⟨b', hB.of fun X => ?_, hQ'⟩, hk'⟩
          constructor
          · intro hX
            rcases comp_node hPt hlt hX with ⟨h1, h2⟩ | ⟨i, h1, h2, h3⟩
            · exact .inr ⟨h1, h2⟩
            · exact .inl ⟨i, h1, h2, h3⟩
          · rintro (⟨i, h1, h2, h3⟩ | ⟨h1, h2⟩)
            · exact comp_push hPt h3
            · exact comp_next hPt h2

/-! ### farm.Earliest -/

def EarR (p : List Prn) (j : List Jb) (ch : Int) (w : World) (e : Ending) (w' : World) : Prop :=
  ∃ B d rB R, e = .returned (.tuple #[.slice B R.length d, .int .i64 (lstP p j ch R), .int .i64 0]) ∧ BestP p j ch R ∧ R.length ≤ d ∧ RowsN w' w.heap.size w.heap.size 22 3 B d rB R ∧ w.grownBy w' none

theorem RowsN.low2 {w : World} {lo li lo' : Nat} {eo ei : TypeId} {A : Option Addr} {c : Nat} {raws : List RawS} {ls : List (List Int)} (h : RowsN w lo li eo ei A c raws ls) (h1 : lo' ≤ lo) : RowsN w lo' lo' eo ei A c raws ls :=
  ⟨h.out.lower h1, h.len, fun i a b => ⟨(h.ins i a b).1, (h.ins i a b).2.lower (Nat.le_trans h1 h.le)⟩, h.dis, h.typ, Nat.le_refl _⟩

set_option maxHeartbeats 4000000 in
set_option maxRecDepth 100000 in
theorem earliest_any (P : Option Addr) (cp : Nat) (p : List Prn) (J : Option Addr) (cj : Nat) (j : List Jb) (ch : Int) (w : World) (hP : Sl w 0 P p) (hJ : Sl w 0 J j) (hF : farmF p j = 0) (hc : spanF ch 0 100000 = 0) (hj7 : j.length ≤ 7) (hp4 : p.length ≤ 4) :
    Calls Tryz.prog 9 #[.slice P p.length cp, .slice J j.length cj, .int .i64 ch] w (EarR p j ch w) := by
  have hp0 := (farm_plen hF).1
  have hok := jok_of hF hc
  have hout : outB ch 0 100000 = false := by
    rw [spanF_outB] at hc
    rcases h : outB ch 0 100000 with _ | _
    · rfl
    · rw [h] at hc; cases hc
  have hf := hide (fault_any P cp p J cj j w hP hJ)
  rw [hF] at hf
  have hlj : decide ((j.length : Int) > 7) = false := by rw [decide_eq_false_iff_not]; omega
  have hlp : decide ((p.length : Int) > 4) = false := by rw [decide_eq_false_iff_not]; omega
  clear hc hF
  replace hok := hide hok
  go_enter Tryz.func9, Tryz.ntmps9
  go_wp2_with fail
  refine hf.out.mono ?_
  rintro e w1 ⟨rfl, hg1⟩
  clear hf
  go_upto_region 8 with (go_at_call 37; refine (isChange_any _ _).mono ?_; rintro _ _ ⟨rfl, rfl⟩; rw [hout])
  clear hlj hlp hout
  obtain ⟨i0, hi, hz, hi1, hi2⟩ := info_parts info_intsR
  obtain ⟨i9, hi9, hz9, hi19, hi29⟩ := info_parts info_boolF
  have hmkP := hide (fun V => run_makeOwn (P := Tryz.prog) V 31 22 i0 _ (⟨none, 0, 0⟩ : RawS) Tryz.underlying31 hi hz hi1 rfl rfl .i64 .i64 p.length (by rw [hi2]; omega) (by simp [maxLen]; omega))
  have hmkU := hide (fun V => run_makeOwn (P := Tryz.prog) V 74 4 i9 _ false Tryz.underlying74 hi9 hz9 hi19 rfl rfl .i64 .i64 j.length (by rw [hi29]; omega) (by simp [maxLen]; omega))
  clear hi hz hi1 hi2 hi9 hz9 hi19 hi29
  go_cut [10] from 28 to 38 (fun s10 wx => ∃ gb gp gs, s10 = .pointer (some ⟨gb, 0, none⟩) ∧ w1.grownBy wx none ∧ w1.heap.size ≤ gb ∧ w1.heap.size ≤ gp ∧ w1.heap.size ≤ gs ∧ Box wx gb 76 [.slice P p.length cp, .slice J j.length cj, .int .i64 ch, .slice (some ⟨gp, 0, none⟩) p.length p.length, .slice (some ⟨gs, 0, none⟩) j.length j.length, .slice none 0 0, .int .i64 0, .int .i64 0] ∧
    Own wx w1.heap.size 22 (some ⟨gp, 0, none⟩) p.length (List.replicate p.length (⟨none, 0, 0⟩ : RawS)) ∧ Own wx w1.heap.size 4 (some ⟨gs, 0, none⟩) j.length (List.replicate j.length false))
  case first =>
    refine wp_region_tree (fun wx => w1.grownBy wx none) [2, 2, 2, 2, 2, 0, 2, 2, 0, 2, 0, 2] (.bl 0 (.bl 1 (.bl 2 (.bl 3 (.bl 4 (.bl 6 (.bl 7 (.alt (.ef 5 (.ef 8 (.bl 9 (.ef 10 (.bl 11 .done))))) (.ef 8 (.ef 5 (.bl 9 (.ef 10 (.bl 11 .done))))))))))))) (by kernel_rfl) (by kernel_rfl) (gr_drew (World.grownBy.refl _ _)) ?_
    obtain ⟨u0, hu0⟩ : ∃ x, x = (w1).drew := ⟨_, rfl⟩
    rw [← hu0]
    have hgu0 : (w1).grownBy u0 none := by rw [hu0]; exact gr_drew (World.grownBy.refl _ _)
    clear hu0
    refine tree_p rfl rfl rfl rfl _ rfl (by simp) (fun K hK => ?_)
    apply Exists.intro
    refine ⟨fun wq K' hK' => ?_, ?_⟩
    · go_wp2_with fail
      exact hK'
    go_simp
    refine hK _ ?_
    clear hK K
    refine tree_p rfl rfl rfl rfl _ rfl (by simp) (fun K hK => ?_)
    apply Exists.intro
    refine ⟨fun wq K' hK' => ?_, ?_⟩
    · go_wp2_with fail
      exact hK'
    go_simp
    refine hK _ ?_
    clear hK K
    refine tree_p rfl rfl rfl rfl _ rfl (by simp) (fun K hK => ?_)
    apply Exists.intro
    refine ⟨fun wq K' hK' => ?_, ?_⟩
    · go_wp2_with fail
      exact hK'
    go_simp
    refine hK _ ?_
    clear hK K
    refine tree_p rfl rfl rfl rfl _ rfl (by simp) (fun K hK => ?_)
    apply Exists.intro
    refine ⟨fun wq K' hK' => ?_, ?_⟩
    · go_wp2_with fail
      exact hK'
    go_simp
    refine hK _ ?_
    clear hK K
    refine tree_p rfl rfl rfl rfl _ rfl (by simp) (fun K hK => ?_)
    apply Exists.intro
    refine ⟨fun wq K' hK' => ?_, ?_⟩
    · go_wp2_with fail
      exact hK'
    go_simp
    refine hK _ ?_
    clear hK K
    refine tree_p rfl rfl rfl rfl _ rfl (by simp) (fun K hK => ?_)
    apply Exists.intro
    refine ⟨fun wq K' hK' => ?_, ?_⟩
    · go_wp2_with fail
      exact hK'
    go_simp
    refine hK _ ?_
    clear hK K
    refine tree_p rfl rfl rfl rfl _ rfl (by simp) (fun K hK => ?_)
    apply Exists.intro
    refine ⟨fun wq K' hK' => ?_, ?_⟩
    · go_wp2_with fail
      exact hK'
    go_simp
    refine hK _ ?_
    clear hK K
    refine tree_alt ?_ ?_
    · refine tree_e0 (by kernel_rfl) rfl rfl (fun K hK => ?_)
      obtain ⟨w5, hrun, hoO, hg5⟩ := hmkP.out u0
      obtain ⟨qq, hqq⟩ : ∃ x, x = (u0).heap.size := ⟨_, rfl⟩
      rw [← hqq] at hrun hoO
      have hqs : (u0).heap.size ≤ qq := by omega
      replace hqq := hide hqq
      go_wp2_with fail
      clear hrun
      try go_simp
      refine hK _ _ trivial ?_
      clear hK K
      refine tree_e0 (by kernel_rfl) rfl rfl (fun K hK => ?_)
      obtain ⟨w8, hrun8, hoU, hg8⟩ := hmkU.out w5
      obtain ⟨qu, hqu⟩ : ∃ x, x = (w5).heap.size := ⟨_, rfl⟩
      rw [← hqu] at hrun8 hoU
      have hus : (w5).heap.size ≤ qu := by omega
      replace hqu := hide hqu
      go_wp2_with fail
      clear hrun8
      try go_simp
      refine hK _ _ trivial ?_
      clear hK K
      refine tree_p rfl rfl rfl rfl _ rfl (by simp) (fun K hK => ?_)
      apply Exists.intro
      refine ⟨fun wq K' hK' => ?_, ?_⟩
      · go_wp2_with fail
        exact hK'
      go_simp
      refine hK _ ?_
      clear hK K
      refine tree_e0 (by kernel_rfl) rfl rfl (fun K hK => ?_)
      go_wp2_with fail
      try go_simp
      refine hK _ _ trivial ?_
      clear hK K
      obtain ⟨w10, hw10⟩ : ∃ x, x = (w8).alloc (.cells [.slice P p.length cp, .slice J j.length cj, .int .i64 ch, .slice (some ⟨qq, 0, none⟩) p.length p.length, .slice (some ⟨qu, 0, none⟩) j.length j.length, .slice none 0 0, .int .i64 0, .int .i64 0].toArray 76) := ⟨_, rfl⟩
      have hg10 : (w8).grownBy w10 none := by rw [hw10]; exact gr_alloc (World.grownBy.refl _ _) _
      have hb10 : Box w10 (w8).heap.size 76 [.slice P p.length cp, .slice J j.length cj, .int .i64 ch, .slice (some ⟨qq, 0, none⟩) p.length p.length, .slice (some ⟨qu, 0, none⟩) j.length j.length, .slice none 0 0, .int .i64 0, .int .i64 0] := by rw [hw10]; exact Box.new _ _ _
      rw [← hw10]
      clear hw10
      obtain ⟨x10, hx10⟩ : ∃ x, x = (w8).heap.size := ⟨_, rfl⟩
      rw [← hx10] at hb10 ⊢
      have hxl10 : (w8).heap.size ≤ x10 := by omega
      clear hx10
      refine tree_p rfl rfl rfl rfl _ rfl (by simp) (fun K hK => ?_)
      apply Exists.intro
      refine ⟨fun wq K' hK' => ?_, ?_⟩
      · go_wp2_with fail
        exact hK'
      go_simp
      refine hK _ ?_
      clear hK K
      refine tree_done ?_
      go_wp2_with fail
      go_meet
      have k1 := hgu0.size
      have k2 := hg5.size
      have k3 := hg8.size
      exact ⟨x10, qq, qu, rfl, gr_trans hgu0 (gr_trans (gr_trans hg5 hg8) hg10), by omega, by omega, by omega, hb10, (Own.lower hoO (by omega)).pure (gr_trans hg8 hg10), (Own.lower hoU (by omega)).pure hg10⟩
    · refine tree_e0 (by kernel_rfl) rfl rfl (fun K hK => ?_)
      obtain ⟨w8, hrun8, hoU, hg8⟩ := hmkU.out u0
      obtain ⟨qu, hqu⟩ : ∃ x, x = (u0).heap.size := ⟨_, rfl⟩
      rw [← hqu] at hrun8 hoU
      have hus : (u0).heap.size ≤ qu := by omega
      replace hqu := hide hqu
      go_wp2_with fail
      clear hrun8
      try go_simp
      refine hK _ _ trivial ?_
      clear hK K
      refine tree_e0 (by kernel_rfl) rfl rfl (fun K hK => ?_)
      obtain ⟨w5, hrun, hoO, hg5⟩ := hmkP.out w8
      obtain ⟨qq, hqq⟩ : ∃ x, x = (w8).heap.size := ⟨_, rfl⟩
      rw [← hqq] at hrun hoO
      have hqs : (w8).heap.size ≤ qq := by omega
      replace hqq := hide hqq
      go_wp2_with fail
      clear hrun
      try go_simp
      refine hK _ _ trivial ?_
      clear hK K
      refine tree_p rfl rfl rfl rfl _ rfl (by simp) (fun K hK => ?_)
      apply Exists.intro
      refine ⟨fun wq K' hK' => ?_, ?_⟩
      · go_wp2_with fail
        exact hK'
      go_simp
      refine hK _ ?_
      clear hK K
      refine tree_e0 (by kernel_rfl) rfl rfl (fun K hK => ?_)
      go_wp2_with fail
      try go_simp
      refine hK _ _ trivial ?_
      clear hK K
      obtain ⟨w10, hw10⟩ : ∃ x, x = (w5).alloc (.cells [.slice P p.length cp, .slice J j.length cj, .int .i64 ch, .slice (some ⟨qq, 0, none⟩) p.length p.length, .slice (some ⟨qu, 0, none⟩) j.length j.length, .slice none 0 0, .int .i64 0, .int .i64 0].toArray 76) := ⟨_, rfl⟩
      have hg10 : (w5).grownBy w10 none := by rw [hw10]; exact gr_alloc (World.grownBy.refl _ _) _
      have hb10 : Box w10 (w5).heap.size 76 [.slice P p.length cp, .slice J j.length cj, .int .i64 ch, .slice (some ⟨qq, 0, none⟩) p.length p.length, .slice (some ⟨qu, 0, none⟩) j.length j.length, .slice none 0 0, .int .i64 0, .int .i64 0] := by rw [hw10]; exact Box.new _ _ _
      rw [← hw10]
      clear hw10
      obtain ⟨x10, hx10⟩ : ∃ x, x = (w5).heap.size := ⟨_, rfl⟩
      rw [← hx10] at hb10 ⊢
      have hxl10 : (w5).heap.size ≤ x10 := by omega
      clear hx10
      refine tree_p rfl rfl rfl rfl _ rfl (by simp) (fun K hK => ?_)
      apply Exists.intro
      refine ⟨fun wq K' hK' => ?_, ?_⟩
      · go_wp2_with fail
        exact hK'
      go_simp
      refine hK _ ?_
      clear hK K
      refine tree_done ?_
      go_wp2_with fail
      go_meet
      have k1 := hgu0.size
      have k2 := hg5.size
      have k3 := hg8.size
      exact ⟨x10, qq, qu, rfl, gr_trans hgu0 (gr_trans (gr_trans hg8 hg5) hg10), by omega, by omega, by omega, hb10, (Own.lower hoO (by omega)).pure hg10, (Own.lower hoU (by omega)).pure (gr_trans hg5 hg10)⟩
  case rest =>
  obtain ⟨gb, gp, gs, rfl, hgc, hb0, hp0', hs0, hbx, hop, hos⟩ := hcut
  clear hmkP hmkU
  have hgw := hg1.t hgc
  obtain ⟨E, hEe⟩ : ∃ E : PEnv, E = ⟨w, wc.heap.size, gb, gp, gs, P, cp, J, cj, p, j, ch⟩ := ⟨_, rfl⟩
  have hE : E.Ok := by
    rw [hEe]
    have l1 := hg1.size
    have l2 := hbx.lt
    have l3 := (hop.blk_lt (g := gp) rfl).2
    have l4 := (hos.blk_lt (g := gs) rfl).2
    exact ⟨⟨by show w.heap.size ≤ gb; omega, l2⟩, ⟨by show w.heap.size ≤ gp; omega, l3⟩, ⟨by show w.heap.size ≤ gs; omega, l4⟩, fun e => hbx.ne_own hop (by decide) (by show some gp = some gb; rw [show gb = gp from e]), fun e => hbx.ne_own hos (by decide) (by show some gs = some gb; rw [show gb = gs from e]), fun e => hop.ne_own hos (by decide) (x := gp) rfl (by show some gs = some gp; rw [show gp = gs from e])⟩
  have hf0 : (List.replicate p.length ([] : List Int)).flatten = [] := flat_nil fun x hx => List.eq_of_mem_replicate hx
  have hI0 : InvP E wc (List.replicate p.length []) (List.replicate p.length ([] : List Int)).flatten (List.replicate p.length (⟨none, 0, 0⟩ : RawS)) none 0 [] [] (.slice none ([] : List (List Int)).length 0) 0 0 := by
    rw [hf0, hEe]
    exact ⟨hbx, (RowsN.made hop (by decide) (by have := (hop.blk_lt (g := gp) rfl); show w1.heap.size ≤ wc.heap.size; omega)).lower hg1.size, by show Own wc w.heap.size 4 (some ⟨gs, 0, none⟩) j.length (seenN j.length []); rw [seenN_nil]; exact hos.lower hg1.size, RowsN.nil _ _ _ (by decide) (Nat.le_refl _), fun i k hi => by simp at hi, hgw, Nat.le_refl _⟩
  have hIQ0 : InvQ E wc (List.replicate p.length []) none := ⟨_, none, 0, [], [], 0, 0, Nat.le_refl _, ⟨rfl, rfl, rfl, rfl⟩, hI0⟩
  have hT := try_any hE (by rw [hEe]; exact hok.out) (by rw [hEe]; exact hj7) (by rw [hEe]; exact ⟨hp0, hp4⟩) (by rw [hEe]; exact hJ) (by rw [hEe]; exact hP) _ 0 (List.replicate p.length []) none wc (Nat.le_refl _) (by rw [hEe]; exact part_start p j.length hp0) hIQ0
  have ev : E.gb = gb ∧ E.p = p ∧ E.j = j ∧ E.ch = ch ∧ E.w0 = w ∧ E.lo = wc.heap.size := by rw [hEe]; exact ⟨rfl, rfl, rfl, rfl, rfl, rfl⟩
  have hb10 := hI0.bx
  clear hI0 hIQ0 hop hos hbx
  obtain ⟨e1, e2, e3, e4, e5, e6⟩ := ev
  rw [e1, e2, e3, e4] at hT
  have hc0 : clkR p j ch 0 (List.replicate p.length []) = ((0 : Int), p[0].mat) := by
    unfold clkR
    simp [clkC, List.getD_eq_getElem?_getD, List.getElem?_replicate, hp0]
  have hpr : prsA p j ch (List.replicate p.length []) = [] := by
    have h := pairsK_nil p j (Q := List.replicate p.length []) ch (k := 0) (fun x hx => List.eq_of_mem_replicate hx) p.length
    unfold prsA
    rw [Nat.zero_add] at h
    rw [h]
    rfl
  have hl0 : lstP p j ch (List.replicate p.length []) = 0 := by unfold lstP; rw [hpr]; rfl
  have hs0' : sumP p j ch (List.replicate p.length []) = 0 := by unfold sumP; rw [hpr]; rfl
  rw [hc0, hl0, hs0', hf0, List.length_nil] at hT
  rw [show (j.length : Int) - ((0 : Nat) : Int) = (j.length : Int) by omega] at hT
  clear hc0 hpr hl0 hs0' hf0
  obtain ⟨ga, oa, cx, rfl, _, hb2, rfl, hc2⟩ := (hP.pure hgw).at_ (by decide) hp0
  have d0 : wc.cell? ⟨ga, oa, none⟩ = some (.string p[0].key) := by have := hc2 0 _ rfl; rwa [Nat.zero_mul, Nat.add_zero] at this
  have d1 : wc.cell? ⟨ga, oa + 1, none⟩ = some (.string p[0].mat) := by have := hc2 1 _ rfl; rwa [Nat.zero_mul, Nat.add_zero] at this
  clear hc2
  generalize p[0] = pp at *
  replace hT := hide hT
  replace hEe := hide hEe
  go_wp2_with fail
  refine hT.out.mono ?_
  rintro e w9 ⟨rfl, ⟨b', hB, hIQ⟩, -⟩
  rw [e2, e3, e4] at hB
  obtain ⟨R, rfl, hbest⟩ := best_of (p := p) (j := j) (ch := ch) hp0 (fun Q => comp_start hp0) hB
  clear hT
  obtain ⟨raws, B, d, rB, R', l, s, hd, ⟨rfl, -, -, hll, -⟩, hI⟩ := hIQ
  rw [e2, e3, e4] at hll
  replace hll := hide hll
  obtain ⟨b5, -⟩ := hI.bx.c 5 rfl
  obtain ⟨b6, -⟩ := hI.bx.c 6 rfl
  rw [e1] at b5 b6
  have hbs := hI.bs
  have hgr := hI.gr
  have hlo : w.heap.size ≤ E.lo := by rw [e6]; exact hgw.size
  rw [e5] at hgr
  clear hI hB d0 d1
  go_upto_region 10 with fail
  refine wp_region_tree (fun wx => w9.grownBy wx none) [2, 2, 2, 1, 2, 2, 2, 1, 2, 2, 2] (.bl 0 (.bl 1 (.bl 2 (.bl 3 (.bl 4 (.bl 5 (.bl 6 (.bl 7 (.bl 8 (.bl 9 (.bl 10 .done))))))))))) (by kernel_rfl) (by kernel_rfl) (gr_drew (World.grownBy.refl _ _)) ?_
  obtain ⟨u1, hu1⟩ : ∃ x, x = (w9).drew := ⟨_, rfl⟩
  rw [← hu1]
  have hgu1 : (w9).grownBy u1 none := by rw [hu1]; exact gr_drew (World.grownBy.refl _ _)
  clear hu1
  refine tree_p rfl rfl rfl rfl _ rfl (by simp) (fun K hK => ?_)
  apply Exists.intro
  refine ⟨fun wq K' hK' => ?_, ?_⟩
  · go_wp2_with fail
    exact hK'
  go_simp
  refine hK _ ?_
  clear hK K
  refine tree_n rfl rfl _ rfl _ rfl ?_
  try go_simp
  refine tree_p rfl rfl rfl rfl _ rfl (by simp) (fun K hK => ?_)
  apply Exists.intro
  refine ⟨fun wq K' hK' => ?_, ?_⟩
  · go_wp2_with fail
    exact hK'
  go_simp
  refine hK _ ?_
  clear hK K
  refine tree_b rfl rfl rfl rfl _ rfl (by simp) (fun K hK => ?_)
  apply Exists.intro
  refine ⟨fun wq hq K' hK' => ?_, ?_⟩
  · have k5 := hq.k b5
    have k6 := hq.k b6
    go_wp2_with fail
    exact hK'
  go_simp
  refine hK _ ?_
  clear hK K
  refine tree_p rfl rfl rfl rfl _ rfl (by simp) (fun K hK => ?_)
  apply Exists.intro
  refine ⟨fun wq K' hK' => ?_, ?_⟩
  · go_wp2_with fail
    exact hK'
  go_simp
  refine hK _ ?_
  clear hK K
  refine tree_n rfl rfl _ rfl _ rfl ?_
  try go_simp
  refine tree_p rfl rfl rfl rfl _ rfl (by simp) (fun K hK => ?_)
  apply Exists.intro
  refine ⟨fun wq K' hK' => ?_, ?_⟩
  · go_wp2_with fail
    exact hK'
  go_simp
  refine hK _ ?_
  clear hK K
  refine tree_b rfl rfl rfl rfl _ rfl (by simp) (fun K hK => ?_)
  apply Exists.intro
  refine ⟨fun wq hq K' hK' => ?_, ?_⟩
  · have k5 := hq.k b5
    have k6 := hq.k b6
    go_wp2_with fail
    exact hK'
  go_simp
  refine hK _ ?_
  clear hK K
  refine tree_p rfl rfl rfl rfl _ rfl (by simp) (fun K hK => ?_)
  apply Exists.intro
  refine ⟨fun wq K' hK' => ?_, ?_⟩
  · go_wp2_with fail
    exact hK'
  go_simp
  refine hK _ ?_
  clear hK K
  refine tree_p rfl rfl rfl rfl _ rfl (by simp) (fun K hK => ?_)
  apply Exists.intro
  refine ⟨fun wq K' hK' => ?_, ?_⟩
  · go_wp2_with fail
    exact hK'
  go_simp
  refine hK _ ?_
  clear hK K
  refine tree_p rfl rfl rfl rfl _ rfl (by simp) (fun K hK => ?_)
  apply Exists.intro
  refine ⟨fun wq K' hK' => ?_, ?_⟩
  · go_wp2_with fail
    exact hK'
  go_simp
  refine hK _ ?_
  clear hK K
  refine tree_done ?_
  go_wp2_with fail
  exact bodyPost_ret (v := .tuple #[.slice B R'.length d, .int .i64 l, .int .i64 0]) (by simp [results, Tryz.results9, go_sem]) rfl ⟨B, d, rB, R', by rw [hll.out], hbest, hd, RowsN.low2 (hbs.pure hgu1) hlo, hgr.t hgu1⟩

end Go.Proofs.YtanioobepfllgaaGreatDoor

namespace Go.Bl
open Go

instance : Enc (Int × ByteArray) where
  sz := 2
  rep := fun _ _ p cs => cs = [.int .i64 p.1, .string p.2]
  len := by rintro w lo x cs rfl; rfl
  one := by rintro w lo x cs rfl u hu; simp at hu; rcases hu with rfl | rfl <;> rfl
  keep := fun h _ => h
  mono := fun h _ => h

instance : Flat (Int × ByteArray) := ⟨fun h => h, by decide⟩

theorem clk_set0 (x : Int × ByteArray) (v : Int) (w : World) (lo : Nat) : ∀ c1, Enc.rep w lo x c1 → Enc.rep w lo ((v, x.2) : Int × ByteArray) (c1.set 0 (.int .i64 v)) := by rintro c1 rfl; rfl

theorem clk_set1 (x : Int × ByteArray) (v : ByteArray) (w : World) (lo : Nat) : ∀ c1, Enc.rep w lo x c1 → Enc.rep w lo ((x.1, v) : Int × ByteArray) (c1.set 1 (.string v)) := by rintro c1 rfl; rfl

theorem Own.set_clk {w : World} {lo : Nat} {e : TypeId} {g c : Nat} {l : List (Int × ByteArray)} (h : Own w lo e (some ⟨g, 0, none⟩) c l) {i : Nat} (hi : i < l.length) (a : Int) (b : ByteArray) :
    Own ((w.setCell ⟨g, i * 2, none⟩ (.int .i64 a)).setCell ⟨g, i * 2 + 1, none⟩ (.string b)) lo e (some ⟨g, 0, none⟩) c (l.set i (a, b)) := by
  have h1 := h.put hi (j := 0) (by decide) (clk_set0 l[i] a w lo)
  have h2 := h1.put (i := i) (j := 1) (by simpa using hi) (by decide) (clk_set1 _ b _ lo)
  simp only [List.set_set, List.getElem_set_self] at h2
  exact h2

theorem Own.cell_clk {w : World} {lo : Nat} {e : TypeId} {g c : Nat} {l : List (Int × ByteArray)} (h : Own w lo e (some ⟨g, 0, none⟩) c l) {i : Nat} (hi : i < l.length) :
    w.cell? ⟨g, i * 2, none⟩ = some (.int .i64 l[i].1) ∧ w.cell? ⟨g, i * 2 + 1, none⟩ = some (.string l[i].2) := by
  obtain ⟨c1, hr, hc⟩ := h.cell_at (by decide) hi
  have hr' : c1 = [.int .i64 l[i].1, .string l[i].2] := hr
  subst hr'
  have c0 := hc 0 _ rfl
  have c1 := hc 1 _ rfl
  rw [show Enc.sz (Int × ByteArray) = 2 from rfl] at c0 c1
  exact ⟨c0, c1⟩

end Go.Bl
namespace Go.Proofs.YtanioobepfllgaaGreatDoor
open Go Go.RowKit Go.Bl

theorem info_clk : (Tryz.prog.info? 79).map (fun i => (i.zero, i.size, i.bytes)) = some (some (.agg #[.int .i64 0, .string ByteArray.empty]), 2, 24) := by kernel_rfl
section
variable {p : List Prn} {j : List Jb} {ch : Int}
/-- the clocks of all printers -/
def clkL (p : List Prn) (j : List Jb) (ch : Int) (P : List (List Int)) : List (Int × ByteArray) := (List.range p.length).map fun k => clkR p j ch k P

theorem clkL_len (P : List (List Int)) : (clkL p j ch P).length = p.length := by simp [clkL]

theorem clkL_get (P : List (List Int)) {k : Nat} (h : k < (clkL p j ch P).length) : (clkL p j ch P)[k] = clkR p j ch k P := by simp [clkL]

theorem clkL_zero : clkL p j ch (List.replicate p.length []) = p.map fun x => ((0 : Int), x.mat) := by
  apply List.ext_getElem
  · simp [clkL]
  · intro k h1 h2
    rw [clkL_get]
    rw [List.length_map] at h2
    unfold clkR
    simp [clkC, List.getD_eq_getElem?_getD, List.getElem?_replicate, h2]

theorem clkL_push {P : List (List Int)} (hP : P.length = p.length) {b : Nat} (hb : b < p.length) (i : Int) : clkL p j ch (P.set b (P.getD b [] ++ [i])) = (clkL p j ch P).set b (doC (clkR p j ch b P) (jobAt j i) ch) := by
  apply List.ext_getElem
  · simp [clkL]
  · intro k h1 h2
    rw [clkL_get, List.getElem_set]
    by_cases e : b = k
    · subst e
      rw [if_pos rfl]
      unfold clkR
      rw [getD_setL (by omega), clkC_snoc]
    · rw [if_neg e, clkL_get]
      unfold clkR
      rw [show (P.set b (P.getD b [] ++ [i])).getD k [] = P.getD k [] by simp [List.getD_eq_getElem?_getD, List.getElem?_set_ne e]]

theorem clkR_bd (hok : JOk j ch) {i : Nat} (hi : i ≤ j.length) {P : List (List Int)} (h : IsP i P.flatten) (k : Nat) : 0 ≤ (clkR p j ch k P).1 ∧ (clkR p j ch k P).1 ≤ 100000000 := by
  have hl := few_rows h
  have h5 := hok.len
  have hr : (P.getD k []).length ≤ 500 ∧ ∀ x ∈ P.getD k [], 0 ≤ x ∧ x < (j.length : Int) := by
    by_cases hk : k < P.length
    · rw [show P.getD k [] = P[k] by simp [List.getD_eq_getElem?_getD, hk]]
      have := row_len hk
      exact ⟨by omega, fun x hx => by have := h.bd x (row_in hk x hx); omega⟩
    · rw [show P.getD k [] = [] by simp [List.getD_eq_getElem?_getD, List.getElem?_eq_none (by omega : P.length ≤ k)]]
      simp
  have := clkC_bd hok (P.getD k []) hr.2 (0, (p.getD k default).mat) (N := 0) (by simp)
  unfold clkR
  omega

theorem greL_bd (hok : JOk j ch) (h0 : 0 < p.length) : ∀ i, i ≤ j.length → 0 ≤ greL p j ch i ∧ greL p j ch i ≤ 100200000
  | 0, _ => by simp [greL]
  | i + 1, hi => by
    have h1 := greL_bd hok h0 i (by omega)
    have h2 := clkR_bd (p := p) hok (i := i) (by omega) (greP_isP (j := j) (ch := ch) h0 i).1 (greB p j ch (greP p j ch i) i)
    have h3 := doC_bd hok (c := clkR p j ch (greB p j ch (greP p j ch i) i) (greP p j ch i)) (i := (i : Int)) (by omega) h2
    show 0 ≤ max (greL p j ch i) (doC _ _ _).1 ∧ max (greL p j ch i) (doC _ _ _).1 ≤ _
    omega
end

def GreR (p : List Prn) (j : List Jb) (ch : Int) (w : World) (e : Ending) (w' : World) : Prop :=
  ∃ B d rB R, e = .returned (.tuple #[.slice B R.length d, .int .i64 (lstP p j ch R), .int .i64 0]) ∧ R = greP p j ch j.length ∧ R.length ≤ d ∧ RowsN w' w.heap.size w.heap.size 22 3 B d rB R ∧ w.grownBy w' none

set_option maxHeartbeats 8000000 in
set_option maxRecDepth 100000 in
theorem greedy_any (P : Option Addr) (cp : Nat) (p : List Prn) (J : Option Addr) (cj : Nat) (j : List Jb) (ch : Int) (w : World) (hP : Sl w 0 P p) (hJ : Sl w 0 J j) (hF : farmF p j = 0) (hc : spanF ch 0 100000 = 0) :
    Calls Tryz.prog 10 #[.slice P p.length cp, .slice J j.length cj, .int .i64 ch] w (GreR p j ch w) := by
  obtain ⟨hp0, hp50⟩ := farm_plen hF
  have hok := jok_of hF hc
  have hj5 := hok.len
  have hch := hok.chg
  have hout : outB ch 0 100000 = false := by
    rw [spanF_outB] at hc
    rcases h : outB ch 0 100000 with _ | _
    · rfl
    · rw [h] at hc; cases hc
  have hf := hide (fault_any P cp p J cj j w hP hJ)
  rw [hF] at hf
  clear hc hF
  have hok := hide hok
  go_enter Tryz.func10, Tryz.ntmps10
  go_wp2_with fail
  refine hf.out.mono ?_
  rintro e w1 ⟨rfl, hg1⟩
  clear hf
  obtain ⟨i0, hi, hz, hi1, hi2⟩ := info_parts info_intsR
  obtain ⟨w2, hrun, hoO, hg2⟩ := run_makeOwn (P := Tryz.prog) w1 31 22 i0 _ (⟨none, 0, 0⟩ : RawS) Tryz.underlying31 hi hz hi1 rfl rfl .i64 .i64 p.length (by rw [hi2]; omega) (by simp [maxLen]; omega)
  clear hi hz hi1 hi2 i0
  obtain ⟨gp, hgp⟩ : ∃ g, g = w1.heap.size := ⟨_, rfl⟩
  rw [← hgp] at hrun hoO
  have hgpw : w.heap.size ≤ gp := by have := hg1.size; omega
  clear hgp
  replace hoO := hoO.lower hgpw
  have hgw := hg1.t hg2
  have hR0 := RowsN.made (α := Int) hoO (ei := 3) (li := w.heap.size) (by decide) (Nat.le_refl _)
  go_wp2_with (go_at_call 37; refine (isChange_any _ _).mono ?_; rintro _ _ ⟨rfl, rfl⟩; rw [hout])
  clear hrun hout hoO
  go_loopw [11, 34] (fun c i wr => ∃ (k : Nat) (A : Option Addr) (cc : Nat) (l : List (Int × ByteArray)), k ≤ p.length ∧ i = .int .i64 k ∧ Hid (l = (p.take k).map fun x => ((0 : Int), x.mat)) ∧ Hid (l.length = k) ∧ c = .slice A k cc ∧ Own wr w2.heap.size 79 A cc l ∧ w2.grownBy wr none) (fun _ i _ => p.length - (intOf i).toNat)
  case atStart => exact ⟨0, none, 0, [], Nat.zero_le _, rfl, rfl, rfl, rfl, Own.nil _ _ _, World.grownBy.refl _ _⟩
  case round =>
    obtain ⟨k, A, cc, l, hk, rfl, hl, hll, rfl, hO, hg⟩ := hrel
    by_cases hlt : k < p.length
    · obtain ⟨ga, oa, cx, rfl, _, hb2, rfl, hcx⟩ := (hP.pure (hgw.t hg)).at_ (by decide) hlt
      have c0 : wr.cell? ⟨ga, oa + k * 2, none⟩ = some (.string p[k].key) := hcx 0 _ rfl
      have c1 : wr.cell? ⟨ga, oa + k * 2 + 1, none⟩ = some (.string p[k].mat) := hcx 1 _ rfl
      clear hcx
      have hl2 : Hid (l ++ [((0 : Int), p[k].mat)] = (p.take (k + 1)).map fun x => ((0 : Int), x.mat)) := by
        rw [Hid, List.take_succ_eq_append_getElem hlt, List.map_append, hl.out]; rfl
      generalize p[k] = pp at *
      go_upto_region 11 with fail
      obtain ⟨w13, hw13⟩ : ∃ x, x = (wr).alloc (.cells [.string pp.key, .string pp.mat].toArray 46) := ⟨_, rfl⟩
      have hg13 : (wr).grownBy w13 none := by rw [hw13]; exact gr_alloc (World.grownBy.refl _ _) _
      have hb13 : Box w13 (wr).heap.size 46 [.string pp.key, .string pp.mat] := by rw [hw13]; exact Box.new _ _ _
      have hxs13 := hb13.lt
      rw [← hw13]
      clear hw13
      obtain ⟨x13, hx13⟩ : ∃ x, x = (wr).heap.size := ⟨_, rfl⟩
      rw [← hx13] at hb13 hxs13 ⊢
      have hxl13 : (wr).heap.size ≤ x13 := by omega
      clear hx13
      obtain ⟨d1, -⟩ := hb13.c 1 rfl
      have hO2 := hO.pure hg13
      have hll1 : Hid ((l ++ [((0 : Int), pp.mat)]).length = k + 1) := by rw [Hid, List.length_append, hll.out]; rfl
      have hsz := hgw.size
      have hsz2 := hg.size
      have hsz3 := hg13.size
      obtain ⟨i0, hi, hz, hi1, hi2⟩ := info_parts info_clk
      go_wp2_with (at_builtin; refine wpList_pushAt (α := Int × ByteArray) _ rfl (.tmp 38) (.tmp 42) _ rfl w2.heap.size 79 i0 _ 24 Tryz.underlying80 hi hz hi1 hi2 rfl _ _ _ l rfl hll.out.symm (by exact hO2.pure (gr_alloc (World.grownBy.refl _ _) _)) 0 ⟨_, 0, none⟩ 1 1 [((0 : Int), pp.mat)] rfl rfl (by exact sl_oneAt _ 0 _ _ _ _ (by first | rfl | simp) (Nat.zero_le _) rfl) ?c2 ?c3 ?c4 ?_)
      case c2 => rw [hll.out]; simp; omega
      case c3 => rw [hll.out]; simp [maxLen]; omega
      case c4 => simp; omega
      intro A5 c5 w5 hO5 hG5
      rw [hll.out]
      have hg5 := gr_row ((hg.t hg13).t (gr_alloc (World.grownBy.refl _ _) _)) hG5.1 (fun x e => (hO2.blk_lt e).1)
      go_wp2
      (go_roundw; (case rel => exact ⟨k + 1, A5, c5, _, by omega, by go_num, hl2, hll1, rfl, hO5, hg5⟩); (case measure => simp [intOf]; omega))
    · obtain rfl : k = p.length := by omega
      have hl0 : Hid (l = clkL p j ch (greP p j ch 0)) := by
        rw [Hid, hl.out, List.take_length]
        exact clkL_zero.symm
      obtain ⟨gc, rfl, hgc, -⟩ := hO.shape (by rw [hll.out]; omega)
      rw [hl0.out] at hO
      have hR := hR0.pure hg
      have hszg := hgw.size
      replace hO := hO.lower hszg
      have hgcw : w.heap.size ≤ gc := by omega
      have hg0 := hgw.t hg
      clear hR0 hl hll hl0 hgc hszg hg hgw hg1 hg2
      have hpl : (p.length : Int) ≤ 50 := by omega
      rename World => wa
      go_wp2_with fail
      go_loopw [14, 47] (fun t i wr => ∃ (n : Nat) (raws : List RawS), n ≤ j.length ∧ i = .int .i64 n ∧ t = .int .i64 (greL p j ch n) ∧ RowsN wr w.heap.size w.heap.size 22 3 (some ⟨gp, 0, none⟩) p.length raws (greP p j ch n) ∧ Own wr w.heap.size 79 (some ⟨gc, 0, none⟩) cc (clkL p j ch (greP p j ch n)) ∧ w.grownBy wr none) (fun _ i _ => j.length - (intOf i).toNat)
      case atStart => exact ⟨0, _, Nat.zero_le _, rfl, rfl, hR, hO, hg0⟩
      case round =>
        clear hR hO hg0
        obtain ⟨n, raws, hn, rfl, rfl, hR, hO, hg⟩ := hrel
        by_cases hlt : n < j.length
        · obtain ⟨gj, oj, cx, rfl, _, hbj, rfl, hcj⟩ := (hJ.pure hg).at_ (by decide) hlt
          have hjb := hok.out.bd _ (List.getElem_mem hlt)
          have j0 : wr.cell? ⟨gj, oj + n * 4, none⟩ = some (.string j[n].key) := hcj 0 _ rfl
          have j1 : wr.cell? ⟨gj, oj + n * 4 + 1, none⟩ = some (.string j[n].mat) := hcj 1 _ rfl
          have j2 : wr.cell? ⟨gj, oj + n * 4 + 2, none⟩ = some (.int .i64 j[n].min) := hcj 2 _ rfl
          have j3 : wr.cell? ⟨gj, oj + n * 4 + 3, none⟩ = some (.int .i64 j[n].due) := hcj 3 _ rfl
          clear hcj
          have hjat : jobAt j (n : Int) = j[n] := jobAt_nat hlt
          have hPl : (greP p j ch n).length = p.length := greP_len n
          have hfl := (greP_isP (j := j) (ch := ch) hp0 n).2
          have hbdC := hide fun k => clkR_bd (p := p) hok.out (Nat.le_of_lt hlt) (greP_isP (j := j) (ch := ch) hp0 n).1 k
          have hLb := greL_bd hok.out hp0 n hn
          obtain ⟨C, hC⟩ : ∃ C, C = greC p j ch (greP p j ch n) n := ⟨_, rfl⟩
          have hCk := hide fun k => (show C k = (doC (clkR p j ch k (greP p j ch n)) j[n] ch).1 by rw [hC, ← hjat]; rfl)
          have hP2 : Hid (greP p j ch (n + 1) = (greP p j ch n).set (minB C p.length) ((greP p j ch n).getD (minB C p.length) [] ++ [(n : Int)])) := by rw [hC]; exact rfl
          have hL2 : Hid (greL p j ch (n + 1) = max (greL p j ch n) (C (minB C p.length))) := by rw [hC]; exact rfl
          have hbl := minB_in C hp0
          have hC2 : Hid (clkL p j ch (greP p j ch (n + 1)) = (clkL p j ch (greP p j ch n)).set (minB C p.length) (doC (clkR p j ch (minB C p.length) (greP p j ch n)) j[n] ch)) := by
            rw [Hid, hP2.out, clkL_push hPl hbl, hjat]
          have hCLl : (clkL p j ch (greP p j ch n)).length = p.length := clkL_len _
          have hCLg := hide fun k (h : k < (clkL p j ch (greP p j ch n)).length) => clkL_get (p := p) (j := j) (ch := ch) (greP p j ch n) h
          have hbk0 := hide fun k (h : k ≤ p.length) => (show minB C k < p.length by
            rcases Nat.eq_zero_or_pos k with h0 | h0
            · rw [h0]; exact hp0
            · have := minB_in C h0; omega)
          have hrow5 : Hid (∀ k (h : k < (greP p j ch n).length), (greP p j ch n)[k].length ≤ 500) := fun k h => by
            have := row_len h
            omega
          obtain ⟨cl, hcl⟩ : ∃ f : Nat → Int × ByteArray, f = fun k => clkR p j ch k (greP p j ch n) := ⟨_, rfl⟩
          have hclk : ∀ k, clkR p j ch k (greP p j ch n) = cl k := fun k => by rw [hcl]
          simp only [hclk] at hbdC hCk hC2 hCLg
          clear hC hcl hclk hjat hfl
          generalize clkL p j ch (greP p j ch n) = CL at *
          generalize greP p j ch n = PP at *
          generalize greL p j ch n = GL at *
          generalize j[n] = Y at *
          replace hPl := hide hPl
          replace hCLl := hide hCLl
          have hcd := hide fun k W => clockDo_any (cl k).1 (cl k).2 Y ch W (by have := hbdC.out k; omega) (by omega) (by omega)
          have hCkb := hide fun k => (show 0 ≤ C k ∧ C k ≤ 100200000 by
            rw [hCk.out k]
            have := hbdC.out k
            unfold doC
            simp only
            split <;> omega)
          have hn0 : (0 : Int) ≤ (n : Int) ∧ (n : Int) < (j.length : Int) := by omega
          go_upto_region 17 with fail
          clear j0 j1 j2 j3
          obtain ⟨w16, hw16⟩ : ∃ x, x = (wr).alloc (.cells [.string Y.key, .string Y.mat, .int .i64 Y.min, .int .i64 Y.due].toArray 49) := ⟨_, rfl⟩
          have hg16 : (wr).grownBy w16 none := by rw [hw16]; exact gr_alloc (World.grownBy.refl _ _) _
          have hb16 : Box w16 (wr).heap.size 49 [.string Y.key, .string Y.mat, .int .i64 Y.min, .int .i64 Y.due] := by rw [hw16]; exact Box.new _ _ _
          have hxs16 := hb16.lt
          rw [← hw16]
          clear hw16
          obtain ⟨x16, hx16⟩ : ∃ x, x = (wr).heap.size := ⟨_, rfl⟩
          rw [← hx16] at hb16 hxs16 ⊢
          have hxl16 : (wr).heap.size ≤ x16 := by omega
          clear hx16
          have hO16 := hO.pure hg16
          have hR16 := hR.pure hg16
          have hg0 := hg.t hg16
          clear hO hR hg hg16
          go_wp2_with fail
          go_loopw [17, 54] (fun t i wr => ∃ k : Nat, k ≤ p.length ∧ i = .int .i64 k ∧ t = .int .i64 ((minB C k : Nat) : Int) ∧ w16.grownBy wr none) (fun _ i _ => p.length - (intOf i).toNat)
          case atStart => exact ⟨0, Nat.zero_le _, rfl, rfl, World.grownBy.refl _ _⟩
          case round =>
            obtain ⟨k, hk, rfl, rfl, hgq⟩ := hrel
            by_cases hlk : k < p.length
            · have hOq := hO16.pure hgq
              have hb16 := hb16.pure hgq
              have hmn : minB C (k + 1) = if C k < C (minB C k) then k else minB C k := rfl
              have hbkl := hbk0.out k hk
              obtain ⟨bk, hbk⟩ : ∃ b, b = minB C k := ⟨_, rfl⟩
              rw [← hbk] at hmn hbkl ⊢
              clear hbk
              have hi1 : k < CL.length := by rw [hCLl.out]; exact hlk
              have hi2 : bk < CL.length := by rw [hCLl.out]; exact hbkl
              obtain ⟨x0, x1⟩ := hOq.cell_clk hi1
              obtain ⟨y0, y1⟩ := hOq.cell_clk hi2
              rw [hCLg.out k hi1] at x0 x1
              rw [hCLg.out bk hi2] at y0 y1
              have hd1 := hide (hcd.out k)
              have hd2 := hide (hcd.out bk)
              have e1 := hCk.out k
              have e2 := hCk.out bk
              rw [e1, e2] at hmn
              clear e1 e2 hi1 hi2
              generalize cl k = ca at *
              generalize cl bk = cb at *
              obtain ⟨ca1, ca2⟩ := ca
              obtain ⟨cb1, cb2⟩ := cb
              dsimp only at x0 x1 y0 y1 hd1 hd2
              generalize doC (ca1, ca2) Y ch = za at *
              generalize doC (cb1, cb2) Y ch = zb at *
              replace hmn := hide hmn
              have hk0 : (0 : Int) ≤ (k : Int) ∧ (k : Int) < (p.length : Int) := by omega
              have hk1 : (0 : Int) ≤ (bk : Int) ∧ (bk : Int) < (p.length : Int) := by omega
              have hfd : ∀ (z : Int × ByteArray) wx, (Instr.field 79 (.agg #[.int .i64 z.1, .string z.2]) 0).run Tryz.prog wx = .ok (.int .i64 z.1) wx := by
                intro z wx; simp [Instr.field, asAgg, go_sem]
              clear hOq hO16 hR16
              go_upto_region 21 with fail
              obtain ⟨w19, hw19⟩ : ∃ x, x = (wr).alloc (.cells [.int .i64 ca1, .string ca2].toArray 79) := ⟨_, rfl⟩
              have hg19 : (wr).grownBy w19 none := by rw [hw19]; exact gr_alloc (World.grownBy.refl _ _) _
              have hb19 : Box w19 (wr).heap.size 79 [.int .i64 ca1, .string ca2] := by rw [hw19]; exact Box.new _ _ _
              have hxs19 := hb19.lt
              rw [← hw19]
              clear hw19
              obtain ⟨x19, hx19⟩ : ∃ x, x = (wr).heap.size := ⟨_, rfl⟩
              rw [← hx19] at hb19 hxs19 ⊢
              have hxl19 : (wr).heap.size ≤ x19 := by omega
              clear hx19
              replace y0 := hg19.k y0
              replace y1 := hg19.k y1
              clear x0 x1
              refine wp_region_tree (fun wx => w19.grownBy wx none) [1, 1, 2, 0, 2, 2, 2, 2, 1, 1, 2, 0, 2, 2] (.bl 0 (.bl 1 (.bl 2 (.bl 5 (.bl 6 (.bl 7 (.bl 8 (.bl 9 (.bl 10 (.ef 3 (.bl 4 (.ef 11 (.bl 12 (.bl 13 .done)))))))))))))) (by kernel_rfl) (by kernel_rfl) (gr_drew (World.grownBy.refl _ _)) ?_
              obtain ⟨u0, hu0⟩ : ∃ x, x = (w19).drew := ⟨_, rfl⟩
              rw [← hu0]
              have hgu0 : (w19).grownBy u0 none := by rw [hu0]; exact gr_drew (World.grownBy.refl _ _)
              clear hu0
              refine tree_b rfl rfl rfl rfl _ rfl (by simp) (fun K hK => ?_)
              apply Exists.intro
              refine ⟨fun wq hq K' hK' => ?_, ?_⟩
              · obtain ⟨d0, -⟩ := (hb19.pure hq).c 0 rfl
                obtain ⟨d1, -⟩ := (hb19.pure hq).c 1 rfl
                obtain ⟨e0, -⟩ := (hb16.pure (hg19.t hq)).c 0 rfl
                obtain ⟨e1, -⟩ := (hb16.pure (hg19.t hq)).c 1 rfl
                obtain ⟨e2, -⟩ := (hb16.pure (hg19.t hq)).c 2 rfl
                obtain ⟨e3, -⟩ := (hb16.pure (hg19.t hq)).c 3 rfl
                have f0 := hq.k y0
                have f1 := hq.k y1
                go_wp2_with fail
                exact hK'
              go_simp
              refine hK _ ?_
              clear hK K
              refine tree_b rfl rfl rfl rfl _ rfl (by simp) (fun K hK => ?_)
              apply Exists.intro
              refine ⟨fun wq hq K' hK' => ?_, ?_⟩
              · obtain ⟨d0, -⟩ := (hb19.pure hq).c 0 rfl
                obtain ⟨d1, -⟩ := (hb19.pure hq).c 1 rfl
                obtain ⟨e0, -⟩ := (hb16.pure (hg19.t hq)).c 0 rfl
                obtain ⟨e1, -⟩ := (hb16.pure (hg19.t hq)).c 1 rfl
                obtain ⟨e2, -⟩ := (hb16.pure (hg19.t hq)).c 2 rfl
                obtain ⟨e3, -⟩ := (hb16.pure (hg19.t hq)).c 3 rfl
                have f0 := hq.k y0
                have f1 := hq.k y1
                go_wp2_with fail
                exact hK'
              go_simp
              refine hK _ ?_
              clear hK K
              refine tree_p rfl rfl rfl rfl _ rfl (by simp) (fun K hK => ?_)
              apply Exists.intro
              refine ⟨fun wq K' hK' => ?_, ?_⟩
              · go_wp2_with fail
                exact hK'
              go_simp
              refine hK _ ?_
              clear hK K
              refine tree_p rfl rfl rfl rfl _ rfl (by simp) (fun K hK => ?_)
              apply Exists.intro
              refine ⟨fun wq K' hK' => ?_, ?_⟩
              · go_wp2_with fail
                exact hK'
              go_simp
              refine hK _ ?_
              clear hK K
              refine tree_p rfl rfl rfl rfl _ rfl (by simp) (fun K hK => ?_)
              apply Exists.intro
              refine ⟨fun wq K' hK' => ?_, ?_⟩
              · go_wp2_with fail
                exact hK'
              go_simp
              refine hK _ ?_
              clear hK K
              refine tree_p rfl rfl rfl rfl _ rfl (by simp) (fun K hK => ?_)
              apply Exists.intro
              refine ⟨fun wq K' hK' => ?_, ?_⟩
              · go_wp2_with fail
                exact hK'
              go_simp
              refine hK _ ?_
              clear hK K
              refine tree_b rfl rfl rfl rfl _ rfl (by simp) (fun K hK => ?_)
              apply Exists.intro
              refine ⟨fun wq hq K' hK' => ?_, ?_⟩
              · obtain ⟨d0, -⟩ := (hb19.pure hq).c 0 rfl
                obtain ⟨d1, -⟩ := (hb19.pure hq).c 1 rfl
                obtain ⟨e0, -⟩ := (hb16.pure (hg19.t hq)).c 0 rfl
                obtain ⟨e1, -⟩ := (hb16.pure (hg19.t hq)).c 1 rfl
                obtain ⟨e2, -⟩ := (hb16.pure (hg19.t hq)).c 2 rfl
                obtain ⟨e3, -⟩ := (hb16.pure (hg19.t hq)).c 3 rfl
                have f0 := hq.k y0
                have f1 := hq.k y1
                go_wp2_with fail
                exact hK'
              go_simp
              refine hK _ ?_
              clear hK K
              refine tree_b rfl rfl rfl rfl _ rfl (by simp) (fun K hK => ?_)
              apply Exists.intro
              refine ⟨fun wq hq K' hK' => ?_, ?_⟩
              · obtain ⟨d0, -⟩ := (hb19.pure hq).c 0 rfl
                obtain ⟨d1, -⟩ := (hb19.pure hq).c 1 rfl
                obtain ⟨e0, -⟩ := (hb16.pure (hg19.t hq)).c 0 rfl
                obtain ⟨e1, -⟩ := (hb16.pure (hg19.t hq)).c 1 rfl
                obtain ⟨e2, -⟩ := (hb16.pure (hg19.t hq)).c 2 rfl
                obtain ⟨e3, -⟩ := (hb16.pure (hg19.t hq)).c 3 rfl
                have f0 := hq.k y0
                have f1 := hq.k y1
                go_wp2_with fail
                exact hK'
              go_simp
              refine hK _ ?_
              clear hK K
              refine tree_p rfl rfl rfl rfl _ rfl (by simp) (fun K hK => ?_)
              apply Exists.intro
              refine ⟨fun wq K' hK' => ?_, ?_⟩
              · go_wp2_with fail
                exact hK'
              go_simp
              refine hK _ ?_
              clear hK K
              refine tree_e rfl rfl (fun K hK => ?_)
              go_wp2_with fail
              refine (hd1.out u0).mono ?_
              rintro e w3 ⟨rfl, hg3⟩
              go_wp2_with fail
              try go_simp
              refine hK _ _ (gr_trans hgu0 hg3) ?_
              clear hK K
              refine tree_p rfl rfl rfl rfl _ rfl (by simp) (fun K hK => ?_)
              apply Exists.intro
              refine ⟨fun wq K' hK' => ?_, ?_⟩
              · go_wp2_with fail
                exact hK'
              go_simp
              refine hK _ ?_
              clear hK K
              refine tree_e0 (by kernel_rfl) rfl rfl (fun K hK => ?_)
              go_wp2_with fail
              refine (hd2.out w3).mono ?_
              rintro e w11 ⟨rfl, hg11⟩
              go_wp2_with fail
              try go_simp
              refine hK _ _ trivial ?_
              clear hK K
              refine tree_p rfl rfl rfl rfl _ rfl (by simp) (fun K hK => ?_)
              apply Exists.intro
              refine ⟨fun wq K' hK' => ?_, ?_⟩
              · go_wp2_with fail
                exact hK'
              go_simp
              refine hK _ ?_
              clear hK K
              refine tree_p rfl rfl rfl rfl _ rfl (by simp) (fun K hK => ?_)
              apply Exists.intro
              refine ⟨fun wq K' hK' => ?_, ?_⟩
              · go_wp2_with fail
                exact hK'
              go_simp
              refine hK _ ?_
              clear hK K
              refine tree_done ?_
              have hgz := hgq.t (hg19.t (gr_trans hgu0 (gr_trans hg3 hg11)))
              by_cases hlt2 : za.1 < zb.1
              · have hm2 : Hid (minB C (k + 1) = k) := by rw [Hid, hmn.out, if_pos hlt2]
                clear hmn y0 y1
                go_wp2_with fail
                (go_roundw; (case rel => exact ⟨k + 1, by omega, by go_num, by rw [hm2.out], hgz⟩); (case measure => simp [intOf]; omega))
              · have hm2 : Hid (minB C (k + 1) = bk) := by rw [Hid, hmn.out, if_neg hlt2]
                replace hlt2 : zb.1 ≤ za.1 := by omega
                clear hmn y0 y1
                go_wp2_with fail
                (go_roundw; (case rel => exact ⟨k + 1, by omega, by go_num, by rw [hm2.out], hgz⟩); (case measure => simp [intOf]; omega))
            · obtain rfl : k = p.length := by omega
              have hOq := hO16.pure hgq
              have hRq := hR16.pure hgq
              have hb16 := hb16.pure hgq
              have hgw := hg0.t hgq
              clear hO16 hR16 hg0 hgq hbk0
              obtain ⟨b, hb⟩ : ∃ b, b = minB C p.length := ⟨_, rfl⟩
              rw [← hb] at hP2 hL2 hC2 hbl ⊢
              clear hb
              have hbC : b < CL.length := by rw [hCLl.out]; exact hbl
              obtain ⟨x0, x1⟩ := hOq.cell_clk hbC
              rw [hCLg.out b hbC] at x0 x1
              have hd1 := hide (hcd.out b)
              have e1 := hCk.out b
              have hCb := hCkb.out b
              rw [e1] at hL2 hCb
              clear e1
              generalize cl b = ca at *
              obtain ⟨ca1, ca2⟩ := ca
              dsimp only at x0 x1 hd1
              generalize doC (ca1, ca2) Y ch = z at *
              have hk1 : (0 : Int) ≤ (b : Int) ∧ (b : Int) < (p.length : Int) := by omega
              go_upto_region 24 with fail
              refine wp_region_tree (fun wx => wr.grownBy wx none) [2, 2, 2, 2, 2, 1, 1, 2, 0, 2, 0] (.bl 0 (.bl 1 (.bl 2 (.bl 3 (.bl 4 (.bl 5 (.bl 6 (.bl 7 (.ef 8 (.bl 9 (.ef 10 .done))))))))))) (by kernel_rfl) (by kernel_rfl) (gr_drew (World.grownBy.refl _ _)) ?_
              obtain ⟨u0, hu0⟩ : ∃ x, x = (wr).drew := ⟨_, rfl⟩
              rw [← hu0]
              have hgu0 : (wr).grownBy u0 none := by rw [hu0]; exact gr_drew (World.grownBy.refl _ _)
              clear hu0
              refine tree_p rfl rfl rfl rfl _ rfl (by simp) (fun K hK => ?_)
              apply Exists.intro
              refine ⟨fun wq K' hK' => ?_, ?_⟩
              · go_wp2_with fail
                exact hK'
              go_simp
              refine hK _ ?_
              clear hK K
              refine tree_p rfl rfl rfl rfl _ rfl (by simp) (fun K hK => ?_)
              apply Exists.intro
              refine ⟨fun wq K' hK' => ?_, ?_⟩
              · go_wp2_with fail
                exact hK'
              go_simp
              refine hK _ ?_
              clear hK K
              refine tree_p rfl rfl rfl rfl _ rfl (by simp) (fun K hK => ?_)
              apply Exists.intro
              refine ⟨fun wq K' hK' => ?_, ?_⟩
              · go_wp2_with fail
                exact hK'
              go_simp
              refine hK _ ?_
              clear hK K
              refine tree_p rfl rfl rfl rfl _ rfl (by simp) (fun K hK => ?_)
              apply Exists.intro
              refine ⟨fun wq K' hK' => ?_, ?_⟩
              · go_wp2_with fail
                exact hK'
              go_simp
              refine hK _ ?_
              clear hK K
              refine tree_p rfl rfl rfl rfl _ rfl (by simp) (fun K hK => ?_)
              apply Exists.intro
              refine ⟨fun wq K' hK' => ?_, ?_⟩
              · go_wp2_with fail
                exact hK'
              go_simp
              refine hK _ ?_
              clear hK K
              refine tree_b rfl rfl rfl rfl _ rfl (by simp) (fun K hK => ?_)
              apply Exists.intro
              refine ⟨fun wq hq K' hK' => ?_, ?_⟩
              · obtain ⟨e0, -⟩ := (hb16.pure hq).c 0 rfl
                obtain ⟨e1, -⟩ := (hb16.pure hq).c 1 rfl
                obtain ⟨e2, -⟩ := (hb16.pure hq).c 2 rfl
                obtain ⟨e3, -⟩ := (hb16.pure hq).c 3 rfl
                have f0 := hq.k x0
                have f1 := hq.k x1
                go_wp2_with fail
                exact hK'
              go_simp
              refine hK _ ?_
              clear hK K
              refine tree_b rfl rfl rfl rfl _ rfl (by simp) (fun K hK => ?_)
              apply Exists.intro
              refine ⟨fun wq hq K' hK' => ?_, ?_⟩
              · obtain ⟨e0, -⟩ := (hb16.pure hq).c 0 rfl
                obtain ⟨e1, -⟩ := (hb16.pure hq).c 1 rfl
                obtain ⟨e2, -⟩ := (hb16.pure hq).c 2 rfl
                obtain ⟨e3, -⟩ := (hb16.pure hq).c 3 rfl
                have f0 := hq.k x0
                have f1 := hq.k x1
                go_wp2_with fail
                exact hK'
              go_simp
              refine hK _ ?_
              clear hK K
              refine tree_p rfl rfl rfl rfl _ rfl (by simp) (fun K hK => ?_)
              apply Exists.intro
              refine ⟨fun wq K' hK' => ?_, ?_⟩
              · go_wp2_with fail
                exact hK'
              go_simp
              refine hK _ ?_
              clear hK K
              refine tree_e0 (by kernel_rfl) rfl rfl (fun K hK => ?_)
              go_wp2_with fail
              refine (hd1.out u0).mono ?_
              rintro e w8 ⟨rfl, hg8⟩
              go_wp2_with fail
              try go_simp
              refine hK _ _ trivial ?_
              clear hK K
              refine tree_p rfl rfl rfl rfl _ rfl (by simp) (fun K hK => ?_)
              apply Exists.intro
              refine ⟨fun wq K' hK' => ?_, ?_⟩
              · go_wp2_with fail
                exact hK'
              go_simp
              refine hK _ ?_
              clear hK K
              refine tree_e0 (by kernel_rfl) rfl rfl (fun K hK => ?_)
              have hgr8 := gr_trans hgu0 hg8
              have hO8 := hOq.pure hgr8
              have c0 := hgr8.k x0
              have c1 := hgr8.k x1
              have f0 := hO8.frozen (b * 2)
              have f1 := hO8.frozen (b * 2 + 1)
              go_wp2_with fail
              try go_simp
              refine hK _ _ trivial ?_
              clear hK K
              refine tree_done ?_
              obtain ⟨w9, hw9⟩ : ∃ x, x = (w8.setCell ⟨gc, b * 2, none⟩ (.int .i64 z.1)).setCell ⟨gc, b * 2 + 1, none⟩ (.string z.2) := ⟨_, rfl⟩
              have hO9 : Own w9 w.heap.size 79 (some ⟨gc, 0, none⟩) cc (CL.set b z) := by rw [hw9]; exact hO8.set_clk hbC z.1 z.2
              have hg89 : w8.grownBy w9 (some gc) := by rw [hw9]; exact gr_set (p := ⟨gc, b * 2 + 1, none⟩) (gr_set (p := ⟨gc, b * 2, none⟩) (World.grownBy.refl w8 (some gc)) (.inl rfl) _) (.inl rfl) _
              have hR8 := hRq.pure hgr8
              have hR9 := hR8.ne hg89 (fun g e q => hR8.out.ne_own hO8 (by decide) e q) (fun i hi g e q => (hR8.ins i hi (by rw [← hR8.len]; exact hi)).2.ne_own hO8 (by decide) e q)
              have hgw9 := gr_row (hgw.t hgr8) hg89 (fun g e => by cases e; exact hgcw)
              rw [← hw9]
              clear hw9 c0 c1 f0 f1 hO8 hR8 hRq hOq hgr8 hg89 hgu0 hg8 x0 x1 hd1 hb16
              have hbq : b < PP.length := by rw [hPl.out]; exact hbl
              have hbr : b < raws.length := by rw [hR9.len]; exact hbq
              obtain ⟨hln, hOr⟩ := hR9.ins b hbr hbq
              have hcp := hR9.cell hbr
              rw [hln] at hcp
              have hgd : PP.getD b [] = PP[b] := by simp [List.getD_eq_getElem?_getD, hbq]
              rw [hgd] at hP2
              have hq5 := hrow5.out b hbq
              obtain ⟨q, hq0⟩ : ∃ q, q = PP[b] := ⟨_, rfl⟩
              rw [← hq0] at hcp hOr hP2 hq5
              clear hq0 hln hgd
              have hfr := hR9.out.frozen b
              obtain ⟨RA, hRA⟩ : ∃ x, x = raws[b].A := ⟨_, rfl⟩
              obtain ⟨RC, hRC⟩ : ∃ x, x = raws[b].c := ⟨_, rfl⟩
              rw [← hRA, ← hRC] at hcp hOr
              replace hRA := hide hRA
              clear hRC
              obtain ⟨i0, hi, hz, hi1, hi2⟩ := info_parts infoI
              have hszw := hgw9.size
              go_wp2_with (at_builtin; refine wpList_pushAt (α := Int) _ rfl (.tmp 90) (.tmp 92) _ rfl w.heap.size 3 i0 _ 8 Tryz.underlying22 hi hz hi1 hi2 rfl _ _ _ q rfl rfl (by exact hOr.pure (gr_alloc (World.grownBy.refl _ _) _)) 0 ⟨_, 0, none⟩ 1 1 [(n : Int)] rfl rfl (by exact sl_int1 _ _ _ _ (by first | rfl | simp)) ?c2 ?c3 ?c4 ?_)
              case c2 => simp; omega
              case c3 => simp [maxLen]; omega
              case c4 => simp; omega
              intro A5 c5 w5 hO5 hG5
              have hq9 := gr_alloc (World.grownBy.refl w9 none) (.cells #[.int .i64 (n : Int)] 3)
              have hR10 := hR9.pure hq9
              have hO10 := hO9.pure hq9
              have hG5k : Grew raws[b].A A5 (w9.alloc (.cells #[.int .i64 (n : Int)] 3)) w5 := by rw [← hRA.out]; exact hG5
              have hRp := hR10.put hbr hO5 hG5k
              have hOo := hR10.outer hbr hG5k
              have hO11 := hO10.ne hG5.1 (fun g e q => (hOr.pure hq9).ne_own hO10 (by decide) q e)
              have hO12 := hO11.ne (gr_set (World.grownBy.refl w5 (some gp)) (p := ⟨gp, b, none⟩) (.inl rfl) (.slice A5 (q ++ [(n : Int)]).length c5)) (fun g e q => hO11.ne_own hOo (by decide) e q)
              have hg5 := gr_row (hgw9.t hq9) hG5.1 (fun g e => ((hOr.pure hq9).blk_lt e).1)
              have hg12 := gr_row hg5 (gr_set (World.grownBy.refl w5 (some gp)) (p := ⟨gp, b, none⟩) (.inl rfl) (.slice A5 (q ++ [(n : Int)]).length c5)) (fun g e => by cases e; exact hgpw)
              have hln1 : (q ++ [(n : Int)]).length = q.length + 1 := by simp
              rw [hln1] at hRp hO12 hg12
              clear hln1
              have hfr5 := hOo.frozen b
              obtain ⟨cq, hcr, hcq⟩ := hOo.cell_at (by decide) hbr
              have hcr' : cq = [.slice raws[b].A raws[b].n raws[b].c] := hcr
              rw [hcr'] at hcq
              have hc5 : w5.cell? ⟨gp, b, none⟩ = some (.slice raws[b].A raws[b].n raws[b].c) := by
                have := hcq 0 _ rfl
                rw [show Enc.sz RawS = 1 from rfl] at this
                simpa using this
              clear hcr hcr'
              clear hcq hG5k hR9 hO9 hR10 hO10 hO11 hOo hO5 hG5 hq9 hOr hcp hfr hgw9 hg5 hgw hi hz hi1 hi2
              go_upto_region 26 with fail
              obtain ⟨w6, hw6⟩ : ∃ x, x = w5.setCell ⟨gp, b, none⟩ (.slice A5 (q.length + 1) c5) := ⟨_, rfl⟩
              rw [← hw6] at hRp hO12 hg12 ⊢
              clear hw6 hfr5 hc5
              have hbC2 : b < (CL.set b z).length := by rw [List.length_set]; exact hbC
              obtain ⟨k0, k1⟩ := hO12.cell_clk hbC2
              rw [List.getElem_set_self] at k0 k1
              have hRz : Hid (RowsN w6 w.heap.size w.heap.size 22 3 (some ⟨gp, 0, none⟩) p.length (raws.set b ⟨A5, q.length + 1, c5⟩) (greP p j ch (n + 1))) := by rw [hP2.out]; exact hRp
              rw [← hC2.out] at hO12
              replace hO12 := hide hO12
              clear hRp
              go_wp2_with fail
              (go_roundw; (case rel => exact ⟨n + 1, _, by omega, by go_num, by rw [hL2.out], hRz.out, hO12.out, hg12⟩); (case measure => simp [intOf]; omega))
        · obtain rfl : n = j.length := by omega
          have hRl : (greP p j ch j.length).length = p.length := greP_len _
          have hcap := hR.out.cap
          rw [hR.len, hRl] at hcap
          have hE := greL_eq (j := j) (ch := ch) hp0 j.length
          generalize greL p j ch j.length = GL at *
          replace hE := hide hE
          replace hRl := hide hRl
          go_wp2_with fail
          exact bodyPost_ret (v := .tuple #[.slice (some ⟨gp, 0, none⟩) p.length p.length, .int .i64 GL, .int .i64 0]) (by simp [results, Tryz.results10, go_sem]) rfl ⟨some ⟨gp, 0, none⟩, p.length, raws, _, by rw [hE.out, hRl.out], rfl, by rw [hRl.out]; exact Nat.le_refl _, hR, hg⟩

end Go.Proofs.YtanioobepfllgaaGreatDoor

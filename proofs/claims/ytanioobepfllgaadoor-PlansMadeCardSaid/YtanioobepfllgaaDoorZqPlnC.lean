/- Contracts of functions that this seat's laws reach, each: what one call returns and what it leaves in memory; no condition beyond each theorem's own hypotheses. -/
import Derived.Test.YtanioobepfllgaaDoorZqPlnB
import Derived.Test.YtanioobepfllgaaDoorZqGrS
set_option linter.unusedVariables false
set_option linter.unusedSimpArgs false
namespace Go.Proofs.YtanioobepfllgaaDoor
open Go Go.RowKit Go.Bl

theorem info_intsR : (Tryd.prog.info? 22).map (fun i => (i.zero, i.size, i.bytes)) = some (some (.slice none 0 0), 1, 24) := by kernel_rfl

/-- the clocks in memory stay -/
structure KeepC (w w' : World) : Prop where
  size : w.heap.size ≤ w'.heap.size
  blk : ∀ g, Typ w g 70 → w'.heap[g]? = w.heap[g]?

theorem KeepC.refl (w : World) : KeepC w w := ⟨Nat.le_refl _, fun _ _ => rfl⟩

theorem KeepC.trans {w w' w'' : World} (h : KeepC w w') (k : KeepC w' w'') : KeepC w w'' :=
  ⟨Nat.le_trans h.size k.size, fun g hg => (k.blk g (by obtain ⟨cs, q, e⟩ := hg; exact ⟨cs, q, (h.blk g ⟨cs, q, e⟩).trans e⟩)).trans (h.blk g hg)⟩

theorem KeepC.wr {w w' : World} {q : Option Nat} (hg : w.grownBy w' q) (hq : ∀ x, q = some x → ∃ t, Typ w x t ∧ t ≠ 70) : KeepC w w' :=
  ⟨hg.size, fun g hT => hg.block g hT.lt (fun e => by obtain ⟨t, h1, h2⟩ := hq g e.symm; exact h2 (h1.uniq hT))⟩

theorem KeepC.pure {w w' : World} (hg : w.grownBy w' none) : KeepC w w' := KeepC.wr hg (fun x e => by cases e)

theorem KeepC.box {w w' : World} {x : Nat} {vs : List Value} (h : KeepC w w') (hb : Box w x 70 vs) : Box w' x 70 vs := box_block hb (h.blk x hb.1)
section
variable {E : PEnv} {wr w' : World} {Q : List (List Int)} {T : List Int} {raws : List RawS} {B : Option Addr} {d : Nat} {rB : List RawS} {R : List (List Int)} {VB : Value} {l s : Int}

theorem InvP.keepF (h : InvP E wr Q T raws B d rB R VB l s) (i : Nat) (v : Value) : KeepC wr (wr.setCell ⟨E.gb, i, none⟩ v) :=
  KeepC.wr (gr_set (World.grownBy.refl wr (some E.gb)) (p := ⟨E.gb, i, none⟩) (.inl rfl) v) (fun x e => by cases e; exact ⟨_, h.bx.1, by decide⟩)

theorem InvP.keepU (h : InvP E wr Q T raws B d rB R VB l s) (i : Nat) (v : Value) : KeepC wr (wr.setCell ⟨E.gs, i, none⟩ v) :=
  KeepC.wr (gr_set (World.grownBy.refl wr (some E.gs)) (p := ⟨E.gs, i, none⟩) (.inl rfl) v) (fun x e => by cases e; exact ⟨_, h.us.typ rfl, by decide⟩)

theorem InvP.keepP (h : InvP E wr Q T raws B d rB R VB l s) (i : Nat) (v : Value) : KeepC wr (wr.setCell ⟨E.gp, i, none⟩ v) :=
  KeepC.wr (gr_set (World.grownBy.refl wr (some E.gp)) (p := ⟨E.gp, i, none⟩) (.inl rfl) v) (fun x e => by cases e; exact ⟨_, h.rw.out.typ rfl, by decide⟩)

theorem InvP.keepR (h : InvP E wr Q T raws B d rB R VB l s) {k : Nat} (hk : k < raws.length) (hg : wr.grownBy w' (Go.Bl.blk raws[k].A)) : KeepC wr w' :=
  KeepC.wr hg (fun x e => ⟨_, (h.rw.ins k hk (by rw [← h.rw.len]; exact hk)).2.typ e, by decide⟩)

theorem InvP.keepB (h : InvP E wr Q T raws B d rB R VB l s) (hg : wr.grownBy w' (Go.Bl.blk B)) : KeepC wr w' :=
  KeepC.wr hg (fun x e => ⟨_, h.bs.out.typ e, by decide⟩)
end

set_option maxHeartbeats 1000000 in
set_option maxRecDepth 100000 in
/-- no plan of these is better -/
theorem tryCut_any {E : PEnv} {wr : World} {Q : List (List Int)} {T : List Int} {raws : List RawS} {B : Option Addr} {d : Nat} {rB : List RawS} {R : List (List Int)} {l s : Int} {X : List (List Int)}
    (hI : InvP E wr Q T raws B d rB R (.slice B R.length d) l s) (hS : StP E (some X) B R l s) (k left last sum c : Int) (m : ByteArray) (hl : l < last) :
    Calls Tryd.prog 30 #[.pointer (some ⟨E.gb, 0, none⟩), .int .i64 k, .agg #[.int .i64 c, .string m], .int .i64 left, .int .i64 last, .int .i64 sum] wr fun e w' => e = .returned (.tuple #[]) ∧ wr.grownBy w' none := by
  obtain ⟨rfl, -, ⟨ad, rfl⟩, -, -⟩ := hS
  have hN := fun W => run_neq_slice_nilP (P := Tryd.prog) W 36 22 (some ad) R.length d 0 0 Tryd.underlying36
  have hbx := hI.bx
  have hb : decide (l < last) = true := decide_eq_true hl
  clear hI hl
  go_enter Tryd.func30, Tryd.ntmps30
  go_upto_region 1 with fail
  obtain ⟨w8, hw8⟩ : ∃ x, x = (wr).alloc (.cells [.int .i64 c, .string m].toArray 70) := ⟨_, rfl⟩
  have hg8 : (wr).grownBy w8 none := by rw [hw8]; exact gr_alloc (World.grownBy.refl _ _) _
  have hb8 : Box w8 (wr).heap.size 70 [.int .i64 c, .string m] := by rw [hw8]; exact Box.new _ _ _
  have hxs8 := hb8.lt
  rw [← hw8]
  clear hw8
  obtain ⟨x8, hx8⟩ : ∃ x, x = (wr).heap.size := ⟨_, rfl⟩
  rw [← hx8] at hb8 hxs8 ⊢
  have hxl8 : (wr).heap.size ≤ x8 := by omega
  clear hx8
  obtain ⟨b5, -⟩ := (hbx.pure hg8).c 5 rfl
  obtain ⟨b6, -⟩ := (hbx.pure hg8).c 6 rfl
  go_wp2_with fail
  refine bodyPost_ret (results_none rfl _ _ _) rfl ?_
  exact ⟨rfl, hg8⟩

def LeafP (E : PEnv) (Q : List (List Int)) (bo : Option (List (List Int))) (last sum l s : Int) : Option (List (List Int)) := if betS last sum Q (bo.map fun X => (X, l, s)) then some Q else bo

set_option maxHeartbeats 4000000 in
set_option maxRecDepth 100000 in
theorem tryLeaf_any {E : PEnv} (hE : E.Ok) (hp4 : 0 < E.p.length ∧ E.p.length ≤ 4) {w : World} {Q : List (List Int)} {raws : List RawS} {B : Option Addr} {d : Nat} {rB : List RawS} {R : List (List Int)} {l s : Int} {bo : Option (List (List Int))}
    (hI : InvP E w Q Q.flatten raws B d rB R (.slice B R.length d) l s) (hS : StP E bo B R l s) (hd : R.length ≤ d) (k last sum c : Int) (m : ByteArray) (hl : ∀ X, bo = some X → last ≤ l) (hQ : Q.length = E.p.length) (h7 : ∀ i (h : i < Q.length), Q[i].length ≤ 7)
    (hlast : last = lstP E.p E.j E.ch Q) (hsum : sum = sumP E.p E.j E.ch Q) :
    Calls Tryd.prog 30 #[.pointer (some ⟨E.gb, 0, none⟩), .int .i64 k, .agg #[.int .i64 c, .string m], .int .i64 0, .int .i64 last, .int .i64 sum] w fun e w' => e = .returned (.tuple #[]) ∧ InvQ E w' Q (LeafP E Q bo last sum l s) ∧ KeepC w w' := by
  have hN := fun W => run_neq_slice_nilP (P := Tryd.prog) W 36 22 B R.length d 0 0 Tryd.underlying36
  have hgate : B.isNone = true ∨ (B.isNone = false ∧ decide (l < last) = false) := by
    cases bo with
    | none => left; obtain ⟨rfl, -⟩ := hS; rfl
    | some X =>
      right
      obtain ⟨-, -, ⟨ad, rfl⟩, -, -⟩ := hS
      exact ⟨rfl, decide_eq_false (by have := hl X rfl; omega)⟩
  have hfin : ∀ w' raws' B' d' rB', Q.length ≤ d' → (∃ ad, B' = some ad) → InvP E w' Q Q.flatten raws' B' d' rB' Q (.slice B' Q.length d') last sum → InvQ E w' Q (some Q) := fun w' raws' B' d' rB' h1 h2 h3 => ⟨raws', B', d', rB', Q, last, sum, h1, ⟨rfl, hQ, h2, hlast, hsum⟩, h3⟩
  have hold : ∀ w', InvP E w' Q Q.flatten raws B d rB R (.slice B R.length d) l s → InvQ E w' Q bo := fun w' h => ⟨raws, B, d, rB, R, l, s, hd, hS, h⟩
  have hBet := fun W (h : w.grownBy W none) => better_any last sum (hI.pure h) hS hQ
  have hLf : LeafP E Q bo last sum l s = if betS last sum Q (bo.map fun X => (X, l, s)) then some Q else bo := rfl
  generalize betS last sum Q (bo.map fun X => (X, l, s)) = V at *
  generalize hLP : LeafP E Q bo last sum l s = LP at *
  have hrl : Hid (raws.length = E.p.length) := hI.rw.len.trans hQ
  have hrlq : Hid (raws.length = Q.length) := hI.rw.len
  replace hfin := hide hfin
  replace hold := hide hold
  replace hBet := hide hBet
  replace h7 := hide h7
  replace hLf := hide hLf
  replace hQ := hide hQ
  clear hl hd hS hLP hlast hsum
  go_enter Tryd.func30, Tryd.ntmps30
  go_upto_region 1 with fail
  obtain ⟨w8, hw8⟩ : ∃ x, x = (w).alloc (.cells [.int .i64 c, .string m].toArray 70) := ⟨_, rfl⟩
  have hg8 : (w).grownBy w8 none := by rw [hw8]; exact gr_alloc (World.grownBy.refl _ _) _
  have hb8 : Box w8 (w).heap.size 70 [.int .i64 c, .string m] := by rw [hw8]; exact Box.new _ _ _
  have hxs8 := hb8.lt
  rw [← hw8]
  clear hw8
  obtain ⟨x8, hx8⟩ : ∃ x, x = (w).heap.size := ⟨_, rfl⟩
  rw [← hx8] at hb8 hxs8 ⊢
  have hxl8 : (w).heap.size ≤ x8 := by omega
  clear hx8
  clear hb8 hxs8 hxl8
  obtain ⟨b5, -⟩ := (hI.pure hg8).bx.c 5 rfl
  obtain ⟨b6, -⟩ := (hI.pure hg8).bx.c 6 rfl
  rcases hgate with hg | ⟨hg, hb⟩
  all_goals
    rw [hg] at hN
    go_upto_region 3 with fail
    clear b5 b6 hN hg
    go_wp2_with fail
    refine (hBet.out w8 hg8).mono ?_
    rintro e w2 ⟨rfl, hg2⟩
    have hI2 := hI.pure (hg8.t hg2)
    have hk2 := KeepC.pure (hg8.t hg2)
    clear hBet
    cases V with
    | false =>
      go_wp2_with fail
      refine bodyPost_ret (results_none rfl _ _ _) rfl ?_
      exact ⟨rfl, by rw [hLf.out]; exact hold.out _ hI2, hk2⟩
    | true =>
      clear hold hI hg8 hg2
      replace hLf : Hid (LP = some Q) := hLf.out
      have hI6 := hI2.setF hE 6 (.int .i64 last) (VB' := .slice B R.length d) (l' := last) (s' := s) (by decide) rfl
      have hI7 := hI6.setF hE 7 (.int .i64 sum) (VB' := .slice B R.length d) (l' := last) (s' := sum) (by decide) rfl
      have hI5 := (hI7.setF hE 5 (.slice none 0 0) (VB' := .slice none 0 0) (l' := last) (s' := sum) (by decide) rfl).noB
      have hk5 := hk2.trans ((hI2.keepF 6 (.int .i64 last)).trans ((hI6.keepF 7 (.int .i64 sum)).trans (hI7.keepF 5 (.slice none 0 0))))
      obtain ⟨f5, g5⟩ := hI2.bx.c 5 rfl
      obtain ⟨f6, g6⟩ := hI2.bx.c 6 rfl
      obtain ⟨f7, g7⟩ := hI2.bx.c 7 rfl
      clear hI6 hI7 hk2
      go_upto_region 5 with fail
      obtain ⟨w5, hw5⟩ : ∃ x, x = ((w2.setCell ⟨E.gb, 6, none⟩ (.int .i64 last)).setCell ⟨E.gb, 7, none⟩ (.int .i64 sum)).setCell ⟨E.gb, 5, none⟩ (.slice none 0 0) := ⟨_, rfl⟩
      rw [← hw5] at hI5 hk5 ⊢
      clear hw5 hI2 f5 g5 f6 g6 f7 g7
      obtain ⟨b3, -⟩ := hI5.bx.c 3 rfl
      have hp40 := hp4
      go_wp2_with fail
      go_loopw [52] (fun i wx => ∃ (n : Nat) (B : Option Addr) (d : Nat) (rB : List RawS), n ≤ E.p.length ∧ i = .int .i64 n ∧ Hid (rB.length = n) ∧ InvP E wx Q Q.flatten raws B d rB (Q.take n) (.slice B n d) last sum ∧ KeepC w wx) (fun i _ => E.p.length - (intOf i).toNat)
      case atStart => exact ⟨0, none, 0, [], Nat.zero_le _, rfl, rfl, hI5, hk5⟩
      case round =>
        clear hI5 hk5 b3
        obtain ⟨n, B, d, rB, hn, rfl, hrb, hI, hkc⟩ := hrel
        have hrl1 := hrl.out
        have hrl2 := hrlq.out
        by_cases hlt : n < E.p.length
        · have hnr : n < raws.length := by omega
          have hnq : n < Q.length := by omega
          have hc0 := hI.rw.cell hnr
          obtain ⟨hln, hO⟩ := hI.rw.ins n hnr hnq
          rw [hln] at hc0
          have hq7 := h7.out n hnq
          have hRA : ∀ g, blk raws[n].A = some g → g < wr.heap.size := fun g e => (hO.blk_lt e).2
          obtain ⟨q, hq⟩ : ∃ q, q = Q[n] := ⟨_, rfl⟩
          have htk : Hid (Q.take (n + 1) = Q.take n ++ [q]) := by rw [Hid, hq]; exact List.take_succ_eq_append_getElem hnq
          rw [← hq] at hc0 hO hq7
          have hCl := hide fun W (h : wr.grownBy W none) => cloneInt_any raws[n].A raws[n].c q W ((hO.sl.mono (Nat.zero_le _)).pure h) (by omega)
          obtain ⟨i0, hi, hz9, hi1, hi2⟩ := info_parts info_intsR
          replace hi := hide hi
          replace hz9 := hide hz9
          replace hi1 := hide hi1
          replace hi2 := hide hi2
          replace hRA := hide hRA
          have hI0 := hide hI
          have hszE := hE.hp
          clear hrl1 hrl2 hln hO hq
          go_upto_region 8 with fail
          clear hc0
          refine wp_region_tree (fun wx => wr.grownBy wx none) [2, 2, 2, 2, 1, 2, 0, 0, 0, 2, 2, 0] (.bl 0 (.bl 1 (.bl 2 (.bl 3 (.bl 4 (.bl 5 (.ef 6 (.ef 7 (.ef 8 (.bl 9 (.bl 10 (.ef 11 .done)))))))))))) (by kernel_rfl) (by kernel_rfl) (gr_drew (World.grownBy.refl _ _)) ?_
          obtain ⟨u0, hu0⟩ : ∃ x, x = (wr).drew := ⟨_, rfl⟩
          rw [← hu0]
          have hgu0 : (wr).grownBy u0 none := by rw [hu0]; exact gr_drew (World.grownBy.refl _ _)
          clear hu0
          refine tree_p rfl rfl rfl rfl _ rfl (by simp) (fun K hK => ?_)
          apply Exists.intro
          refine ⟨fun wq K' hK' => ?_, ?_⟩
          · go_wp2_with fail
            exact hK'
          go_simp
          refine hK _ ?_
          clear hK K
          refine tree_p rfl rfl rfl rfl _ rfl (by simp) (fun K hK => ?_)
          apply Exists.intro
          refine ⟨fun wq K' hK' => ?_, ?_⟩
          · go_wp2_with fail
            exact hK'
          go_simp
          refine hK _ ?_
          clear hK K
          refine tree_n rfl rfl _ rfl _ rfl ?_
          try go_simp
          refine tree_p rfl rfl rfl rfl _ rfl (by simp) (fun K hK => ?_)
          apply Exists.intro
          refine ⟨fun wq K' hK' => ?_, ?_⟩
          · go_wp2_with fail
            exact hK'
          go_simp
          refine hK _ ?_
          clear hK K
          refine tree_b rfl rfl rfl rfl _ rfl (by simp) (fun K hK => ?_)
          apply Exists.intro
          refine ⟨fun wq hq K' hK' => ?_, ?_⟩
          · obtain ⟨d5, -⟩ := (hI.pure hq).bx.c 5 rfl
            go_wp2_with fail
            exact hK'
          go_simp
          refine hK _ ?_
          clear hK K
          refine tree_p rfl rfl rfl rfl _ rfl (by simp) (fun K hK => ?_)
          apply Exists.intro
          refine ⟨fun wq K' hK' => ?_, ?_⟩
          · go_wp2_with fail
            exact hK'
          go_simp
          refine hK _ ?_
          clear hK K
          refine tree_e rfl rfl (fun K hK => ?_)
          go_wp2_with fail
          refine (hCl.out u0 (gr_trans hgu0 (World.grownBy.refl _ _))).mono ?_
          rintro e w6 ⟨A6, c6, rfl, hO6, hg6⟩
          go_wp2_with fail
          try go_simp
          refine hK _ _ (gr_trans hgu0 hg6) ?_
          clear hK K
          refine tree_e rfl rfl (fun K hK => ?_)
          go_wp2_with fail
          try go_simp
          refine hK _ _ (gr_alloc (gr_trans hgu0 hg6) _) ?_
          clear hK K
          obtain ⟨w7, hw7⟩ : ∃ x, x = (w6).alloc (.cells [.slice A6 q.length c6].toArray 22) := ⟨_, rfl⟩
          have hg7 : (w6).grownBy w7 none := by rw [hw7]; exact gr_alloc (World.grownBy.refl _ _) _
          have hb7 : Box w7 (w6).heap.size 22 [.slice A6 q.length c6] := by rw [hw7]; exact Box.new _ _ _
          rw [← hw7]
          clear hw7
          have hs7 := hb7.sl (l := [(⟨A6, q.length, c6⟩ : RawS)]) (lo := 0) ⟨_, [], by simp, rfl, rfl⟩ (Nat.zero_le _) (by simp [maxLen])
          have hq7g := gr_trans hgu0 (gr_trans hg6 hg7)
          refine tree_e0 (by kernel_rfl) rfl rfl (fun K hK => ?_)
          have hI7 := hI.pure hq7g
          refine wp_pushAt (α := RawS) _ (.tmp 60) (.tmp 63) _ rfl E.lo 22 i0 _ 24 Tryd.underlying36 hi.out hz9.out hi1.out hi2.out rfl _ _ _ rB rfl hrb.out.symm hI7.bs.out 0 ⟨_, 0, none⟩ 1 1 [(⟨A6, q.length, c6⟩ : RawS)] rfl rfl hs7 ?_ ?_ ?_ ?_
          · rw [hrb.out]; simp; omega
          · rw [hrb.out]; simp [maxLen]; omega
          · exact hI7.sz
          intro B5 d5 w8 hB8 hG8
          rw [show (rB ++ [(⟨A6, q.length, c6⟩ : RawS)]).length = n + 1 by rw [List.length_append, hrb.out]; rfl]
          have hrow7 : Own w7 E.lo 3 A6 c6 q := (hO6.pure hg7).lower (by have := hgu0.size; have := hI.sz; omega)
          have hI8 := hI7.pushB hE hrow7 (fun g e => by
            have h1 := (hO6.blk_lt e).1
            have h2 := hgu0.size
            refine ⟨fun i hi e2 => ?_, fun i hi e2 => ?_⟩
            · have := (hI.bs.blkR hi e2).2; omega
            · have := (hI.rw.blkR hi e2).2; omega) hB8 hG8
          have hk8 := hkc.trans ((KeepC.pure hq7g).trans (hI7.keepB hG8.1))
          try go_simp
          refine hK _ _ trivial ?_
          clear hK K
          refine tree_n rfl rfl _ rfl _ rfl ?_
          try go_simp
          refine tree_p rfl rfl rfl rfl _ rfl (by simp) (fun K hK => ?_)
          apply Exists.intro
          refine ⟨fun wq K' hK' => ?_, ?_⟩
          · go_wp2_with fail
            exact hK'
          go_simp
          refine hK _ ?_
          clear hK K
          refine tree_e0 (by kernel_rfl) rfl rfl (fun K hK => ?_)
          obtain ⟨o5, p5⟩ := hI8.bx.c 5 rfl
          have hI9 := hide (hI8.setF hE 5 (.slice B5 (n + 1) d5) (VB' := .slice B5 (n + 1) d5) (l' := last) (s' := sum) (by decide) rfl)
          have hk9 := hide (hk8.trans (hI8.keepF 5 (.slice B5 (n + 1) d5)))
          clear hI8 hk8 hI7
          go_wp2_with fail
          try go_simp
          refine hK _ _ trivial ?_
          clear hK K
          refine tree_done ?_
          have hrb2 : Hid ((rB ++ [(⟨A6, q.length, c6⟩ : RawS)]).length = n + 1) := by rw [Hid, List.length_append, hrb.out]; rfl
          go_wp2_with fail
          (go_roundw; (case rel => exact ⟨n + 1, B5, d5, _, by omega, by go_num, hrb2, by rw [htk.out]; exact hI9.out, hk9.out⟩); (case measure => simp [intOf]; omega))
        · obtain rfl : n = E.p.length := by omega
          have htk : Q.take E.p.length = Q := by rw [← hQ.out]; exact List.take_length
          rw [htk] at hI
          have hne : ∃ ad, B = some ad := by
            obtain ⟨g, e, -⟩ := hI.bs.out.shape (by rw [hrb.out]; omega)
            exact ⟨_, e⟩
          have hcap := hI.bs.out.cap
          rw [hrb.out] at hcap
          have hI2 : InvP E wr Q Q.flatten raws B d rB Q (.slice B Q.length d) last sum := by rw [hQ.out]; exact hI
          have hF := hide (hfin.out wr raws B d rB (by rw [hQ.out]; exact hcap) hne hI2)
          clear hI hI2 htk hcap hne
          go_wp2_with fail
          refine bodyPost_ret (results_none rfl _ _ _) rfl ?_
          exact ⟨rfl, by rw [hLf.out]; exact hF.out, hkc⟩

end Go.Proofs.YtanioobepfllgaaDoor

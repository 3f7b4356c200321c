/- Contracts of functions that this seat's laws reach, each: what one call returns and what it leaves in memory; no condition beyond each theorem's own hypotheses. -/
import Derived.Test.YtanioobepfllgaaGreatDoorZqFlrD
import Derived.Test.YtanioobepfllgaaGreatDoorZqRefData
set_option linter.unusedVariables false
set_option linter.unusedSimpArgs false
namespace Go.Proofs.YtanioobepfllgaaGreatDoor
open Go Go.RowKit Go.Bl Go.Maps Go.WideShapes

/-- maps and floors that are new stay -/
def KeepM (lo : Nat) (w w' : World) : Prop := ∀ x, lo ≤ x → ((∃ es ck, w.heap[x]? = some (.map es ck)) ∨ (∃ vs, Box w x 132 vs)) → w'.heap[x]? = w.heap[x]?

theorem FlrAt.keep {lo : Nat} {w w' : World} {f b1 b2 b3 b4 N : Nat} {F : Flr} (h : FlrAt w f b1 b2 b3 b4 N F) (hk : KeepM lo w w') (hlo : ∀ x, x = f ∨ isF b1 b2 b3 b4 x → lo ≤ x) : FlrAt w' f b1 b2 b3 b4 N F :=
  h.blk fun x hx => hk x (hlo x hx) (by
    rcases hx with rfl | hx
    · exact .inr ⟨_, h.bx⟩
    · exact .inl (h.isMap hx))

theorem ev_okK {e : Ev} (h : EvOk e) : okK e.pr ∧ okK e.job := by
  have hm : (40 : Nat) ≤ maxLen := by unfold maxLen; omega
  refine ⟨Nat.le_trans (keyB_okK h.key) hm, ?_⟩
  by_cases h1 : e.kind = 1
  · exact Nat.le_trans (keyB_okK (h.j1 h1)) hm
  · rw [h.j0 h1]; exact okK_noB

set_option maxHeartbeats 4000000 in
set_option maxRecDepth 100000 in
theorem follow_any (P A : Option Addr) (pc c : Nat) (p : List Prn) (l : List Ev) (at_ : Int) (FK : Nat) (B C : Array Value) (I : Nat → World → Prop) (w : World)
    (hpl : Sl w 0 P p) (hpk : ∀ x ∈ p, okK x.key) (h50 : p.length ≤ 50) (hl5 : l.length ≤ 5000) (hev : ∀ e ∈ l, EvOk e)
    (hsl : ∀ k wx, I k wx → Sl wx 0 A l)
    (hst : ∀ k wx wy (q : Nat → Prop), I k wx → GrS q wx wy → (∀ x, q x → w.heap.size ≤ x ∧ ∃ es ck, wx.heap[x]? = some (.map es ck)) → I k wy)
    (hstep : ∀ k (h : k < l.length) wx, l[k].at_ ≤ at_ → I k wx → Calls Tryz.prog FK (B ++ (#[.int .i64 k, stdV ((runS (newF p) (l.take k)).s l[k].pr), .int .i64 (doE (runS (newF p) (l.take k)) l[k])] ++ C)) wx fun e w' => e = .returned (.tuple #[]) ∧ I (k + 1) w' ∧ KeepM w.heap.size wx w')
    (hen : ∀ (xs : Array Value) wx, (callFunc FK xs).run Tryz.prog wx = .ok (.enter FK xs) wx) (h0 : I 0 w) :
    Calls Tryz.prog 53 #[.slice P p.length pc, .slice A l.length c, .int .i64 at_, .func (.func FK) B C] w fun e w' => ∃ f b1 b2 b3 b4, e = .returned (.pointer (some ⟨f, 0, none⟩)) ∧ FlrAt w' f b1 b2 b3 b4 20000 (runS (newF p) (l.take (limN l at_))) ∧ I (limN l at_) w' ∧ ∀ x, x = f ∨ isF b1 b2 b3 b4 x → w.heap.size ≤ x := by
  have hll := limN_le l at_
  have hNF := hide (newFloor_any P pc p w hpl hpk h50)
  replace hsl := hide hsl
  replace hst := hide hst
  replace hstep := hide hstep
  replace hen := hide hen
  replace hev := hide hev
  have h00 := hide h0
  clear h0 hpl hpk
  go_enter Tryz.func53, Tryz.ntmps53
  go_wp2_with fail
  refine hNF.out.mono ?_
  rintro e w1 ⟨f, b1, b2, b3, b4, rfl, hF1, hg1, hlo⟩
  have hI1 : Hid (I 0 w1) := hst.out 0 w w1 (fun _ => False) h00.out ((GrS.refl _ w).pure hg1) (fun x hx => hx.elim)
  replace hlo := hide hlo
  clear hNF h00 hg1
  go_wp2_with fail
  go_loopw [17] (fun i wr => ∃ k : Nat, k ≤ limN l at_ ∧ i = .int .i64 k ∧ FlrAt wr f b1 b2 b3 b4 (p.length + 3 * k) (runS (newF p) (l.take k)) ∧ Hid (I k wr)) (fun i _ => l.length - (intOf i).toNat)
  case atStart => exact ⟨0, Nat.zero_le _, rfl, hF1, hI1⟩
  case round =>
    clear hF1 hI1
    obtain ⟨k, hk, rfl, hF, hI⟩ := hrel
    by_cases hlt : k < l.length
    · obtain ⟨g, o, cx, rfl, hb0, hb1, rfl, hc⟩ := (hsl.out k wr hI.out).at_ (by decide) hlt
      have c0 : wr.cell? ⟨g, o + k * 5, none⟩ = some (.int .i64 l[k].at_) := hc 0 _ rfl
      have c1 : wr.cell? ⟨g, o + k * 5 + 1, none⟩ = some (.int .i64 l[k].kind) := hc 1 _ rfl
      have c2 : wr.cell? ⟨g, o + k * 5 + 2, none⟩ = some (.string l[k].pr) := hc 2 _ rfl
      have c3 : wr.cell? ⟨g, o + k * 5 + 3, none⟩ = some (.string l[k].job) := hc 3 _ rfl
      have c4 : wr.cell? ⟨g, o + k * 5 + 4, none⟩ = some (.string l[k].mat) := hc 4 _ rfl
      clear hc
      have hok := hev.out _ (List.getElem_mem hlt)
      have hkd := hok.kd
      obtain ⟨hkp, hkj⟩ := ev_okK hok
      have hnx := hide (runS_take (F := newF p) hlt)
      have hlim : Hid (l[k].at_ ≤ at_ ↔ k < limN l at_) := ⟨fun h => Classical.byContradiction fun hc => by
        obtain rfl : k = limN l at_ := by omega
        exact limN_end hlt h, fun h => limN_lt hlt h⟩
      have hcall := hide fun wx (h1 : l[k].at_ ≤ at_) (h2 : I k wx) => hstep.out k hlt wx h1 h2
      clear hok
      generalize hld : l[k] = d at *
      clear hld
      obtain ⟨FF, hFF⟩ : ∃ FF, FF = runS (newF p) (l.take k) := ⟨_, rfl⟩
      rw [← hFF] at hnx hcall hF
      replace hFF := hide hFF
      go_upto_region 5 with fail
      obtain ⟨w11, hw11⟩ : ∃ x, x = (wr).alloc (.cells [.int .i64 (d).at_, .int .i64 (d).kind, .string (d).pr, .string (d).job, .string (d).mat].toArray 60) := ⟨_, rfl⟩
      have hg11 : (wr).grownBy w11 none := by rw [hw11]; exact gr_alloc (World.grownBy.refl _ _) _
      have hb11 : Box w11 (wr).heap.size 60 [.int .i64 (d).at_, .int .i64 (d).kind, .string (d).pr, .string (d).job, .string (d).mat] := by rw [hw11]; exact Box.new _ _ _
      have hxs11 := hb11.lt
      rw [← hw11]
      clear hw11
      obtain ⟨x11, hx11⟩ : ∃ x, x = (wr).heap.size := ⟨_, rfl⟩
      rw [← hx11] at hb11 hxs11 ⊢
      have hxl11 : (wr).heap.size ≤ x11 := by omega
      clear hx11
      clear c0 c1 c2 c3 c4
      by_cases hat : d.at_ ≤ at_
      · have hkl := hlim.out.1 hat
        have hb : decide (d.at_ > at_) = false := by simp; omega
        obtain ⟨q0, -⟩ := hb11.c 0 rfl
        clear hlim
        obtain ⟨S, hS⟩ : ∃ S, S = FF.s d.pr := ⟨_, rfl⟩
        rw [← hS] at hcall
        replace hS := hide hS
        have hF11 := hF.pure hg11
        have hlt11 := fun x hx => hF11.lt (x := x) hx
        have hY := hide fun wx (h : w11.grownBy wx none) => And.intro (hF11.pure h) (hb11.pure h)
        have hxF : ∀ x, isF b1 b2 b3 b4 x → x ≠ x11 := fun x hx => by have := hF.lt (x := x) (.inr hx); omega
        go_upto_region 6 with fail
        clear q0 hF
        go_cut [12] (fun s wx => ∃ x12, s = .pointer (some ⟨x12, 0, none⟩) ∧ Box wx x12 105 ([.int .i64 (S).st, .int .i64 (S).since, .string (S).mat, .string (S).job]) ∧ w11.grownBy wx none)
        case first =>
          refine wp_region_tree (fun wx => w11.grownBy wx none) [2, 2, 2, 1, 2, 1, 1, 0, 0] (.bl 0 (.bl 1 (.bl 2 (.bl 3 (.bl 4 (.bl 5 (.bl 6 (.ef 7 (.ef 8 .done))))))))) (by kernel_rfl) (by kernel_rfl) (gr_drew (World.grownBy.refl _ _)) ?_
          obtain ⟨w6, hw6⟩ : ∃ x, x = (w11).drew := ⟨_, rfl⟩
          rw [← hw6]
          have hgw6 : (w11).grownBy w6 none := by rw [hw6]; exact gr_drew (World.grownBy.refl _ _)
          clear hw6
          refine tree_p rfl rfl rfl rfl _ rfl (by simp) (fun K hK => ?_)
          apply Exists.intro
          refine ⟨fun wq K' hK' => ?_, ?_⟩
          · go_wp2_with fail
            exact hK'
          go_simp
          refine hK _ ?_
          clear hK K
          refine tree_n rfl rfl _ rfl _ rfl ?_
          try go_simp
          refine tree_p rfl rfl rfl rfl _ rfl (by simp) (fun K hK => ?_)
          apply Exists.intro
          refine ⟨fun wq K' hK' => ?_, ?_⟩
          · go_wp2_with fail
            exact hK'
          go_simp
          refine hK _ ?_
          clear hK K
          refine tree_b rfl rfl rfl rfl _ rfl (by simp) (fun K hK => ?_)
          apply Exists.intro
          refine ⟨fun wq hq K' hK' => ?_, ?_⟩
          · obtain ⟨hFq, hbq⟩ := hY.out wq hq
            obtain ⟨f0, -⟩ := hFq.bx.c 0 rfl
            obtain ⟨p2, -⟩ := hbq.c 2 rfl
            have hlk : (Instr.lookup 128 (.map (some b1)) (.string d.pr) false).run Tryz.prog wq = .ok (.agg #[.int .i64 S.st, .int .i64 S.since, .string S.mat, .string S.job]) wq := by rw [hS.out]; exact look_T hFq.m1 hkp
            go_wp2_with fail
            exact hK'
          go_simp
          refine hK _ ?_
          clear hK K
          refine tree_p rfl rfl rfl rfl _ rfl (by simp) (fun K hK => ?_)
          apply Exists.intro
          refine ⟨fun wq K' hK' => ?_, ?_⟩
          · go_wp2_with fail
            exact hK'
          go_simp
          refine hK _ ?_
          clear hK K
          refine tree_b rfl rfl rfl rfl _ rfl (by simp) (fun K hK => ?_)
          apply Exists.intro
          refine ⟨fun wq hq K' hK' => ?_, ?_⟩
          · obtain ⟨hFq, hbq⟩ := hY.out wq hq
            obtain ⟨f0, -⟩ := hFq.bx.c 0 rfl
            obtain ⟨p2, -⟩ := hbq.c 2 rfl
            have hlk : (Instr.lookup 128 (.map (some b1)) (.string d.pr) false).run Tryz.prog wq = .ok (.agg #[.int .i64 S.st, .int .i64 S.since, .string S.mat, .string S.job]) wq := by rw [hS.out]; exact look_T hFq.m1 hkp
            go_wp2_with fail
            exact hK'
          go_simp
          refine hK _ ?_
          clear hK K
          refine tree_b rfl rfl rfl rfl _ rfl (by simp) (fun K hK => ?_)
          apply Exists.intro
          refine ⟨fun wq hq K' hK' => ?_, ?_⟩
          · obtain ⟨hFq, hbq⟩ := hY.out wq hq
            obtain ⟨f0, -⟩ := hFq.bx.c 0 rfl
            obtain ⟨p2, -⟩ := hbq.c 2 rfl
            have hlk : (Instr.lookup 128 (.map (some b1)) (.string d.pr) false).run Tryz.prog wq = .ok (.agg #[.int .i64 S.st, .int .i64 S.since, .string S.mat, .string S.job]) wq := by rw [hS.out]; exact look_T hFq.m1 hkp
            go_wp2_with fail
            exact hK'
          go_simp
          refine hK _ ?_
          clear hK K
          refine tree_e rfl rfl (fun K hK => ?_)
          go_wp2_with fail
          try go_simp
          refine hK _ _ (gr_alloc (gr_trans hgw6 (World.grownBy.refl _ _)) _) ?_
          clear hK K
          obtain ⟨w7, hw7⟩ : ∃ x, x = (w6).alloc (.cells [.int .i64 0, .int .i64 0, .string ⟨#[]⟩, .string ⟨#[]⟩].toArray 105) := ⟨_, rfl⟩
          have hg7 : (w6).grownBy w7 none := by rw [hw7]; exact gr_alloc (World.grownBy.refl _ _) _
          have hb7 : Box w7 (w6).heap.size 105 [.int .i64 0, .int .i64 0, .string ⟨#[]⟩, .string ⟨#[]⟩] := by rw [hw7]; exact Box.new _ _ _
          rw [← hw7]
          clear hw7
          obtain ⟨x7, hx7⟩ : ∃ x, x = (w6).heap.size := ⟨_, rfl⟩
          rw [← hx7] at hb7 ⊢
          have hxl7 : (w6).heap.size ≤ x7 := by omega
          clear hx7
          refine tree_e0 (by kernel_rfl) rfl rfl (fun K hK => ?_)
          have hb8 := hb7.pure (w' := w7) (World.grownBy.refl _ _)
          obtain ⟨⟨d0, e0⟩, ⟨d1, e1⟩, ⟨d2, e2⟩, ⟨d3, e3⟩⟩ := box4_c hb8
          go_wp2_with fail
          try go_simp
          refine hK _ _ trivial ?_
          clear hK K
          refine tree_done ?_
          have hb8 := hb7.pure (w' := w7) (World.grownBy.refl _ _)
          have hgw8 := gr_trans hgw6 hg7
          have hle := hgw6.size
          have hgs := set4_gr (w := w7) (g := x7) (.int .i64 S.st) (.int .i64 S.since) (.string S.mat) (.string S.job)
          have hbz := box_set4 hb8 (.int .i64 S.st) (.int .i64 S.since) (.string S.mat) (.string S.job)
          have hgz := gr_new hgw8 hgs (by omega)
          clear d0 d1 d2 d3 e0 e1 e2 e3
          go_wp2_with fail
          go_meet
          exact ⟨x7, by simp, hbz, hgz⟩
        case rest =>
          obtain ⟨x12, rfl, hb12, hgc⟩ := hcut
          have hIc : Hid (I k wc) := hst.out k wr wc (fun _ => False) hI.out ((GrS.refl _ wr).pure (hg11.t hgc)) (fun x hx => hx.elim)
          obtain ⟨hFc, hbc⟩ := hY.out wc hgc
          have hx11 : ¬ isF b1 b2 b3 b4 x11 := fun h => hxF _ h rfl
          have hx12 : ¬ isF b1 b2 b3 b4 x12 := fun h => map_noBox (hFc.isMap h) hb12
          have hCc : Hid (Box wc x11 60 ([.int .i64 (d).at_, .int .i64 (d).kind, .string (d).pr, .string (d).job, .string (d).mat]) ∧ Box wc x12 105 ([.int .i64 (S).st, .int .i64 (S).since, .string (S).mat, .string (S).job])) := ⟨hbc, hb12⟩
          replace hFc := hide hFc
          clear hY hI hbc hb12 hgc
          go_upto_region 7 with fail
          refine wp_region_tree (fun wx => Box wx x11 60 ([.int .i64 (d).at_, .int .i64 (d).kind, .string (d).pr, .string (d).job, .string (d).mat]) ∧ Box wx x12 105 ([.int .i64 (S).st, .int .i64 (S).since, .string (S).mat, .string (S).job])) [2, 2, 1, 2, 1, 0, 0] (.bl 0 (.bl 1 (.bl 2 (.bl 3 (.bl 4 (.ef 5 (.ef 6 .done))))))) (by kernel_rfl) (by kernel_rfl) (⟨hCc.out.1.pure (gr_drew (World.grownBy.refl _ _)), hCc.out.2.pure (gr_drew (World.grownBy.refl _ _))⟩) ?_
          obtain ⟨w6, hw6⟩ : ∃ x, x = (wc).drew := ⟨_, rfl⟩
          rw [← hw6]
          have hgw6 : (wc).grownBy w6 none := by rw [hw6]; exact gr_drew (World.grownBy.refl _ _)
          clear hw6
          refine tree_p rfl rfl rfl rfl _ rfl (by simp) (fun K hK => ?_)
          apply Exists.intro
          refine ⟨fun wq K' hK' => ?_, ?_⟩
          · go_wp2_with fail
            exact hK'
          go_simp
          refine hK _ ?_
          clear hK K
          refine tree_p rfl rfl rfl rfl _ rfl (by simp) (fun K hK => ?_)
          apply Exists.intro
          refine ⟨fun wq K' hK' => ?_, ?_⟩
          · go_wp2_with fail
            exact hK'
          go_simp
          refine hK _ ?_
          clear hK K
          refine tree_b rfl rfl rfl rfl _ rfl (by simp) (fun K hK => ?_)
          apply Exists.intro
          refine ⟨fun wq hq K' hK' => ?_, ?_⟩
          · obtain ⟨hbq, hbs⟩ := hq
            obtain ⟨p0, p1, p2, p3, p4⟩ := box5_all hbq
            obtain ⟨⟨d0, -⟩, ⟨d1, -⟩, ⟨d2, -⟩, ⟨d3, -⟩⟩ := box4_c hbs
            go_wp2_with fail
            exact hK'
          go_simp
          refine hK _ ?_
          clear hK K
          refine tree_p rfl rfl rfl rfl _ rfl (by simp) (fun K hK => ?_)
          apply Exists.intro
          refine ⟨fun wq K' hK' => ?_, ?_⟩
          · go_wp2_with fail
            exact hK'
          go_simp
          refine hK _ ?_
          clear hK K
          refine tree_b rfl rfl rfl rfl _ rfl (by simp) (fun K hK => ?_)
          apply Exists.intro
          refine ⟨fun wq hq K' hK' => ?_, ?_⟩
          · obtain ⟨hbq, hbs⟩ := hq
            obtain ⟨p0, p1, p2, p3, p4⟩ := box5_all hbq
            obtain ⟨⟨d0, -⟩, ⟨d1, -⟩, ⟨d2, -⟩, ⟨d3, -⟩⟩ := box4_c hbs
            go_wp2_with fail
            exact hK'
          go_simp
          refine hK _ ?_
          clear hK K
          refine tree_e rfl rfl (fun K hK => ?_)
          have hFq := hFc.out.pure hgw6
          have hIq : Hid (I k w6) := hst.out k wc w6 (fun _ => False) hIc.out ((GrS.refl _ wc).pure hgw6) (fun x hx => hx.elim)
          go_wp2_with fail
          refine (do_any f b1 b2 b3 b4 _ FF d _ hFq (by omega) hkp hkj hkd).mono ?_
          rintro e w8 ⟨rfl, hF8, hG8⟩
          have hI8 : Hid (I k w8) := hst.out k _ w8 (isF b1 b2 b3 b4) hIq.out hG8 (fun x hx => ⟨hlo.out x (.inr hx), hFq.isMap hx⟩)
          have hcc := hide (hcall.out w8 hat hI8.out)
          have hC8 := hide (And.intro (hG8.box (hCc.out.1.pure hgw6) hx11) (hG8.box (hCc.out.2.pure hgw6) hx12))
          clear hFq hIq
          go_wp2_with fail
          try go_simp
          refine hK _ _ (hC8.out) ?_
          clear hK K
          refine tree_e0 (by kernel_rfl) rfl rfl (fun K hK => ?_)
          go_wp2_with fail
          rw [hen.out, Oper.upon_enter]
          refine hcc.out.mono ?_
          rintro e w9 ⟨rfl, hI9, hK9⟩
          have hF9 := hide (hF8.keep hK9 hlo.out)
          replace hI9 := hide hI9
          clear hK9
          go_wp2_with fail
          try go_simp
          refine hK _ _ trivial ?_
          clear hK K
          refine tree_done ?_
          have hFz : Hid (FlrAt w9 f b1 b2 b3 b4 (p.length + 3 * (k + 1)) (runS (newF p) (l.take (k + 1)))) := by rw [Hid, hnx.out]; exact hF9.out.mono (by omega)
          go_wp2_with fail
          (go_roundw; (case rel => exact ⟨k + 1, by omega, by go_num, hFz.out, hI9⟩); (case measure => simp [intOf]; omega))
      · have hkl : k = limN l at_ := by
          have h1 : ¬ k < limN l at_ := fun h => hat (hlim.out.2 h)
          omega
        have hb : decide (d.at_ > at_) = true := by simp; omega
        obtain ⟨q0, -⟩ := hb11.c 0 rfl
        have hIz : Hid (I (limN l at_) w11) := by
          have h1 := hst.out k wr w11 (fun _ => False) hI.out ((GrS.refl _ wr).pure hg11) (fun x hx => hx.elim)
          rw [hkl] at h1
          exact h1
        have hFz : Hid (FlrAt w11 f b1 b2 b3 b4 20000 (runS (newF p) (l.take (limN l at_)))) := by
          rw [← hkl, Hid, ← hFF.out]
          exact (hF.pure hg11).mono (by omega)
        clear hlim hcall hnx hI hF hkl
        go_wp2_with fail
        go_ret
        exact ⟨f, by simp, b1, b2, b3, b4, hFz.out, hIz.out, hlo.out f (.inl rfl), fun a h => hlo.out a (.inr h)⟩
    · have hkl : Hid (k = limN l at_) := by
        show k = limN l at_
        omega
      have hIz : Hid (I (limN l at_) wr) := by rw [Hid, ← hkl.out]; exact hI.out
      have hFz : Hid (FlrAt wr f b1 b2 b3 b4 20000 (runS (newF p) (l.take (limN l at_)))) := by
        rw [Hid, ← hkl.out]
        exact hF.mono (by omega)
      clear hI hF hkl
      go_wp2_with fail
      go_ret
      exact ⟨f, b1, b2, b3, b4, rfl, hFz.out, hIz.out, hlo.out⟩

end Go.Proofs.YtanioobepfllgaaGreatDoor

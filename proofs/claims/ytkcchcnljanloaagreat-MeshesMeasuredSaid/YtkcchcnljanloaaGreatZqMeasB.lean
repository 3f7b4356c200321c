/- Contracts of functions that this seat's laws reach, each: what one call returns and what it leaves in memory; no condition beyond each theorem's own hypotheses. -/
import Derived.Test.YtkcchcnljanloaaGreatZqMeasA
import Derived.Test.YtkcchcnljanloaaGreatZqShellB
import Derived.Test.YtkcchcnljanloaaGreatZqSlices
set_option linter.unusedVariables false
set_option linter.unusedSimpArgs false
namespace Go.Proofs.YtkcchcnljanloaaGreat
open Go Go.RowKit Go.Bl

/-- the groups so far, each in another block than the list of those that are done -/
def OwnID (w : World) (lo : Nat) (e : TypeId) (A : Option Addr) (c : Nat) (l : List (List Int)) (AD : Option Addr) : Prop :=
  ∃ raws : List RawS, Own w lo e A c raws ∧ All2 (fun r x => NOkI w lo A r x ∧ ∀ g, blk r.A = some g → blk AD ≠ some g) raws l

theorem OwnID.nil (w : World) (lo : Nat) (e : TypeId) (AD : Option Addr) : OwnID w lo e none 0 [] AD := ⟨[], Own.nil w lo e, .nil⟩

theorem OwnID.toI {w : World} {lo : Nat} {e : TypeId} {A : Option Addr} {c : Nat} {l : List (List Int)} {AD : Option Addr} (h : OwnID w lo e A c l AD) : OwnI w lo e A c l :=
  let ⟨raws, ho, ha⟩ := h
  ⟨raws, ho, ha.imp fun _ _ x => x.1⟩
/-- what the done list grew by leaves the groups -/
theorem OwnID.step {w w' : World} {lo lo2 : Nat} {e : TypeId} {A : Option Addr} {c : Nat} {l : List (List Int)} {AD AD' : Option Addr} {cD : Nat} {D : List Int} (h : OwnID w lo e A c l AD) (hD : Own w lo2 3 AD cD D) (he : e ≠ 3) (hg : w.grownBy w' (blk AD)) (hA : blk AD' = blk AD ∨ ∃ g, blk AD' = some g ∧ w.heap.size ≤ g) : OwnID w' lo e A c l AD' := by
  obtain ⟨raws, ho, ha⟩ := h
  refine ⟨raws, ho.ne hg (fun g hb => ho.ne_own hD he hb), ha.imp fun r x hx => ⟨NOkI.gr hx.1 hg hx.2, fun g hb e => ?_⟩⟩
  rcases hA with q | ⟨g', q, hl⟩
  · rw [q] at e; exact hx.2 g hb e
  · rw [q] at e
    injection e with e
    have := (NestOf.lt hx.1.1.1 (g := g) hb).2
    omega

theorem OwnID.pure {w w' : World} {lo : Nat} {e : TypeId} {A : Option Addr} {c : Nat} {l : List (List Int)} {AD : Option Addr} (h : OwnID w lo e A c l AD) (hg : w.grownBy w' none) : OwnID w' lo e A c l AD := by
  obtain ⟨raws, ho, ha⟩ := h
  exact ⟨raws, ho.pure hg, ha.imp fun r x hx => ⟨NOkI.gr hx.1 hg (fun _ _ e => by cases e), hx.2⟩⟩

theorem OwnID.push {w w' : World} {lo : Nat} {e : TypeId} {A A' : Option Addr} {c' : Nat} {raws : List RawS} {l : List (List Int)} {r : RawS} {x : List Int} {AD : Option Addr} (ha : All2 (fun r x => NOkI w lo A r x ∧ ∀ g, blk r.A = some g → blk AD ≠ some g) raws l) (ho' : Own w' lo e A' c' (raws ++ [r])) (hG : Grew A A' w w') (hx : NOkI w lo A r x) (hr : ∀ g, blk r.A = some g → blk AD ≠ some g) : OwnID w' lo e A' c' (l ++ [x]) AD := by
  refine ⟨raws ++ [r], ho', (ha.snoc ⟨hx, hr⟩).imp fun r x hx => ⟨⟨⟨NestOf.gr hx.1.1.1 hG.1 fun g hb => hx.1.1.2 g hb, fun g hb => ?_⟩, ThawI.gr hx.1.2 (fun g e => (NestOf.lt hx.1.1.1 (g := g) e).2) hG.1 (fun g hb => hx.1.1.2 g hb)⟩, hx.2⟩⟩
  rcases hG.2 with h | h
  · rw [h]; exact hx.1.1.2 g hb
  · rw [h]; have := (NestOf.lt hx.1.1.1 (g := g) hb).2; intro e; injection e; omega

/-- a group of the reference while it grows -/
structure GR (lo9 : Nat) (fs : List Fc) (i : Nat) (A : Option Addr) (c : Nat) (g : List Nat) (wx : World) : Prop where
  grw : Grw fs i g
  ow : Own wx lo9 3 A c (gi g)
section
variable {wx wy : World} {lo9 : Nat} {fs : List Fc} {i : Nat} {A : Option Addr} {c : Nat} {g : List Nat}

theorem GR.pure (h : GR lo9 fs i A c g wx) (hg : wx.grownBy wy none) : GR lo9 fs i A c g wy := ⟨h.grw, h.ow.pure hg⟩

theorem GR.len (h : GR lo9 fs i A c g wx) : (gi g).length ≤ fs.length := by rw [gi_len]; exact h.grw.len

theorem GR.cell (h : GR lo9 fs i A c g wx) {a x : Nat} (ha : a < (gi g).length) (hx : g[a]? = some x) : ∃ gA, A = some ⟨gA, 0, none⟩ ∧ wx.cell? ⟨gA, a, none⟩ = some (.int .i64 x) := by
  obtain ⟨g', o, c1, hA, h1, h2, hr, hc⟩ := h.ow.sl.at_ (by decide) ha
  have h0 : (gi g)[a] = (x : Int) := by
    rw [gi_get ha]
    have hag : a < g.length := by rw [gi_len] at ha; exact ha
    rw [List.getElem?_eq_getElem hag] at hx
    injection hx with hx
    rw [hx]
  rw [h0] at hr
  have hr : c1 = [.int .i64 (x : Int)] := hr
  subst hr
  have hcc := hc 0 _ rfl
  obtain ⟨hm, cs, hrow, ho1, ho2⟩ := h.ow
  rcases ho2 with ⟨hv, _⟩ | ⟨gg, cap, cur, hv, _⟩
  · rw [hA] at hv; cases hv
  · rw [hA] at hv
    injection hv with e1 _ _
    injection e1 with e1
    injection e1 with e1 e2
    subst e1 e2
    refine ⟨_, hA, ?_⟩
    rwa [show Enc.sz Int = 1 from rfl, Nat.mul_one, Nat.add_zero, Nat.zero_add] at hcc

theorem GR.addr (h : GR lo9 fs i A c g wx) : ∃ gA, A = some ⟨gA, 0, none⟩ ∧ lo9 ≤ gA := by
  have hne := List.ne_nil_of_mem h.grw.mem
  obtain ⟨x, r, rfl⟩ := List.exists_cons_of_ne_nil hne
  obtain ⟨gA, e, -⟩ := h.cell (a := 0) (x := x) (by rw [gi_len]; simp) rfl
  subst e
  exact ⟨gA, rfl, (h.ow.blk_lt (g := gA) rfl).1⟩
end

theorem memB_gi {g : List Nat} {k : Nat} : memB (gi g) (k : Int) = decide (k ∈ g) := by
  unfold memB
  rw [decide_eq_decide]
  exact gi_mem

set_option maxHeartbeats 4000000 in
set_option maxRecDepth 100000 in
theorem shellsOf_any (A : Option Addr) (n c : Nat) (B : Option Addr) (d : Nat) (fs : List Fc) (w : World) (hfs : Sl w 0 B fs) (hf1 : fs.length ≤ 1000) (hdist : ∀ f ∈ fs, f.a ≠ f.b ∧ f.b ≠ f.c ∧ f.a ≠ f.c) :
    Calls Tryz.prog 23 #[.agg #[.slice A n c, .slice B fs.length d]] w fun e w' => ∃ (O : Option Addr) (co : Nat), e = .returned (.slice O (shellsI fs fs.length).length co) ∧ OwnI w' w.heap.size 22 O co (shellsI fs fs.length) ∧ w.grownBy w' none := by
  have hg0 := gr_alloc (World.grownBy.refl w none) (.cells #[.slice A n c, .slice B fs.length d] 29)
  have b0 := (Cell.new w [.slice A n c, .slice B fs.length d] 29 1 _ rfl _ rfl).1
  replace hdist := hide hdist
  go_enter Tryz.func23, Tryz.ntmps23
  go_upto_region 3 with fail
  generalize hWm : w.alloc (.cells #[.slice A n c, .slice B fs.length d] 29) = W0 at *
  clear hWm
  obtain ⟨lo, hlo⟩ : ∃ x, x = W0.heap.size := ⟨_, rfl⟩
  have hlo1 : lo ≤ W0.heap.size := by omega
  have hlo2 : W0.heap.size ≤ lo := by omega
  have hlo3 : w.heap.size ≤ lo := Nat.le_trans hg0.size hlo2
  clear hlo
  go_wp2_with fail
  have hz := World.grownBy.refl W0 none
  go_loopw [3, 4, 13] (fun o dn i wr => ∃ (i' : Nat) (O : Option Addr) (co : Nat) (AD : Option Addr) (cD : Nat) (D : List Int), i' ≤ fs.length ∧ i = .int .i64 i' ∧ o = .slice O (shellsI fs i').length co ∧ dn = .slice AD D.length cD ∧ DoneI fs i' D ∧ D.length ≤ 1000 * i' ∧ Own wr lo 3 AD cD D ∧ OwnID wr lo 22 O co (shellsI fs i') AD ∧ W0.grownBy wr none) (fun _ _ i _ => fs.length - (intOf i).toNat)
  case atStart => exact ⟨0, none, 0, none, 0, [], Nat.zero_le _, rfl, rfl, rfl, DoneI.zero _, by simp, Own.nil _ _ _, OwnID.nil _ _ _ _, hz⟩
  case round =>
    clear hz
    obtain ⟨i, O, co, AD, cD, D, hi, rfl, rfl, rfl, hDI, hDl, hD, hO, hg⟩ := hrel
    have b1 := hg.k b0
    by_cases hlt : i < fs.length
    · have hCt := containsInt_any AD cD D i wr (hD.sl.mono (Nat.zero_le _))
      have hmb : memB D (i : Int) = doneF fs i i := by unfold memB; rw [Bool.eq_iff_iff, decide_eq_true_eq]; exact hDI i
      rw [hmb] at hCt
      clear hmb
      rcases hd : doneF fs i i with _ | _
      · rw [hd] at hCt
        replace hCt := hide hCt
        go_wp2_with fail
        refine hCt.out.mono ?_
        rintro e w5 ⟨rfl, rfl⟩
        clear hCt
        generalize hWq : wr = W9 at *
        clear hWq
        obtain ⟨lo9, hlo9⟩ : ∃ x, x = W9.heap.size := ⟨_, rfl⟩
        have hl9a : W9.heap.size ≤ lo9 := by omega
        have hl9b : lo9 ≤ W9.heap.size := by omega
        have hl9 : lo ≤ lo9 := by have := hg.size; omega
        have hI0 : GR lo9 fs i (some ⟨W9.heap.size, 0, none⟩) 1 [i] (W9.alloc (.cells #[.int .i64 (i : Int)] 3)) :=
          ⟨Grw.one hlt hd, own_litAt W9 lo9 [.int .i64 (i : Int)] 3 [(i : Int)] _ rfl (by omega) (by simp [maxLen]) (row_ints _ _ _)⟩
        have g90 := gr_alloc (World.grownBy.refl W9 none) (.cells #[.int .i64 (i : Int)] 3)
        clear hlo9
        replace hD := hide hD
        replace hO := hide hO
        go_wp2_with fail
        go_loopw [6, 7] (fun o a wx => ∃ (g : List Nat) (A : Option Addr) (c a' : Nat), a' ≤ g.length ∧ a = .int .i64 a' ∧ o = .slice A (gi g).length c ∧ ClG fs g a' ∧ GR lo9 fs i A c g wx ∧ W9.grownBy wx none) (fun _ a _ => fs.length - (intOf a).toNat)
        case atStart => exact ⟨[i], _, 1, 0, by simp, rfl, rfl, ClG.zero _ _, hI0, g90⟩
        case round =>
          clear hI0 g90
          obtain ⟨g, A4, c4, a, ha, rfl, rfl, hC, hI, hgx⟩ := hrel
          have hgl := hI.len
          have hgm : (gi g).length ≤ g.length := by rw [gi_len]; exact Nat.le_refl _
          have hgn : g.length ≤ (gi g).length := by rw [gi_len]; exact Nat.le_refl _
          by_cases hag : a < (gi g).length
          · obtain ⟨x, hx⟩ : ∃ x, g[a]? = some x := ⟨_, List.getElem?_eq_getElem (by omega)⟩
            have hxl : x < fs.length := hI.grw.lt (List.mem_of_getElem? hx)
            replace hx := hide hx
            have b2 := hgx.k b1
            have hCZ := ClR.zero fs g x
            have hal : a < g.length := by omega
            go_wp2_with fail
            go_loopw [6, 30] (fun o j wy => ∃ (g : List Nat) (A : Option Addr) (c j' : Nat), j' ≤ fs.length ∧ j = .int .i64 j' ∧ o = .slice A (gi g).length c ∧ a < g.length ∧ Hid (g[a]? = some x) ∧ ClG fs g a ∧ ClR fs g x j' ∧ GR lo9 fs i A c g wy ∧ W9.grownBy wy none) (fun _ j _ => fs.length - (intOf j).toNat)
            case atStart => exact ⟨g, A4, c4, 0, Nat.zero_le _, rfl, rfl, hal, hx, hC, hCZ, hI, hgx⟩
            case round =>
              clear hCZ hI hgx hx hC hal hgl hgm hgn hag ha b2
              obtain ⟨g, A4, c4, j, hj, rfl, rfl, hal, hx, hC, hCR, hI, hgx⟩ := hrel
              have b2 := hgx.k b1
              have hgl := hI.len
              by_cases hjl : j < fs.length
              · have hga : a < (gi g).length := by rw [gi_len]; exact hal
                have hxm : x ∈ g := List.mem_of_getElem? hx.out
                have hwr := gr_trans hg0 (gr_trans hg hgx)
                have hCt := containsInt_any A4 c4 (gi g) j
                rw [memB_gi] at hCt
                replace hCt := hide hCt
                have hOw := hI.ow
                obtain ⟨gA, rfl, hca⟩ := hI.cell hga hx.out
                obtain ⟨gB, oB, cx, rfl, hb0, hb1, rfl, hc⟩ := (hfs.pure hwr).at_ (by decide) hxl
                have v0 : wr.cell? ⟨gB, oB + x * 3, none⟩ = some (.int .i64 fs[x].a) := hc 0 _ rfl
                have v1 : wr.cell? ⟨gB, oB + x * 3 + 1, none⟩ = some (.int .i64 fs[x].b) := hc 1 _ rfl
                have v2 : wr.cell? ⟨gB, oB + x * 3 + 2, none⟩ = some (.int .i64 fs[x].c) := hc 2 _ rfl
                clear hc hb0 hb1
                obtain ⟨gB2, oB2, cx, hAB, hb0, hb1, rfl, hc⟩ := (hfs.pure hwr).at_ (by decide) hjl
                injection hAB with hAB
                injection hAB with e1 e2 e3
                subst e1 e2
                clear e3
                have u0 : wr.cell? ⟨gB, oB + j * 3, none⟩ = some (.int .i64 fs[j].a) := hc 0 _ rfl
                have u1 : wr.cell? ⟨gB, oB + j * 3 + 1, none⟩ = some (.int .i64 fs[j].b) := hc 1 _ rfl
                have u2 : wr.cell? ⟨gB, oB + j * 3 + 2, none⟩ = some (.int .i64 fs[j].c) := hc 2 _ rfl
                clear hc hb0 hb1
                have had : Hid (2 ≤ comN fs[x] fs[j] ↔ adjF fs x j) := by
                  rw [Hid, com_adj (hdist.out _ (List.getElem_mem hxl))]
                  unfold adjF
                  simp only [fcAt, List.getD_eq_getElem?_getD, List.getElem?_eq_getElem hxl, List.getElem?_eq_getElem hjl, Option.getD_some]
                generalize fs[x] = f at *
                generalize fs[j] = f2 at *
                have hXa := gr_alloc (World.grownBy.refl wr none) (.cells #[.int .i64 f2.a, .int .i64 f2.b, .int .i64 f2.c] 58)
                have x0 : (wr.alloc (.cells #[.int .i64 f2.a, .int .i64 f2.b, .int .i64 f2.c] 58)).cell? ⟨wr.heap.size, 0, none⟩ = some (.int .i64 f2.a) := by go_simp
                have x1 : (wr.alloc (.cells #[.int .i64 f2.a, .int .i64 f2.b, .int .i64 f2.c] 58)).cell? ⟨wr.heap.size, 1, none⟩ = some (.int .i64 f2.b) := by go_simp
                have x2 : (wr.alloc (.cells #[.int .i64 f2.a, .int .i64 f2.b, .int .i64 f2.c] 58)).cell? ⟨wr.heap.size, 2, none⟩ = some (.int .i64 f2.c) := by go_simp
                have hIx := hI.pure hXa
                have hgxx := gr_trans hgx hXa
                replace b2 := hXa.k b2
                replace hca := hXa.k hca
                go_upto_region 14 with fail
                replace v0 := hXa.k v0
                replace v1 := hXa.k v1
                replace v2 := hXa.k v2
                generalize wr.heap.size = y9 at *
                generalize wr.alloc (.cells #[.int .i64 f2.a, .int .i64 f2.b, .int .i64 f2.c] 58) = WX at *
                clear u0 u1 u2 hXa hI hgx hOw
                have hCt2 := fun W (hg : WX.grownBy W none) => hCt.out W ((hIx.ow.sl.mono (Nat.zero_le _)).pure hg)
                clear hCt
                by_cases hin : j ∈ g
                · rw [decide_eq_true hin] at hCt2
                  have hC1 := hCR.next (fun _ => hin)
                  clear had hin
                  replace hCt2 := hide hCt2
                  refine wp_region_tree (fun wx => WX.grownBy wx none) [2, 2, 0, 2, 2, 2, 1, 2, 2, 2, 1, 2, 1, 1, 0, 2, 2] (.bl 0 (.bl 1 (.ef 2 (.bl 3 (.bl 4 (.bl 5 (.bl 6 (.bl 7 (.bl 8 (.bl 9 (.bl 10 (.bl 11 (.bl 12 (.bl 13 (.ef 14 (.bl 15 (.bl 16 .done))))))))))))))))) (by kernel_rfl) (by kernel_rfl) (gr_drew (World.grownBy.refl _ _)) ?_
                  refine tree_p rfl rfl rfl rfl _ rfl (by simp) (fun K hK => ?_)
                  apply Exists.intro
                  refine ⟨fun wq K' hK' => ?_, ?_⟩
                  · go_wp2_with fail
                    exact hK'
                  go_simp
                  refine hK _ ?_
                  clear hK K
                  refine tree_p rfl rfl rfl rfl _ rfl (by simp) (fun K hK => ?_)
                  apply Exists.intro
                  refine ⟨fun wq K' hK' => ?_, ?_⟩
                  · go_wp2_with fail
                    exact hK'
                  go_simp
                  refine hK _ ?_
                  clear hK K
                  refine tree_e rfl rfl (fun K hK => ?_)
                  go_wp2_with fail
                  refine (hCt2.out _ (gr_drew (World.grownBy.refl _ _))).mono ?_
                  rintro e w5 ⟨rfl, rfl⟩
                  go_wp2_with fail
                  try go_simp
                  refine hK _ _ (gr_drew (World.grownBy.refl _ _)) ?_
                  clear hK K
                  refine tree_p rfl rfl rfl rfl _ rfl (by simp) (fun K hK => ?_)
                  apply Exists.intro
                  refine ⟨fun wq K' hK' => ?_, ?_⟩
                  · go_wp2_with fail
                    exact hK'
                  go_simp
                  refine hK _ ?_
                  clear hK K
                  refine tree_p rfl rfl rfl rfl _ rfl (by simp) (fun K hK => ?_)
                  apply Exists.intro
                  refine ⟨fun wq K' hK' => ?_, ?_⟩
                  · go_wp2_with fail
                    exact hK'
                  go_simp
                  refine hK _ ?_
                  clear hK K
                  refine tree_skip rfl rfl ?_
                  try go_simp
                  refine tree_skip rfl rfl ?_
                  try go_simp
                  refine tree_skip rfl rfl ?_
                  try go_simp
                  refine tree_skip rfl rfl ?_
                  try go_simp
                  refine tree_skip rfl rfl ?_
                  try go_simp
                  refine tree_skip rfl rfl ?_
                  try go_simp
                  refine tree_skip rfl rfl ?_
                  try go_simp
                  refine tree_skip rfl rfl ?_
                  try go_simp
                  refine tree_skip rfl rfl ?_
                  try go_simp
                  refine tree_eskip0 (by kernel_rfl) rfl rfl ?_
                  try go_simp
                  refine tree_skip rfl rfl ?_
                  try go_simp
                  refine tree_p rfl rfl rfl rfl _ rfl (by simp) (fun K hK => ?_)
                  apply Exists.intro
                  refine ⟨fun wq K' hK' => ?_, ?_⟩
                  · go_wp2_with fail
                    exact hK'
                  go_simp
                  refine hK _ ?_
                  clear hK K
                  refine tree_done ?_
                  go_wp2_with fail
                  (go_roundw; (case rel => exact ⟨g, some ⟨gA, 0, none⟩, c4, j + 1, by omega, by go_num, rfl, hal, hx, hC, hC1, hIx.pure (gr_drew (World.grownBy.refl _ _)), gr_drew hgxx⟩); (case measure => simp [intOf]; omega))
                · rw [decide_eq_false hin] at hCt2
                  replace hCt2 := hide hCt2
                  have hCm := fun W => common_any f f2 W
                  by_cases hX : 2 ≤ comN f f2
                  · have hadj := had.out.1 hX
                    have hX2 : decide (2 ≤ comN f f2) = true := decide_eq_true hX
                    have hgrw := hIx.grw.snoc hxm hjl hadj hin
                    have hC1 := (hCR.snoc (k := j)).next (fun _ => by simp)
                    have hx1 : Hid ((g ++ [j])[a]? = some x) := by rw [Hid, List.getElem?_append_left hal]; exact hx.out
                    have hC2 := hC.snoc (k := j) (by omega)
                    have hln : (gi (g ++ [j])).length ≤ (gi g).length + 1 := by rw [gi_snoc]; simp
                    have hln2 : (gi g).length + 1 ≤ (gi (g ++ [j])).length := by rw [gi_snoc]; simp
                    clear had hin hX
                    generalize comN f f2 = X at *
                    replace hCm := hide hCm
                    refine wp_region_tree (fun wx => WX.grownBy wx none) [2, 2, 0, 2, 2, 2, 1, 2, 2, 2, 1, 2, 1, 1, 0, 2, 2] (.bl 0 (.bl 1 (.ef 2 (.bl 3 (.bl 4 (.bl 5 (.bl 6 (.bl 7 (.bl 8 (.bl 9 (.bl 10 (.bl 11 (.bl 12 (.bl 13 (.ef 14 (.bl 15 (.bl 16 .done))))))))))))))))) (by kernel_rfl) (by kernel_rfl) (gr_drew (World.grownBy.refl _ _)) ?_
                    refine tree_p rfl rfl rfl rfl _ rfl (by simp) (fun K hK => ?_)
                    apply Exists.intro
                    refine ⟨fun wq K' hK' => ?_, ?_⟩
                    · go_wp2_with fail
                      exact hK'
                    go_simp
                    refine hK _ ?_
                    clear hK K
                    refine tree_p rfl rfl rfl rfl _ rfl (by simp) (fun K hK => ?_)
                    apply Exists.intro
                    refine ⟨fun wq K' hK' => ?_, ?_⟩
                    · go_wp2_with fail
                      exact hK'
                    go_simp
                    refine hK _ ?_
                    clear hK K
                    refine tree_e rfl rfl (fun K hK => ?_)
                    go_wp2_with fail
                    refine (hCt2.out _ (gr_drew (World.grownBy.refl _ _))).mono ?_
                    rintro e w5 ⟨rfl, rfl⟩
                    go_wp2_with fail
                    try go_simp
                    refine hK _ _ (gr_drew (World.grownBy.refl _ _)) ?_
                    clear hK K
                    refine tree_p rfl rfl rfl rfl _ rfl (by simp) (fun K hK => ?_)
                    apply Exists.intro
                    refine ⟨fun wq K' hK' => ?_, ?_⟩
                    · go_wp2_with fail
                      exact hK'
                    go_simp
                    refine hK _ ?_
                    clear hK K
                    refine tree_p rfl rfl rfl rfl _ rfl (by simp) (fun K hK => ?_)
                    apply Exists.intro
                    refine ⟨fun wq K' hK' => ?_, ?_⟩
                    · go_wp2_with fail
                      exact hK'
                    go_simp
                    refine hK _ ?_
                    clear hK K
                    refine tree_p rfl rfl rfl rfl _ rfl (by simp) (fun K hK => ?_)
                    apply Exists.intro
                    refine ⟨fun wq K' hK' => ?_, ?_⟩
                    · go_wp2_with fail
                      exact hK'
                    go_simp
                    refine hK _ ?_
                    clear hK K
                    refine tree_b rfl rfl rfl rfl _ rfl (by simp) (fun K hK => ?_)
                    apply Exists.intro
                    refine ⟨fun wq hq K' hK' => ?_, ?_⟩
                    · have q1 := hq.k b2
                      have q2 := hq.k hca
                      have q3 := hq.k v0
                      have q4 := hq.k v1
                      have q5 := hq.k v2
                      have q6 := hq.k x0
                      have q7 := hq.k x1
                      have q8 := hq.k x2
                      go_wp2_with fail
                      exact hK'
                    go_simp
                    refine hK _ ?_
                    clear hK K
                    refine tree_p rfl rfl rfl rfl _ rfl (by simp) (fun K hK => ?_)
                    apply Exists.intro
                    refine ⟨fun wq K' hK' => ?_, ?_⟩
                    · go_wp2_with fail
                      exact hK'
                    go_simp
                    refine hK _ ?_
                    clear hK K
                    refine tree_p rfl rfl rfl rfl _ rfl (by simp) (fun K hK => ?_)
                    apply Exists.intro
                    refine ⟨fun wq K' hK' => ?_, ?_⟩
                    · go_wp2_with fail
                      exact hK'
                    go_simp
                    refine hK _ ?_
                    clear hK K
                    refine tree_p rfl rfl rfl rfl _ rfl (by simp) (fun K hK => ?_)
                    apply Exists.intro
                    refine ⟨fun wq K' hK' => ?_, ?_⟩
                    · go_wp2_with fail
                      exact hK'
                    go_simp
                    refine hK _ ?_
                    clear hK K
                    refine tree_b rfl rfl rfl rfl _ rfl (by simp) (fun K hK => ?_)
                    apply Exists.intro
                    refine ⟨fun wq hq K' hK' => ?_, ?_⟩
                    · have q1 := hq.k b2
                      have q2 := hq.k hca
                      have q3 := hq.k v0
                      have q4 := hq.k v1
                      have q5 := hq.k v2
                      have q6 := hq.k x0
                      have q7 := hq.k x1
                      have q8 := hq.k x2
                      go_wp2_with fail
                      exact hK'
                    go_simp
                    refine hK _ ?_
                    clear hK K
                    refine tree_p rfl rfl rfl rfl _ rfl (by simp) (fun K hK => ?_)
                    apply Exists.intro
                    refine ⟨fun wq K' hK' => ?_, ?_⟩
                    · go_wp2_with fail
                      exact hK'
                    go_simp
                    refine hK _ ?_
                    clear hK K
                    refine tree_b rfl rfl rfl rfl _ rfl (by simp) (fun K hK => ?_)
                    apply Exists.intro
                    refine ⟨fun wq hq K' hK' => ?_, ?_⟩
                    · have q1 := hq.k b2
                      have q2 := hq.k hca
                      have q3 := hq.k v0
                      have q4 := hq.k v1
                      have q5 := hq.k v2
                      have q6 := hq.k x0
                      have q7 := hq.k x1
                      have q8 := hq.k x2
                      go_wp2_with fail
                      exact hK'
                    go_simp
                    refine hK _ ?_
                    clear hK K
                    refine tree_b rfl rfl rfl rfl _ rfl (by simp) (fun K hK => ?_)
                    apply Exists.intro
                    refine ⟨fun wq hq K' hK' => ?_, ?_⟩
                    · have q1 := hq.k b2
                      have q2 := hq.k hca
                      have q3 := hq.k v0
                      have q4 := hq.k v1
                      have q5 := hq.k v2
                      have q6 := hq.k x0
                      have q7 := hq.k x1
                      have q8 := hq.k x2
                      go_wp2_with fail
                      exact hK'
                    go_simp
                    refine hK _ ?_
                    clear hK K
                    refine tree_e0 (by kernel_rfl) rfl rfl (fun K hK => ?_)
                    go_wp2_with fail
                    refine (hCm.out _).mono ?_
                    rintro e w6 ⟨rfl, hg6⟩
                    have hg7 := gr_trans (gr_drew (World.grownBy.refl WX none)) hg6
                    go_wp2_with fail
                    try go_simp
                    refine hK _ _ trivial ?_
                    clear hK K
                    refine tree_p rfl rfl rfl rfl _ rfl (by simp) (fun K hK => ?_)
                    apply Exists.intro
                    refine ⟨fun wq K' hK' => ?_, ?_⟩
                    · go_wp2_with fail
                      exact hK'
                    go_simp
                    refine hK _ ?_
                    clear hK K
                    refine tree_p rfl rfl rfl rfl _ rfl (by simp) (fun K hK => ?_)
                    apply Exists.intro
                    refine ⟨fun wq K' hK' => ?_, ?_⟩
                    · go_wp2_with fail
                      exact hK'
                    go_simp
                    refine hK _ ?_
                    clear hK K
                    refine tree_done ?_
                    have hOw2 := hIx.ow.pure hg7
                    have hsz : lo9 ≤ w6.heap.size := Nat.le_trans hl9b (gr_trans hgxx hg7).size
                    obtain ⟨i0, hi0, hz, hi1, hi3⟩ := info_parts info_int
                    go_wp2_with (at_builtin; refine wpList_pushAt (α := Int) _ rfl (.tmp 52) (.tmp 54) _ rfl lo9 3 i0 _ 8 Tryz.underlying22 hi0 hz hi1 hi3 rfl (some ⟨gA, 0, none⟩) _ c4 (gi g) rfl rfl (by exact hOw2.pure (gr_alloc (World.grownBy.refl _ _) _)) 0 ⟨_, 0, none⟩ 1 1 [(j : Int)] rfl rfl (by exact sl_int1 _ _ _ _ (by first | rfl | simp)) ?c2 ?c3 ?c4 ?_)
                    case c2 => simp; omega
                    case c3 => simp [maxLen]; omega
                    case c4 => simp; omega
                    intro A6 c6 w8 ho8 hG8
                    have hI8 : GR lo9 fs i A6 c6 (g ++ [j]) w8 := ⟨hgrw, by rw [gi_snoc]; exact ho8⟩
                    have hg8 := gr_row (gr_trans (gr_trans hgxx hg7) (gr_alloc (World.grownBy.refl _ none) _)) hG8.1 (fun b e => Nat.le_trans hl9a (hOw2.blk_lt e).1)
                    have hln3 : (gi g).length + 1 = (gi (g ++ [j])).length := by omega
                    clear hOw2 ho8 hG8 hgrw
                    replace hln3 := hide hln3
                    go_wp2_with fail
                    (go_roundw; (case rel => exact ⟨g ++ [j], A6, c6, j + 1, by omega, by go_num, by rw [hln3.out], by simp; omega, hx1, hC2, hC1, hI8, hg8⟩); (case measure => simp [intOf]; omega))
                  · have hX2 : decide (2 ≤ comN f f2) = false := decide_eq_false hX
                    have hC1 := hCR.next (fun h => absurd (had.out.2 h) hX)
                    clear had hin hX
                    generalize comN f f2 = X at *
                    replace hCm := hide hCm
                    refine wp_region_tree (fun wx => WX.grownBy wx none) [2, 2, 0, 2, 2, 2, 1, 2, 2, 2, 1, 2, 1, 1, 0, 2, 2] (.bl 0 (.bl 1 (.ef 2 (.bl 3 (.bl 4 (.bl 5 (.bl 6 (.bl 7 (.bl 8 (.bl 9 (.bl 10 (.bl 11 (.bl 12 (.bl 13 (.ef 14 (.bl 15 (.bl 16 .done))))))))))))))))) (by kernel_rfl) (by kernel_rfl) (gr_drew (World.grownBy.refl _ _)) ?_
                    refine tree_p rfl rfl rfl rfl _ rfl (by simp) (fun K hK => ?_)
                    apply Exists.intro
                    refine ⟨fun wq K' hK' => ?_, ?_⟩
                    · go_wp2_with fail
                      exact hK'
                    go_simp
                    refine hK _ ?_
                    clear hK K
                    refine tree_p rfl rfl rfl rfl _ rfl (by simp) (fun K hK => ?_)
                    apply Exists.intro
                    refine ⟨fun wq K' hK' => ?_, ?_⟩
                    · go_wp2_with fail
                      exact hK'
                    go_simp
                    refine hK _ ?_
                    clear hK K
                    refine tree_e rfl rfl (fun K hK => ?_)
                    go_wp2_with fail
                    refine (hCt2.out _ (gr_drew (World.grownBy.refl _ _))).mono ?_
                    rintro e w5 ⟨rfl, rfl⟩
                    go_wp2_with fail
                    try go_simp
                    refine hK _ _ (gr_drew (World.grownBy.refl _ _)) ?_
                    clear hK K
                    refine tree_p rfl rfl rfl rfl _ rfl (by simp) (fun K hK => ?_)
                    apply Exists.intro
                    refine ⟨fun wq K' hK' => ?_, ?_⟩
                    · go_wp2_with fail
                      exact hK'
                    go_simp
                    refine hK _ ?_
                    clear hK K
                    refine tree_p rfl rfl rfl rfl _ rfl (by simp) (fun K hK => ?_)
                    apply Exists.intro
                    refine ⟨fun wq K' hK' => ?_, ?_⟩
                    · go_wp2_with fail
                      exact hK'
                    go_simp
                    refine hK _ ?_
                    clear hK K
                    refine tree_p rfl rfl rfl rfl _ rfl (by simp) (fun K hK => ?_)
                    apply Exists.intro
                    refine ⟨fun wq K' hK' => ?_, ?_⟩
                    · go_wp2_with fail
                      exact hK'
                    go_simp
                    refine hK _ ?_
                    clear hK K
                    refine tree_b rfl rfl rfl rfl _ rfl (by simp) (fun K hK => ?_)
                    apply Exists.intro
                    refine ⟨fun wq hq K' hK' => ?_, ?_⟩
                    · have q1 := hq.k b2
                      have q2 := hq.k hca
                      have q3 := hq.k v0
                      have q4 := hq.k v1
                      have q5 := hq.k v2
                      have q6 := hq.k x0
                      have q7 := hq.k x1
                      have q8 := hq.k x2
                      go_wp2_with fail
                      exact hK'
                    go_simp
                    refine hK _ ?_
                    clear hK K
                    refine tree_p rfl rfl rfl rfl _ rfl (by simp) (fun K hK => ?_)
                    apply Exists.intro
                    refine ⟨fun wq K' hK' => ?_, ?_⟩
                    · go_wp2_with fail
                      exact hK'
                    go_simp
                    refine hK _ ?_
                    clear hK K
                    refine tree_p rfl rfl rfl rfl _ rfl (by simp) (fun K hK => ?_)
                    apply Exists.intro
                    refine ⟨fun wq K' hK' => ?_, ?_⟩
                    · go_wp2_with fail
                      exact hK'
                    go_simp
                    refine hK _ ?_
                    clear hK K
                    refine tree_p rfl rfl rfl rfl _ rfl (by simp) (fun K hK => ?_)
                    apply Exists.intro
                    refine ⟨fun wq K' hK' => ?_, ?_⟩
                    · go_wp2_with fail
                      exact hK'
                    go_simp
                    refine hK _ ?_
                    clear hK K
                    refine tree_b rfl rfl rfl rfl _ rfl (by simp) (fun K hK => ?_)
                    apply Exists.intro
                    refine ⟨fun wq hq K' hK' => ?_, ?_⟩
                    · have q1 := hq.k b2
                      have q2 := hq.k hca
                      have q3 := hq.k v0
                      have q4 := hq.k v1
                      have q5 := hq.k v2
                      have q6 := hq.k x0
                      have q7 := hq.k x1
                      have q8 := hq.k x2
                      go_wp2_with fail
                      exact hK'
                    go_simp
                    refine hK _ ?_
                    clear hK K
                    refine tree_p rfl rfl rfl rfl _ rfl (by simp) (fun K hK => ?_)
                    apply Exists.intro
                    refine ⟨fun wq K' hK' => ?_, ?_⟩
                    · go_wp2_with fail
                      exact hK'
                    go_simp
                    refine hK _ ?_
                    clear hK K
                    refine tree_b rfl rfl rfl rfl _ rfl (by simp) (fun K hK => ?_)
                    apply Exists.intro
                    refine ⟨fun wq hq K' hK' => ?_, ?_⟩
                    · have q1 := hq.k b2
                      have q2 := hq.k hca
                      have q3 := hq.k v0
                      have q4 := hq.k v1
                      have q5 := hq.k v2
                      have q6 := hq.k x0
                      have q7 := hq.k x1
                      have q8 := hq.k x2
                      go_wp2_with fail
                      exact hK'
                    go_simp
                    refine hK _ ?_
                    clear hK K
                    refine tree_b rfl rfl rfl rfl _ rfl (by simp) (fun K hK => ?_)
                    apply Exists.intro
                    refine ⟨fun wq hq K' hK' => ?_, ?_⟩
                    · have q1 := hq.k b2
                      have q2 := hq.k hca
                      have q3 := hq.k v0
                      have q4 := hq.k v1
                      have q5 := hq.k v2
                      have q6 := hq.k x0
                      have q7 := hq.k x1
                      have q8 := hq.k x2
                      go_wp2_with fail
                      exact hK'
                    go_simp
                    refine hK _ ?_
                    clear hK K
                    refine tree_e0 (by kernel_rfl) rfl rfl (fun K hK => ?_)
                    go_wp2_with fail
                    refine (hCm.out _).mono ?_
                    rintro e w6 ⟨rfl, hg6⟩
                    have hg7 := gr_trans (gr_drew (World.grownBy.refl WX none)) hg6
                    go_wp2_with fail
                    try go_simp
                    refine hK _ _ trivial ?_
                    clear hK K
                    refine tree_p rfl rfl rfl rfl _ rfl (by simp) (fun K hK => ?_)
                    apply Exists.intro
                    refine ⟨fun wq K' hK' => ?_, ?_⟩
                    · go_wp2_with fail
                      exact hK'
                    go_simp
                    refine hK _ ?_
                    clear hK K
                    refine tree_p rfl rfl rfl rfl _ rfl (by simp) (fun K hK => ?_)
                    apply Exists.intro
                    refine ⟨fun wq K' hK' => ?_, ?_⟩
                    · go_wp2_with fail
                      exact hK'
                    go_simp
                    refine hK _ ?_
                    clear hK K
                    refine tree_done ?_
                    go_wp2_with fail
                    (go_roundw; (case rel => exact ⟨g, some ⟨gA, 0, none⟩, c4, j + 1, by omega, by go_num, rfl, hal, hx, hC, hC1, hIx.pure hg7, gr_trans hgxx hg7⟩); (case measure => simp [intOf]; omega))
              · have hje : j = fs.length := by omega
                subst hje
                have hax : g[a] = x := by have h := hx.out; rw [List.getElem?_eq_getElem hal] at h; injection h
                have hC1 := ClG.nextR hC hal hax hCR
                clear hax
                rw [gi_len] at hgl
                go_wp2_with fail
                (go_roundw; (case rel => exact ⟨g, A4, c4, a + 1, by omega, by go_num, rfl, hC1, hI, hgx⟩); (case measure => simp [intOf]; omega))
          · have hae : a = g.length := by omega
            subst hae
            have hcl := fun (l : List Int) hp hs => hI.grw.sorted hC (l := l) hp hs
            have hDn := hDI.new hI.grw hC
            obtain ⟨gA, rfl, hgA⟩ := hI.addr
            have hgA2 := (hI.ow.blk_lt (g := gA) rfl).2
            have hDx := hD.out.pure hgx
            have hDb : Hid (∀ b, blk AD = some b → lo ≤ b ∧ b < lo9) := fun b e => ⟨(hD.out.blk_lt e).1, Nat.lt_of_lt_of_le (hD.out.blk_lt e).2 hl9a⟩
            have hIo := hI.ow
            have hsz6 := hgx.size
            obtain ⟨i0, hi0, hz, hi1, hi3⟩ := info_parts info_int
            go_wp2_with (at_builtin; refine wpList_pushAt (α := Int) _ rfl (.tmp 57) (.tmp 58) _ rfl lo 3 i0 _ 8 Tryz.underlying22 hi0 hz hi1 hi3 rfl AD _ cD D rfl rfl hDx 0 ⟨gA, 0, none⟩ _ _ (gi g) rfl rfl (hIo.sl.mono (Nat.zero_le _)) ?c2 ?c3 ?c4 ?_)
            case c2 => omega
            case c3 => simp only [maxLen]; omega
            case c4 => omega
            intro A6 c6 w6 hD6 hG6
            have hgr6 := hIo.ne hG6.1 (fun b hb e => by have h1 : gA = b := by simpa [blk] using hb
                                                        have := hDb.out b e
                                                        omega)
            have hsrt := hide (sortInts_any gA c4 lo9 (gi g) w6 hgr6 (by omega))
            go_wp2_with fail
            refine hsrt.out.mono ?_
            rintro e w7 ⟨rfl, l', hp, hs, ho7, hg7⟩
            clear hsrt hgr6 hIo
            have hl7 := hp.length_eq
            have e7 := hcl _ hp hs
            rw [e7] at ho7 hl7
            clear e7 hp hs hcl
            have hgAll := gr_new (gr_trans (gr_any hgx) hG6.1) hg7 (by omega)
            have hA6 : blk A6 = blk AD ∨ ∃ g, blk A6 = some g ∧ W9.heap.size ≤ g := by
              rcases hG6.2 with q | q
              · exact .inl q
              · exact .inr ⟨_, q, hsz6⟩
            have hAg : Hid (blk A6 ≠ some gA) := fun e => by
              rcases hG6.2 with q | q
              · rw [q] at e; have := hDb.out _ e; omega
              · rw [q] at e; injection e with e; omega
            have hO7 := OwnID.step hO.out hD.out (by decide) hgAll hA6
            have hD7 := hD6.ne hg7 (fun b hb e => hAg.out (by rw [hb]; exact e.symm))
            obtain ⟨raws0, hOr0, hOa0⟩ := hO.out
            have hOA : Hid (∀ b, blk O = some b → lo ≤ b ∧ b < lo9) := fun b e => ⟨(hOr0.blk_lt e).1, Nat.lt_of_lt_of_le (hOr0.blk_lt e).2 hl9a⟩
            clear hOr0 hOa0
            have hg6 := gr_row (gr_trans hg hgx) hG6.1 (fun b e => Nat.le_trans hlo2 (hDb.out b e).1)
            have hg77 := gr_new hg6 hg7 (by omega)
            obtain ⟨raws, hOr, hOa⟩ := hO7
            have hrl : Hid ((shellsI fs i).length = raws.length) := hOa.len.symm
            have hrn : raws.length ≤ 1000 := by have h1 := hOa.len; have h2 := shellsI_len fs i; omega
            have hlN : Hid (raws.length + 1 = (shellsI fs (i + 1)).length) := by rw [Hid, shellsI_new hd, List.length_append, ← hOa.len]; rfl
            have hal7 := gr_alloc (World.grownBy.refl w7 none) (.cells #[.slice (some ⟨gA, 0, none⟩) (gi g).length c4] 22)
            have hNew : NOkI (w7.alloc (.cells #[.slice (some ⟨gA, 0, none⟩) (gi g).length c4] 22)) lo O ⟨some ⟨gA, 0, none⟩, (gi g).length, c4⟩ (gi (compF fs i)) := by
              have hc7 := ho7.cap
              have hb7 := (ho7.blk_lt (g := gA) rfl).2
              refine NOkI.gr ⟨⟨⟨hl7.symm, by rw [← hl7]; exact hc7, ho7.sl.mono hl9, fun b hb => ?_⟩, fun b hb e => ?_⟩, ThawI.own ho7⟩ hal7 (fun _ _ e => by cases e)
              · have h1 : gA = b := by simpa [blk] using hb
                omega
              · have h1 : gA = b := by simpa [blk, NestOf.adr] using hb
                have := hOA.out b e
                omega
            have hNr : Hid (∀ b, blk (⟨some ⟨gA, 0, none⟩, (gi g).length, c4⟩ : RawS).A = some b → blk A6 ≠ some b) := fun b hb e => by
              have h1 : gA = b := by simpa [blk] using hb
              rw [← h1] at e
              exact hAg.out e
            replace hl7 := hide hl7
            replace hNew := hide hNew
            have hOa2 := hOa.imp fun r x (hx : NOkI w7 lo O r x ∧ ∀ g, blk r.A = some g → blk A6 ≠ some g) => (⟨NOkI.gr hx.1 hal7 (fun _ _ e => by cases e), hx.2⟩ : NOkI (w7.alloc (.cells #[.slice (some ⟨gA, 0, none⟩) (gi g).length c4] 22)) lo O r x ∧ ∀ g, blk r.A = some g → blk A6 ≠ some g)
            have hOr2 := hOr.pure hal7
            have hD72 := hD7.pure hal7
            clear hOa hOr hD7 hD6 hgAll hA6 hDx
            obtain ⟨j0, hj0, hjz, hj1, hj3⟩ := info_parts info_intsS
            go_wp2_with (at_builtin; refine wpList_pushAt (α := RawS) _ rfl (.tmp 62) (.tmp 64) _ rfl lo 22 j0 _ 24 Tryz.underlying41 hj0 hjz hj1 hj3 rfl O _ co raws rfl hrl.out hOr2 0 ⟨_, 0, none⟩ 1 1 [⟨some ⟨gA, 0, none⟩, (gi g).length, c4⟩] rfl rfl (by exact sl_oneAt _ 0 [.slice (some ⟨gA, 0, none⟩) (gi g).length c4] _ _ _ (by first | rfl | simp) (Nat.zero_le _) rfl) ?d2 ?d3 ?d4 ?_)
            case d2 => simp; omega
            case d3 => simp [maxLen]; omega
            case d4 => have := hg77.size; simp; omega
            intro A8 c8 w8 hO8 hG8
            have hO9 := OwnID.push hOa2 hO8 hG8 hNew.out hNr.out
            rw [← shellsI_new hd] at hO9
            have hD8 := hD72.ne hG8.1 (fun b hb e => hD72.ne_own hOr2 (by decide) hb e)
            have hg8 := gr_row (gr_trans hg77 hal7) hG8.1 (fun b e => Nat.le_trans hlo2 (hOA.out b e).1)
            have hDl8 : (D ++ gi g).length ≤ 1000 * (i + 1) := by rw [List.length_append]; omega
            clear hOa2 hO8 hG8 hNew hOr2 hal7 hI hl7 hD72 hG6 hNr
            go_wp2_with fail
            (go_roundw; (case rel => exact ⟨i + 1, A8, c8, A6, c6, D ++ gi g, by omega, by go_num, by rw [hlN.out], by simp, hDn, hDl8, hD8, hO9, hg8⟩); (case measure => simp [intOf]; omega))
      · rw [hd] at hCt
        replace hCt := hide hCt
        have e1 := hide (shellsI_old hd)
        have hDI1 := hDI.old hd
        go_wp2_with fail
        refine hCt.out.mono ?_
        rintro e w5 ⟨rfl, rfl⟩
        clear hCt
        go_wp2_with fail
        (go_roundw; (case rel => exact ⟨i + 1, O, co, AD, cD, D, by omega, by go_num, by rw [e1.out], rfl, hDI1, by omega, hD, by rw [e1.out]; exact hO, hg⟩); (case measure => simp [intOf]; omega))
    · obtain rfl : i = fs.length := by omega
      go_wp2_with fail
      go_ret
      exact ⟨O, co, rfl, hO.toI.lower hlo3, gr_trans hg0 hg⟩

end Go.Proofs.YtkcchcnljanloaaGreat

/- Contracts of functions that this seat's laws reach, each: what one call returns and what it leaves in memory; no condition beyond each theorem's own hypotheses. -/
import Derived.Test.YtbgailgclflaeaaGreatDoorMReady
import Derived.Test.YtbgailgclflaeaaGreatDoorMPrintData
import Derived.Test.YtbgailgclflaeaaGreatDoorMRightP
set_option linter.unusedVariables false
set_option linter.unusedSimpArgs false
namespace Go.Proofs.YtbgailgclflaeaaGreatDoor
open Go Go.RowKit Go.Bl

set_option maxHeartbeats 4000000 in
set_option maxRecDepth 100000 in
theorem printed_law (A : Option Addr) (n c : Nat) (L : List Int) (w : World) (hL : Sl w 0 A L) (hn : L.length = n) :
    Calls Tryz.prog 4 #[.slice A n c] w fun e w' => e = .returned (.bool true) ∧ w.grownBy w' none := by
  have hs0 := strm_new (c := c) 25 hL hn
  have hg0 := gr_alloc (World.grownBy.refl w none) (.cells #[.slice A n c, .int .i64 0] 25)
  go_enter Tryz.func4, Tryz.ntmps4
  go_wp2_with fail
  refine (rightPaths_any _ 0 4 _ hs0 (by omega) (by omega)).mono ?_
  rintro e w1 ⟨l, A1, cc, rfl, hsl, hp, hl4, hp4, ho1⟩
  have hsl := hsl.mono (show w.heap.size + 1 ≤ _ by simp)
  have hp := hide hp
  have hp4 := hide hp4
  go_wp2_with fail
  go_loopw [20] (fun i wr => ∃ k : Nat, k ≤ l.length ∧ i = .int .i64 k ∧ SOut w.heap.size (6000 + k) (w.alloc (.cells #[.slice A n c, .int .i64 0] 25)) wr ∧ Sl wr (w.heap.size + 1) A1 l) (fun i _ => l.length - (intOf i).toNat)
  case atStart => exact ⟨0, Nat.zero_le _, rfl, ho1.mono (by omega), hsl⟩
  case round =>
    obtain ⟨k, hk, rfl, hS, hl⟩ := hrel
    clear hsl ho1
    by_cases hlt : k < l.length
    · have hPP := fun v w hl => points_any A1 cc l v w hl
      obtain ⟨g, o, cx, rfl, hb0, hb1, ⟨A', c', rfl, hcp, hpts⟩, hc⟩ := (hl).at_ (by decide) hlt
      have c0 : wr.cell? ⟨g, o + k * 2, none⟩ = some (.slice A' l[k].pts.length c') := hc 0 _ rfl
      have c1 : wr.cell? ⟨g, o + k * 2 + 1, none⟩ = some (.bool l[k].cl) := hc 1 _ rfl
      clear hc
      have h0 := (pathF_zero ((pathsF_zero hp.out).2 _ (List.getElem_mem hlt)))
      have hlen := hp4.out _ (List.getElem_mem hlt)
      cases hcl : l[k].cl with
      | false =>
        obtain ⟨o1, o2, o3, o4⟩ := open_points hp.out hlt h0.1 hcl
        rw [hcl] at c1
        have hP1 := fun w hl => hPP ⟨k, 0, false⟩ w hl
        have hP2 := fun w hl => hPP ⟨k, 0, true⟩ w hl
        rw [o1, o2] at hP1
        rw [o3, o4, List.length_reverse] at hP2
        clear o1 o2 o3 o4
        generalize l[k].pts = pts at *
        have hlr : Hid (pts.reverse.length = pts.length) := List.length_reverse
        have h00 := h0.1
        clear h0
        have hcl := hide hcl
        go_wp2_with fail
        refine (hP1 _ ((hl.mono (Nat.zero_le _)).pure (gr_alloc (gr_alloc (gr_alloc (World.grownBy.refl _ _) _) _) _))).mono ?_
        rintro e w2 ⟨A2, c2, rfl, hO2, h1⟩
        have b0 := (h1).k (p := ⟨wr.heap.size, 0, none⟩) (v := .slice A' pts.length c') (by go_simp)
        have b1 := (h1).k (p := ⟨wr.heap.size, 1, none⟩) (v := .bool false) (by go_simp)
        have d0 := (h1).k (p := ⟨(wr.heap.size + 1 + 1), 0, none⟩) (v := .int .i64 k) (by go_simp)
        have d1 := (h1).k (p := ⟨(wr.heap.size + 1 + 1), 1, none⟩) (v := .int .i64 0) (by go_simp)
        have d2 := (h1).k (p := ⟨(wr.heap.size + 1 + 1), 2, none⟩) (v := .bool true) (by go_simp)
        have hsz := h1.size
        simp at hsz
        replace h1 : wr.grownBy w2 none := gr_trans (gr_alloc (gr_alloc (gr_alloc (World.grownBy.refl _ _) _) _) _) h1
        replace hO2 := hO2.lower (show wr.heap.size + 1 + 1 + 1 ≤ _ by simp)
        clear hP1 c0 c1
        go_wp2_with fail
        refine (hP2 _ ((hl.mono (Nat.zero_le _)).pure h1)).mono ?_
        rintro e w3 ⟨A3, c3, rfl, hO3, h2⟩
        have b0 := h2.k b0
        have b1 := h2.k b1
        obtain ⟨g3, rfl, hg3, hg3s⟩ := hO3.shape (by rw [hlr.out]; exact h00)
        have hO2s := hO2.pure h2
        have hne : blk A2 ≠ some g3 := fun e => by have := (hO2.blk_lt e).2; omega
        clear hP2 d0 d1 d2
        go_wp2_with fail
        go_quiet (fail)
        go_wp2_with fail
        refine (reversePtN_any _ g3 _ c3 _ hlr.out _ (hO3.pure (gr_drewN (World.grownBy.refl _ _) _)) (by rw [hlr.out]; exact h00) (by rw [hlr.out]; omega)).mono ?_
        rintro e w4 ⟨⟨v, rfl⟩, hO4, h3⟩
        rw [List.reverse_reverse] at hO4
        replace h3 : w3.grownBy w4 (some g3) := gr_trans (gr_drewN (World.grownBy.refl _ _) _) h3
        have b0 := gr_cell h3 b0 (by simp; omega)
        have b1 := gr_cell h3 b1 (by simp; omega)
        have hA4 := (hO2s.sl.mono (Nat.zero_le _)).ne h3 (fun g hg e => hne (by rw [hg, e]))
        have hxb : ∀ g, blk A' = some g → g < wr.heap.size := by
          obtain ⟨gp, op, cx, hA', _, hgp, _⟩ := hpts.at_ (by decide) h00
          intro g hg
          rw [hA'] at hg
          simp [blk] at hg
          omega
        have hx4 := (((hpts.mono (Nat.zero_le _)).pure h1).pure h2).ne h3 (fun g hg e => by have := hxb g hg; injection e; omega)
        clear hxb
        have hg4 : wr.grownBy w4 none := gr_new (gr_trans h1 h2) h3 (by omega)
        clear hO2s hO2 hO3 h1 h2 h3
        have heq : Hid (eqB pts pts = true) := eqB_refl pts
        have hE1 := fun w ha hb => equalPt_any A2 c2 pts (some ⟨g3, 0, none⟩) c3 pts w ha hb
        have hE2 := fun w ha hb => equalPt_any A2 c2 pts A' c' pts w ha hb
        rw [heq.out] at hE1 hE2
        go_wp2_with fail
        refine (hE1 _ hA4 (hO4.sl.mono (Nat.zero_le _))).mono ?_
        rintro e w5 ⟨rfl, h4⟩
        have b0 := h4.k b0
        have b1 := h4.k b1
        go_wp2_with fail
        refine (hE2 _ (hA4.pure h4) (hx4.pure h4)).mono ?_
        rintro e w6 ⟨rfl, h5⟩
        go_wp2_with fail
        have hgz := gr_trans hg4 (gr_trans h4 h5)
        (go_roundw; (case rel => exact ⟨k + 1, by omega, by go_num, (hS.pure hgz).mono (by omega), hl.pure hgz⟩); (case measure => simp [intOf]; omega))
      | true =>
        have o1 := closed_points hp.out hlt (s := 0) h0.1 hcl
        have oS := fun s hs => closed_points (s := s) hp.out hlt hs hcl
        rw [hcl] at c1
        have hP1 := fun w hl => hPP ⟨k, 0, false⟩ w hl
        change oneF l ⟨k, 0, false⟩ = 0 ∧ (tPO l ⟨k, 0, false⟩).length = _ ∧ _ at o1
        obtain ⟨o1, o2, -⟩ := o1
        rw [o1, o2] at hP1
        clear o1 o2
        have hPP := hide hPP
        have oS := hide oS
        have h00 := h0.1
        clear h0
        have hcl := hide hcl
        go_wp2_with fail
        refine (next_any _ _ _ _ (hS.pure (gr_alloc (gr_alloc (gr_alloc (World.grownBy.refl _ _) _) _) _)).2 (by omega) (by omega)).mono ?_
        rintro e w2 ⟨r, rfl, ⟨r0, r1⟩, ho2⟩
        obtain ⟨s, rfl⟩ := Int.eq_ofNat_of_zero_le r0
        have hsz0 := hS.size
        simp at hsz0
        have hsz2 := ho2.size
        simp at hsz2
        have b0 := gr_cell ho2.1 (p := ⟨wr.heap.size, 0, none⟩) (v := .slice A' l[k].pts.length c') (by go_simp) (by simp; omega)
        have b1 := gr_cell ho2.1 (p := ⟨wr.heap.size, 1, none⟩) (v := .bool true) (by go_simp) (by simp; omega)
        have v0 := gr_cell ho2.1 (p := ⟨wr.heap.size + 1, 0, none⟩) (v := .int .i64 k) (by go_simp) (by simp; omega)
        have v1 := gr_cell ho2.1 (p := ⟨wr.heap.size + 1, 1, none⟩) (v := .int .i64 0) (by go_simp) (by simp; omega)
        have v2 := gr_cell ho2.1 (p := ⟨wr.heap.size + 1, 2, none⟩) (v := .bool false) (by go_simp) (by simp; omega)
        have d0 := gr_cell ho2.1 (p := ⟨wr.heap.size + 1 + 1, 0, none⟩) (v := .int .i64 k) (by go_simp) (by simp; omega)
        have d1 := gr_cell ho2.1 (p := ⟨wr.heap.size + 1 + 1, 1, none⟩) (v := .int .i64 0) (by go_simp) (by simp; omega)
        have d2 := gr_cell ho2.1 (p := ⟨wr.heap.size + 1 + 1, 2, none⟩) (v := .bool false) (by go_simp) (by simp; omega)
        have f1 := gr_froz ho2.1 (p := ⟨wr.heap.size + 1 + 1, 1, none⟩) (v := .int .i64 0) (by go_simp) (by simp; omega) (by go_simp)
        have hG2 : wr.grownBy w2 (some w.heap.size) := gr_trans (gr_alloc (gr_alloc (gr_alloc (World.grownBy.refl _ _) _) _) _) ho2.1
        have hG3 : wr.grownBy (w2.setCell ⟨wr.heap.size + 1 + 1, 1, none⟩ (.int .i64 s)) (some w.heap.size) := gr_set hG2 (.inr (by simp; omega)) _
        replace hS := ((hS.pure (gr_alloc (gr_alloc (gr_alloc (World.grownBy.refl _ _) _) _) _)).trans ho2).set (p := ⟨wr.heap.size + 1 + 1, 1, none⟩) (by simp) (by simp; omega) (.int .i64 s)
        have hl0 := hide hl
        have hGt := hG3
        replace hl := hl.gr hG3 (fun x e => by injection e; omega)
        replace hpts := hpts.gr hG3 (fun x e => by injection e; omega)
        clear hG2 hG3 ho2 c0 c1
        go_wp2_with fail
        refine (hP1 _ (hl.mono (Nat.zero_le _))).mono ?_
        rintro e w3 ⟨A2, c2, rfl, -, h1⟩
        have b0 := (h1).k (p := ⟨wr.heap.size, 0, none⟩) (v := .slice A' l[k].pts.length c') (by go_simp)
        have b1 := (h1).k (p := ⟨wr.heap.size, 1, none⟩) (v := .bool true) (by go_simp)
        have d0 := (h1).k (p := ⟨(wr.heap.size + 1 + 1), 0, none⟩) (v := .int .i64 k) (by go_simp)
        have d1 := (h1).k (p := ⟨(wr.heap.size + 1 + 1), 1, none⟩) (v := .int .i64 s) (by go_simp)
        have d2 := (h1).k (p := ⟨(wr.heap.size + 1 + 1), 2, none⟩) (v := .bool false) (by go_simp)
        have hsz3 := h1.size
        simp at hsz3
        have hss : s < l[k].pts.length := by omega
        obtain ⟨p1, p2, p3⟩ := oS.out s hss
        have hP2 := hPP.out ⟨k, s, false⟩
        rw [p1, p2] at hP2
        generalize tPO l ⟨k, s, false⟩ = T at *
        have e0 := p3 0 (by omega) (.inl rfl)
        have eN := p3 l[k].pts.length (by omega) (.inr rfl)
        clear p1 p3 oS hPP hP1 v0 v1 v2 f1
        replace hl := hl.pure h1
        replace hpts := hpts.pure h1
        replace hS := hS.pure h1
        replace hGt := gr_step hGt h1
        clear h1
        have e0 := hide e0
        have eN := hide eN
        have p2 := hide p2
        go_wp2_with fail
        refine (hP2 _ (hl.mono (Nat.zero_le _))).mono ?_
        rintro e w4 ⟨A3, c3, rfl, hO3, h2⟩
        have b0 := h2.k b0
        have b1 := h2.k b1
        have d1 := h2.k d1
        replace hl := hl.pure h2
        replace hpts := hpts.pure h2
        replace hS := hS.pure h2
        replace hGt := gr_step hGt h2
        clear h2 hP2 d0 d2
        obtain ⟨g3, rfl, hg3, hg3s⟩ := hO3.shape (by rw [p2.out]; omega)
        obtain ⟨cx, rfl, hc⟩ := hO3.cell_at (by decide) (i := 0) (by rw [p2.out]; omega)
        have t0 : w4.cell? ⟨g3, 0, none⟩ = some (.int .i64 l[k].pts[s].x) := by have := hc 0 _ rfl; rw [e0.out] at this; simpa using this
        have t1 : w4.cell? ⟨g3, 1, none⟩ = some (.int .i64 l[k].pts[s].y) := by have := hc 1 _ rfl; rw [e0.out] at this; simpa using this
        clear hc
        obtain ⟨cx, rfl, hc⟩ := hO3.cell_at (by decide) (i := l[k].pts.length) (by rw [p2.out]; omega)
        have t2 : w4.cell? ⟨g3, l[k].pts.length * 2, none⟩ = some (.int .i64 l[k].pts[s].x) := by have := hc 0 _ rfl; rw [eN.out] at this; exact this
        have t3 : w4.cell? ⟨g3, l[k].pts.length * 2 + 1, none⟩ = some (.int .i64 l[k].pts[s].y) := by have := hc 1 _ rfl; rw [eN.out] at this; exact this
        clear hc
        obtain ⟨gp, op, cx, rfl, _, _, rfl, hc⟩ := hpts.at_ (by decide) hss
        have t4 : w4.cell? ⟨gp, op + s * 2, none⟩ = some (.int .i64 l[k].pts[s].x) := hc 0 _ rfl
        have t5 : w4.cell? ⟨gp, op + s * 2 + 1, none⟩ = some (.int .i64 l[k].pts[s].y) := hc 1 _ rfl
        clear hc
        generalize l[k].pts[s] = q at *
        go_wp2_with fail
        go_quiet (fail)
        go_wp2_with fail
        refine (reversePtN_any _ g3 _ c3 _ p2.out _ (hO3.pure (gr_drewN (World.grownBy.refl _ _) _)) (by rw [p2.out]; omega) (by rw [p2.out]; omega)).mono ?_
        rintro e w5 ⟨⟨v, rfl⟩, -, h3⟩
        replace h3 : w4.grownBy w5 (some g3) := gr_trans (gr_drewN (World.grownBy.refl _ _) _) h3
        have b1 := gr_cell h3 b1 (by simp; omega)
        replace hS := hS.new (by simp) h3 (fun g e => by injection e; simp; omega)
        replace hGt := gr_row hGt h3 (fun g e => by injection e; omega)
        replace hl0 := hl0.out.gr hGt (fun x e => by injection e; omega)
        clear hl hpts hO3 h3
        go_wp2_with fail
        (go_roundw; (case rel => exact ⟨k + 1, by omega, by go_num, hS.mono (by omega), hl0⟩); (case measure => simp [intOf]; omega))
    · go_wp2_with fail
      refine (ready_any _).mono ?_
      rintro e w9 ⟨rfl, h1⟩
      go_wp2_with fail
      go_ret
      exact ⟨rfl, gr_new hg0 (hS.pure h1).1 (Nat.le_refl _)⟩

end Go.Proofs.YtbgailgclflaeaaGreatDoor

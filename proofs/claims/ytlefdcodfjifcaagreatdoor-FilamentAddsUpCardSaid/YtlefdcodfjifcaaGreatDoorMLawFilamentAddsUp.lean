/- Contracts of functions that this seat's laws reach, each: what one call returns and what it leaves in memory; no condition beyond each theorem's own hypotheses. -/
import Derived.Test.YtlefdcodfjifcaaGreatDoorMSpoolG
import Derived.Test.YtlefdcodfjifcaaGreatDoorMSpoolC
import Derived.Test.YtlefdcodfjifcaaGreatDoorMReady
import Derived.Test.YtlefdcodfjifcaaGreatDoorMSlices
set_option linter.unusedVariables false
set_option linter.unusedSimpArgs false
namespace Go.Proofs.YtlefdcodfjifcaaGreatDoor
open Go Go.RowKit Go.Bl

/-- what is gone from the first k spools -/
def goneK (s : List Spl) (L : List Int) (k : Nat) : Int := ((s.take k).map Spl.left).sum - (L.take k).sum

theorem goneK_succ {s : List Spl} {L : List Int} {k : Nat} (h : k < s.length) (h2 : k < L.length) : goneK s L (k + 1) = goneK s L k + (s[k].left - L[k]) := by
  unfold goneK
  rw [take_snoc h, take_snoc h2, List.map_append, List.sum_append, List.sum_append]
  simp; omega

theorem goneK_all (s : List Spl) (L : List Int) (h : L.length = s.length) : goneK s L s.length = (s.map Spl.left).sum - L.sum := by
  unfold goneK
  rw [List.take_length, ← h, List.take_length]

theorem drawnK_yes {bad : List Int} {d : List Drw} {k : Nat} (hk : k < d.length) (h : memB bad (k : Int) = true) : drawnK bad d (k + 1) = drawnK bad d k := by
  conv => lhs; unfold drawnK
  rw [if_pos (of_decide_eq_true h), Int.add_zero]

theorem drawnK_no {bad : List Int} {d : List Drw} {k : Nat} (hk : k < d.length) (h : memB bad (k : Int) = false) : drawnK bad d (k + 1) = drawnK bad d k + d[k].long := by
  conv => lhs; unfold drawnK
  rw [if_neg (of_decide_eq_false h), List.getD_eq_getElem?_getD, List.getElem?_eq_getElem hk, Option.getD_some]

set_option maxHeartbeats 4000000 in
set_option maxRecDepth 100000 in
theorem filamentAddsUp_law (A : Option Addr) (n c : Nat) (L : List Int) (w : World) (hL : Sl w 0 A L) (hn : L.length = n) :
    Calls Tryz.prog 6 #[.slice A n c] w fun e w' => e = .returned (.bool true) ∧ w.grownBy w' none := by
  have hs0 := strm_new (c := c) 25 hL hn
  have hg0 := gr_alloc (World.grownBy.refl w none) (.cells #[.slice A n c, .int .i64 0] 25)
  have hS0 := SOut.refl hs0
  go_enter Tryz.func6, Tryz.ntmps6
  go_wp2_with fail
  refine (spoolList_any _ 0 _ hs0 (by omega)).mono ?_
  rintro e w1 ⟨s, A1, c1, rfl, hsl, hs5, -, ho1⟩
  replace hS0 := hS0.trans ho1
  have hsz1 := ho1.size
  simp at hsz1
  go_wp2_with fail
  refine (drawList_any _ _ _ hS0.2 (by omega)).mono ?_
  rintro e w2 ⟨d, A2, c2, rfl, hdl, hd8, -, ho2⟩
  replace hS0 := hS0.trans ho2
  replace hsl := (hsl.s ho2 (Nat.lt_succ_self _)).mono (Nat.zero_le _)
  replace hdl := hdl.mono (Nat.zero_le _)
  have hgw : w.grownBy w2 none := gr_new hg0 hS0.1 (Nat.le_refl _)
  clear ho1 ho2 hS0 hs0 hg0 hL hsz1
  go_wp2_with fail
  refine (drawsFaultR_any _ _ s _ _ d _ hsl hdl).mono ?_
  rintro e w3 ⟨rfl, h1⟩
  replace hsl := hsl.pure h1
  replace hdl := hdl.pure h1
  replace hgw := gr_trans hgw h1
  clear h1
  by_cases hz : drwsF s d = 0
  · have hdz := drwsF_zero hz
    have hcut : cutK d 345686399999 = d.length := cutK_all (fun i hi => by have := (hdz.2.2 _ (List.getElem_mem hi)).1.2; omega)
    have hLf := left_any A1 c1 s A2 c2 d 345686399999 w3 hsl hdl hz (by decide)
    rw [hcut] at hLf
    have hRf := fun w4 (h : w3.grownBy w4 none) => refused_any A1 c1 s A2 c2 d w4 (hsl.pure h) (hdl.pure h) hz
    have hsum := follW_sum (s := s) (d := d) (fun x hx => (hdz.2.2 x hx).2.1) d.length (Nat.le_refl _)
    have hbd := follW_bd hdz.1 d d.length
    have hsb := (splsF_zero hdz.1).2
    have hdb : ∀ x ∈ d, -1000000000 ≤ x.long ∧ x.long ≤ 1000000000 := fun x hx => (hdz.2.2 x hx).2.2
    have hlen := (follW_len s d d.length).1
    rw [hz]
    clear hz hdz hcut
    generalize (follW s d d.length).1 = F at *
    generalize (follW s d d.length).2 = R at *
    replace hsum := hide hsum
    replace hbd := hide hbd
    replace hsb := hide hsb
    replace hdb := hide hdb
    replace hlen := hide hlen
    go_wp2_with fail
    refine hLf.mono ?_
    rintro e w4 ⟨A3, c3, rfl, hO3, h1⟩
    have hRf := hRf w4 h1
    have hF := hO3.sl.mono (Nat.zero_le _)
    clear hLf hO3
    go_wp2_with fail
    refine hRf.mono ?_
    rintro e w5 ⟨A4, c4, rfl, hO4, h2⟩
    have hR := hO4.sl.mono (Nat.zero_le _)
    replace hF := hF.pure h2
    replace hsl := (hsl.pure h1).pure h2
    replace hdl := (hdl.pure h1).pure h2
    replace hgw := (hgw.t h1).t h2
    clear hRf hO4 h1 h2
    go_wp2_with fail
    go_loopw [10, 54] (fun z i wr => ∃ (k : Nat) (t : Int), k ≤ s.length ∧ i = .int .i64 k ∧ z = .int .i64 t ∧ (-1000000000 * k ≤ t ∧ t ≤ 1000000000 * k) ∧ Hid (goneK s F k = t) ∧ w5.grownBy wr none) (fun _ i _ => s.length - (intOf i).toNat)
    case atStart => exact ⟨0, 0, Nat.zero_le _, rfl, rfl, by omega, by simp [Hid, goneK], World.grownBy.refl _ _⟩
    case round =>
      obtain ⟨k, t, hk, rfl, rfl, ht, hgk, hg⟩ := hrel
      by_cases hlt : k < s.length
      · have hltF : k < F.length := by rw [hlen.out]; exact hlt
        obtain ⟨gf, of, cx, rfl, _, hbf, rfl, hc⟩ := (hF.pure hg).at_ (by decide) hltF
        have f0 : _ := hc 0 _ rfl
        rw [show Enc.sz Int = 1 from rfl, Nat.mul_one, Nat.add_zero] at f0
        clear hc
        obtain ⟨g, o, cx, rfl, hb0, hb1, rfl, hc⟩ := (hsl.pure hg).at_ (by decide) hlt
        have c0 : wr.cell? ⟨g, o + k * 3, none⟩ = some (.string s[k].key) := hc 0 _ rfl
        have c1 : wr.cell? ⟨g, o + k * 3 + 1, none⟩ = some (.string s[k].mat) := hc 1 _ rfl
        have c2 : wr.cell? ⟨g, o + k * 3 + 2, none⟩ = some (.int .i64 s[k].left) := hc 2 _ rfl
        clear hc
        have hFk := hbd.out _ (List.getElem_mem hltF)
        have hSk := (hsb.out k hlt).1
        have hgk2 : Hid (goneK s F (k + 1) = t + (s[k].left - F[k])) := by rw [Hid, goneK_succ hlt hltF, hgk.out]
        have hgs := hg.size
        go_upto_region 13 with fail
        obtain ⟨w1, hw1⟩ : ∃ x, x = (wr).alloc (.cells [.string s[k].key, .string s[k].mat, .int .i64 s[k].left].toArray 54) := ⟨_, rfl⟩
        have hg1 : (wr).grownBy w1 none := by rw [hw1]; exact gr_alloc (World.grownBy.refl _ _) _
        have hb1 : Box w1 (wr).heap.size 54 [.string s[k].key, .string s[k].mat, .int .i64 s[k].left] := by rw [hw1]; exact Box.new _ _ _
        have hxs1 := hb1.lt
        rw [← hw1]
        clear hw1
        obtain ⟨x1, hx1⟩ : ∃ x, x = (wr).heap.size := ⟨_, rfl⟩
        rw [← hx1] at hb1 hxs1 ⊢
        have hxl1 : (wr).heap.size ≤ x1 := by omega
        clear hx1
        have ⟨b2, _⟩ := hb1.c 2 rfl
        replace f0 := hg1.k f0
        replace hg := hg.t hg1
        clear c0 c1 c2 hb1 hg1 hgk
        generalize s[k].left = u at *
        generalize F[k] = v at *
        have d1 : decide (v < 0) = false := by simp; omega
        have d2 : decide (v > 1000000000) = false := by simp; omega
        go_quiet (fail)
        go_wp2
        (go_roundw; (case rel => exact ⟨k + 1, t + (u - v), by omega, by go_num, rfl, by omega, hgk2, by exact (by repeat (first | exact World.grownBy.refl _ _ | assumption | refine gr_alloc ?_ _ | (apply gr_tail; assumption) | refine gr_drewN ?_ _ | refine gr_drew ?_))⟩); (case measure => simp [intOf]; omega))
      · obtain rfl : k = s.length := by omega
        have hgt : Hid ((s.map Spl.left).sum - F.sum = t) := by rw [Hid, ← goneK_all s F hlen.out, hgk.out]
        clear hgk
        replace hsl := hsl.pure hg
        replace hdl := hdl.pure hg
        replace hR := hR.pure hg
        replace hgw := hgw.t hg
        clear hg hF
        go_wp2_with fail
        obtain ⟨wa, rfl⟩ : ∃ x, x = wr := ⟨wr, rfl⟩
        go_loopw [10, 83] (fun z i wr => ∃ (k : Nat) (u : Int), k ≤ d.length ∧ i = .int .i64 k ∧ z = .int .i64 u ∧ (-5000000000 - 1000000000 * k ≤ u ∧ u ≤ 5000000000 + 1000000000 * k) ∧ Hid (t - drawnK R d k = u) ∧ wa.grownBy wr none) (fun _ i _ => d.length - (intOf i).toNat)
        case atStart => exact ⟨0, t, Nat.zero_le _, rfl, rfl, by omega, by simp [Hid, drawnK], World.grownBy.refl _ _⟩
        case round =>
          obtain ⟨k, u, hk, rfl, rfl, hu, hgk, hg⟩ := hrel
          by_cases hlt : k < d.length
          · obtain ⟨g, o, cx, rfl, hb0, hb1, rfl, hc⟩ := (hdl.pure hg).at_ (by decide) hlt
            have c0 : wr.cell? ⟨g, o + k * 3, none⟩ = some (.int .i64 d[k].at_) := hc 0 _ rfl
            have c1 : wr.cell? ⟨g, o + k * 3 + 1, none⟩ = some (.string d[k].spool) := hc 1 _ rfl
            have c2 : wr.cell? ⟨g, o + k * 3 + 2, none⟩ = some (.int .i64 d[k].long) := hc 2 _ rfl
            clear hc
            have hdk := hdb.out _ (List.getElem_mem hlt)
            have hgs := hg.size
            rcases hm : memB R (k : Int) with _ | _
            · have hgk2 : Hid (t - drawnK R d (k + 1) = u - d[k].long) := by rw [Hid, drawnK_no hlt hm, ← hgk.out]; omega
              go_upto_region 20 with fail
              obtain ⟨w1, hw1⟩ : ∃ x, x = (wr).alloc (.cells [.int .i64 d[k].at_, .string d[k].spool, .int .i64 d[k].long].toArray 57) := ⟨_, rfl⟩
              have hg1 : (wr).grownBy w1 none := by rw [hw1]; exact gr_alloc (World.grownBy.refl _ _) _
              have hb1 : Box w1 (wr).heap.size 57 [.int .i64 d[k].at_, .string d[k].spool, .int .i64 d[k].long] := by rw [hw1]; exact Box.new _ _ _
              have hxs1 := hb1.lt
              rw [← hw1]
              clear hw1
              obtain ⟨x1, hx1⟩ : ∃ x, x = (wr).heap.size := ⟨_, rfl⟩
              rw [← hx1] at hb1 hxs1 ⊢
              have hxl1 : (wr).heap.size ≤ x1 := by omega
              clear hx1
              have ⟨b2, _⟩ := hb1.c 2 rfl
              replace hR := hR.pure (hg.t hg1)
              replace hg := hg.t hg1
              clear c0 c1 c2 hb1 hg1 hgk
              generalize d[k].long = v at *
              go_wp2_with (go_at_call 33; refine (containsInt_any _ _ _ _ _ hR).mono ?_; rintro _ _ ⟨rfl, rfl⟩; rw [hm])
              (go_roundw; (case rel => exact ⟨k + 1, u - v, by omega, by go_num, rfl, by omega, hgk2, by exact (by repeat (first | exact World.grownBy.refl _ _ | assumption | refine gr_alloc ?_ _ | (apply gr_tail; assumption) | refine gr_drewN ?_ _ | refine gr_drew ?_))⟩); (case measure => simp [intOf]; omega))
            · have hgk2 : Hid (t - drawnK R d (k + 1) = u) := by rw [Hid, drawnK_yes hlt hm, ← hgk.out]
              go_upto_region 20 with fail
              obtain ⟨w1, hw1⟩ : ∃ x, x = (wr).alloc (.cells [.int .i64 d[k].at_, .string d[k].spool, .int .i64 d[k].long].toArray 57) := ⟨_, rfl⟩
              have hg1 : (wr).grownBy w1 none := by rw [hw1]; exact gr_alloc (World.grownBy.refl _ _) _
              have hb1 : Box w1 (wr).heap.size 57 [.int .i64 d[k].at_, .string d[k].spool, .int .i64 d[k].long] := by rw [hw1]; exact Box.new _ _ _
              have hxs1 := hb1.lt
              rw [← hw1]
              clear hw1
              obtain ⟨x1, hx1⟩ : ∃ x, x = (wr).heap.size := ⟨_, rfl⟩
              rw [← hx1] at hb1 hxs1 ⊢
              have hxl1 : (wr).heap.size ≤ x1 := by omega
              clear hx1
              replace hR := hR.pure (hg.t hg1)
              replace hg := hg.t hg1
              clear c0 c1 c2 hb1 hg1 hgk
              go_wp2_with (go_at_call 33; refine (containsInt_any _ _ _ _ _ hR).mono ?_; rintro _ _ ⟨rfl, rfl⟩; rw [hm])
              (go_roundw; (case rel => exact ⟨k + 1, u, by omega, by go_num, rfl, by omega, hgk2, by exact (by repeat (first | exact World.grownBy.refl _ _ | assumption | refine gr_alloc ?_ _ | (apply gr_tail; assumption) | refine gr_drewN ?_ _ | refine gr_drew ?_))⟩); (case measure => simp [intOf]; omega))
          · obtain rfl : k = d.length := by omega
            have hu0 : u = 0 := by have h1 := hgk.out; have h2 := hgt.out; have h3 := hsum.out; omega
            subst hu0
            clear hgk
            go_wp2_with fail
            refine (ready_any _).mono ?_
            rintro e w6 ⟨rfl, h1⟩
            go_wp2_with fail
            go_ret
            exact ⟨rfl, gr_trans hgw (gr_trans hg h1)⟩
  · have hb : (drwsF s d != 0) = true := by simp [hz]
    generalize drwsF s d = F at *
    clear hz
    go_wp2_with fail
    refine (ready_any _).mono ?_
    rintro e w4 ⟨rfl, h1⟩
    go_wp2_with fail
    go_ret
    exact ⟨rfl, gr_trans hgw h1⟩

end Go.Proofs.YtlefdcodfjifcaaGreatDoor

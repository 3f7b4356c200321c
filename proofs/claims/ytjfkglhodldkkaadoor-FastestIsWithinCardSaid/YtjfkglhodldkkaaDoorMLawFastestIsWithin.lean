/- Contracts of functions that this seat's laws reach, each: what one call returns and what it leaves in memory; no condition beyond each theorem's own hypotheses. -/
import Derived.Test.YtjfkglhodldkkaaDoorMReady
import Derived.Test.YtjfkglhodldkkaaDoorMFlowJ
set_option linter.unusedVariables false
set_option linter.unusedSimpArgs false
namespace Go.Proofs.YtjfkglhodldkkaaDoor
open Go Go.RowKit Go.Bl

theorem beads_ok {l : List Bead} (h : checkBeads l = 0) : l.length ≤ 5000 ∧ ∀ x ∈ l, okBead x = true := by
  unfold checkBeads at h
  by_cases h1 : 5000 < l.length
  · rw [if_pos h1] at h; cases h
  · rw [if_neg h1] at h
    by_cases h2 : l.all okBead = true
    · exact ⟨by omega, List.all_eq_true.1 h2⟩
    · rw [if_neg h2] at h; cases h

set_option maxHeartbeats 4000000 in
set_option maxRecDepth 100000 in
theorem fastestIsWithin_law (A : Option Addr) (n c : Nat) (L : List Int) (w : World) (hL : Sl w 0 A L) (hn : L.length = n) :
    Calls Tryd.prog 3 #[.slice A n c] w fun e w' => e = .returned (.bool true) ∧ w.grownBy w' none := by
  have hs0 := strm_new (c := c) 25 hL hn
  have hg0 := gr_alloc (World.grownBy.refl w none) (.cells #[.slice A n c, .int .i64 0] 25)
  have hS0 := SOut.refl hs0
  go_enter Tryd.func3, Tryd.ntmps3
  go_wp2_with fail
  refine (beadList_any _ 0 _ hs0 (by omega)).mono ?_
  rintro e w1 ⟨l, A1, c1, rfl, hol, hl6, ho1⟩
  replace hS0 := hS0.trans ho1
  have hsz1 := ho1.size
  simp at hsz1
  have hsl := hol.sl.mono (show w.heap.size + 1 ≤ _ by simp)
  go_wp2_with fail
  refine (pick_any _ _ _ _ _ [1, 1000, 90000, 20000000] _ (hS0.2.pure (gr_alloc (World.grownBy.refl _ _) _)) (by omega) (sl_intsAt _ _ _ _ _ (by first | rfl | simp) (by omega) (by simp [maxLen])) rfl (by simp)).mono ?_
  rintro e w2 ⟨most, rfl, hmost, ho2⟩
  have hmb : 1 ≤ most ∧ most ≤ 20000000 := by simp at hmost; omega
  replace hS0 := (hS0.al _).trans ho2
  replace hsl := ((hsl.pure (gr_alloc (World.grownBy.refl _ _) _)).gr ho2.1 (fun x e => by injection e; omega)).mono (Nat.zero_le _)
  have hgw : w.grownBy w2 none := gr_new hg0 hS0.1 (Nat.le_refl _)
  clear ho1 ho2 hS0 hs0 hg0 hmost hol
  go_wp2_with fail
  refine (beadsFault_any _ _ l _ hsl).mono ?_
  rintro e w3 ⟨rfl, h1⟩
  replace hsl := hsl.pure h1
  replace hgw := gr_trans hgw h1
  clear h1
  by_cases hz : checkBeads l = 0
  · have hok := beads_ok hz
    have hF : fastFault l most = 0 := by
      unfold fastFault
      rw [hz]
      have : spanF most 1 1000000000000 = 0 := spanF_in (by simp [inB]; omega)
      rw [this]; rfl
    have hfe : Hid (fastest l most = fastTo l most) := by rw [Hid, fastest, if_neg (by simp [hF])]
    have hfl : Hid ((fastTo l most).length = l.length) := by simp [Hid, fastTo]
    have hFG := fastestGo_any A1 c1 l most w3 hsl
    rw [hF, hfe.out] at hFG
    rw [hz]
    clear hz hF hfe
    replace hok := hide hok.2
    go_wp2_with fail
    refine hFG.mono ?_
    rintro e w4 ⟨A4, c4, rfl, ho4, h1⟩
    have hs4 := ho4.sl.mono (Nat.zero_le _)
    have hfg : Hid (∀ k (h : k < (fastTo l most).length) (h2 : k < l.length), (fastTo l most)[k] = most / (l[k].wide * l[k].high)) := fun k h h2 => by simp [fastTo]
    generalize fastTo l most = F at *
    replace hsl := hsl.pure h1
    replace hgw := gr_trans hgw h1
    clear h1 hFG ho4
    rw [hfl.out]
    go_wp2_with fail
    go_loopw [40] (fun i wr => ∃ k : Nat, k ≤ l.length ∧ i = .int .i64 k ∧ w4.grownBy wr none) (fun i _ => l.length - (intOf i).toNat)
    case atStart => exact ⟨0, Nat.zero_le _, rfl, World.grownBy.refl _ _⟩
    case round =>
      obtain ⟨k, hk, rfl, hg⟩ := hrel
      by_cases hlt : k < l.length
      · have hltF : k < F.length := by rw [hfl.out]; exact hlt
        obtain ⟨gf, of, cx, rfl, _, _, rfl, hc⟩ := (hs4.pure hg).at_ (by decide) hltF
        have f0 : _ := hc 0 _ rfl
        rw [show Enc.sz Int = 1 from rfl, Nat.mul_one, Nat.add_zero, hfg.out k hltF hlt] at f0
        clear hc
        have hl := hsl
        obtain ⟨g, o, cx, rfl, hb0, hb1, rfl, hc⟩ := (hl.pure hg).at_ (by decide) hlt
        have c0 : wr.cell? ⟨g, o + k * 3, none⟩ = some (.int .i64 l[k].long) := hc 0 _ rfl
        have c1 : wr.cell? ⟨g, o + k * 3 + 1, none⟩ = some (.int .i64 l[k].wide) := hc 1 _ rfl
        have c2 : wr.cell? ⟨g, o + k * 3 + 2, none⟩ = some (.int .i64 l[k].high) := hc 2 _ rfl
        clear hc
        have hwh := wh_bd (hok.out _ (List.getElem_mem hlt))
        generalize l[k].wide = wd at *
        generalize l[k].high = hh at *
        go_wp2_with fail
        go_quiet (fail)
        generalize wd * hh = s at *
        have q1 := Int.ediv_mul_le most (show s ≠ 0 by omega)
        have q2 := Int.lt_ediv_add_one_mul_self most (show 0 < s by omega)
        have q3 := Int.ediv_nonneg (show 0 ≤ most by omega) (show 0 ≤ s by omega)
        have q4 := Int.ediv_le_self s (show 0 ≤ most by omega)
        generalize most / s = q at *
        have q5 := Int.mul_nonneg q3 (show 0 ≤ s by omega)
        rw [Int.add_mul, Int.one_mul] at q2
        have q6 : (q + 1) * s = q * s + s := by rw [Int.add_mul, Int.one_mul]
        have b1 : decide (q * s > most) = false := by simp; omega
        have b2 : decide ((q + 1) * s ≤ most) = false := by rw [q6]; simp; omega
        have q7 : -9223372036854775808 ≤ (q + 1) * s ∧ (q + 1) * s ≤ 9223372036854775807 := by rw [q6]; omega
        clear q6
        go_wp2_with fail
        (go_roundw; (case rel => exact ⟨k + 1, by omega, by go_num, gr_drewN hg _⟩); (case measure => simp [intOf]; omega))
      · go_wp2_with fail
        refine (ready_any _).mono ?_
        rintro e w5 ⟨rfl, h1⟩
        go_wp2_with fail
        go_ret
        exact ⟨rfl, gr_trans hgw (gr_trans hg h1)⟩
  · have hb : (checkBeads l != 0) = true := by simp [hz]
    generalize checkBeads l = F at *
    clear hz
    go_wp2_with fail
    refine (ready_any _).mono ?_
    rintro e w4 ⟨rfl, h1⟩
    go_wp2_with fail
    go_ret
    exact ⟨rfl, gr_trans hgw h1⟩

end Go.Proofs.YtjfkglhodldkkaaDoor

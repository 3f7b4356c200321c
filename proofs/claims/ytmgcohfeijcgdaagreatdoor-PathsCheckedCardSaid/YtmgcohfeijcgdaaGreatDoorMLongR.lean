/- Contracts of functions that this seat's laws reach, each: what one call returns and what it leaves in memory; no condition beyond each theorem's own hypotheses. -/
import Derived.Test.YtmgcohfeijcgdaaGreatDoorMPathN
import Derived.Test.YtmgcohfeijcgdaaGreatDoorMTree
import Derived.Test.YtmgcohfeijcgdaaGreatDoorMRowsP
set_option linter.unusedVariables false
set_option linter.unusedSimpArgs false
namespace Go.Proofs.YtmgcohfeijcgdaaGreatDoor
open Go Go.RowKit Go.Bl

/-- the way along points -/
def chainTo (L : List Pt) (k : Nat) : Int := ((List.range k).map fun i => distP (L.getD i default) (L.getD (i + 1) default)).sum

theorem chainTo_succ (L : List Pt) (k : Nat) : chainTo L (k + 1) = chainTo L k + distP (L.getD k default) (L.getD (k + 1) default) := by
  unfold chainTo; rw [List.range_succ, List.map_append, List.sum_append]; simp

theorem longTo_chain (p : PathV) : ∀ m, longTo p (m + 1) = stepL p 0 + chainTo p.pts m
  | 0 => by simp [longTo, chainTo]
  | m + 1 => by
    rw [longTo_succ, longTo_chain p m, chainTo_succ]
    have : stepL p (m + 1) = distP (p.pts.getD m default) (p.pts.getD (m + 1) default) := by unfold stepL; rw [if_neg (by omega)]; rfl
    rw [this]; omega

theorem chain_pre (L M : List Pt) : ∀ m, m + 1 ≤ L.length → chainTo (L ++ M) m = chainTo L m
  | 0, _ => by simp [chainTo]
  | m + 1, h => by
    rw [chainTo_succ, chainTo_succ, chain_pre L M m (by omega)]
    have e1 : (L ++ M).getD m default = L.getD m default := by simp [List.getD, List.getElem?_append_left (show m < L.length by omega)]
    have e2 : (L ++ M).getD (m + 1) default = L.getD (m + 1) default := by simp [List.getD, List.getElem?_append_left (show m + 1 < L.length by omega)]
    rw [e1, e2]

theorem turned_plain (p : PathV) (k : Nat) : turned p ⟨k, 0, false⟩ = if p.cl then p.pts ++ p.pts.take 1 else p.pts := by
  unfold turned
  simp

theorem chain_turned {p : PathV} (h0 : 0 < p.pts.length) (k : Nat) : chainTo (turned p ⟨k, 0, false⟩) ((turned p ⟨k, 0, false⟩).length - 1) = longP p := by
  rw [turned_plain]
  unfold longP
  obtain ⟨n, hn⟩ : ∃ n, p.pts.length = n + 1 := ⟨p.pts.length - 1, by omega⟩
  rw [hn, longTo_chain]
  cases hc : p.cl with
  | false =>
    simp only [Bool.false_eq_true, if_false]
    have : stepL p 0 = 0 := by unfold stepL; rw [if_pos rfl, hc]; rfl
    rw [this, hn]; simp
  | true =>
    simp only [if_true]
    have hl : (p.pts ++ p.pts.take 1).length - 1 = n + 1 := by simp; omega
    rw [hl, chainTo_succ, chain_pre _ _ n (by omega)]
    have : stepL p 0 = distP (p.pts.getD n default) (p.pts.getD 0 default) := by unfold stepL; rw [if_pos rfl, hc]; simp [hn]
    rw [this]
    have e1 : (p.pts ++ p.pts.take 1).getD n default = p.pts.getD n default := by simp [List.getD, List.getElem?_append_left (show n < p.pts.length by omega)]
    have e2 : (p.pts ++ p.pts.take 1).getD (n + 1) default = p.pts.getD 0 default := by
      simp only [List.getD]
      rw [List.getElem?_append_right (by omega), hn, Nat.sub_self]
      simp [List.getElem?_take]
    rw [e1, e2]; omega

theorem turned_near {p : PathV} (h : ∀ q ∈ p.pts, near q) (k : Nat) : ∀ q ∈ turned p ⟨k, 0, false⟩, near q := by
  rw [turned_plain]
  intro q hq
  split at hq
  · rcases List.mem_append.1 hq with hq | hq
    · exact h q hq
    · exact h q (List.mem_of_mem_take hq)
  · exact h q hq

theorem turned_len0 (p : PathV) (k : Nat) : p.pts.length ≤ (turned p ⟨k, 0, false⟩).length ∧ (turned p ⟨k, 0, false⟩).length ≤ p.pts.length + 1 := by
  rw [turned_plain]
  split
  · simp; omega
  · omega

theorem chain_bd {L : List Pt} (h : ∀ q ∈ L, near q) : ∀ m, m + 1 ≤ L.length → 0 ≤ chainTo L m ∧ chainTo L m ≤ m * 200000
  | 0, _ => by simp [chainTo]
  | m + 1, hm => by
    have h1 := chain_bd h m (by omega)
    have e : ∀ j (hj : j < L.length), near (L.getD j default) := fun j hj => by
      have : L.getD j default = L[j] := by simp [List.getD, hj]
      rw [this]; exact h _ (List.getElem_mem _)
    have h2 := distP_bd (e m (by omega)) (e (m + 1) (by omega))
    rw [chainTo_succ]; omega

theorem vok_zero {p : PathV} (h : pathF p = 0) : VOk p 0 false := by
  obtain ⟨h1, h2, h3⟩ := pathF_zero h
  exact ⟨h2, h3, h1, fun _ => rfl, fun _ => rfl⟩

set_option maxHeartbeats 4000000 in
set_option maxRecDepth 100000 in
theorem longOf_any (A : Option Addr) (c : Nat) (l : List PathV) (w : World) (hl : Sl w 0 A l) (hp : pathsF l = 0) :
    Calls Tryz.prog 10 #[.slice A l.length c] w fun e w' => ∃ A' c', e = .returned (.tuple #[.slice A' (longs l).length c', .int .i64 (longSum l)]) ∧ Own w' w.heap.size 3 A' c' (longs l) ∧ w.grownBy w' none := by
  have hm1 := hl.1
  unfold maxLen at hm1
  obtain ⟨hll, hpf0⟩ := pathsF_zero hp
  have hsb := hide (longSum_bd hpf0)
  have hpf := hide hpf0
  clear hp hpf0
  obtain ⟨i0, hi, hz, h1, h2⟩ := info_parts info_int
  go_enter Tryz.func10, Tryz.ntmps10
  go_wp2_with fail
  go_loopw [4, 5, 12] (fun o n i wr => ∃ (k : Nat) (A' : Option Addr) (c' : Nat), k ≤ l.length ∧ i = .int .i64 k ∧ n = .int .i64 (longSum (l.take k)) ∧ o = .slice A' k c' ∧ Own wr w.heap.size 3 A' c' (longs (l.take k)) ∧ w.grownBy wr none) (fun _ _ i _ => l.length - (intOf i).toNat)
  case atStart => exact ⟨0, none, 0, Nat.zero_le _, rfl, rfl, rfl, Own.nil _ _ _, World.grownBy.refl _ _⟩
  case round =>
    obtain ⟨k, A2, c2, hk, rfl, rfl, rfl, hO, hg⟩ := hrel
    obtain ⟨hs0, hs1⟩ := hsb.out k hk
    have hkl : Hid ((longs (l.take k)).length = k) := by simp [Hid, longs]; omega
    by_cases hlt : k < l.length
    · have hpk := hpf.out _ (List.getElem_mem hlt)
      obtain ⟨hq0, hq1, hq2⟩ := pathF_zero hpk
      have hPr := printed_any A c l k 0 false wr (hl.pure hg) hlt (vok_zero hpk)
      have hch := hide (chain_turned hq0 k)
      have hnr := hide (turned_near (fun q h => near_of (hq2 q h)) k)
      have htl := turned_len0 l[k] k
      have hlb := longP_bd hpk
      have hls := hide (longSum_snoc hlt)
      have hln := hide (longs_snoc hlt)
      generalize turned l[k] ⟨k, 0, false⟩ = T at *
      generalize longP l[k] = lp at *
      clear hq2 hpk
      go_wp2_with fail
      refine hPr.mono ?_
      rintro e w2 ⟨A3, c3, rfl, hO3, hg2⟩
      clear hPr
      have hgA := hg.t hg2
      have hT3 := hO3.sl
      clear hO3
      obtain ⟨htl0, htl1⟩ := htl
      have hT1 : 1 ≤ T.length := by omega
      have hT5 : T.length ≤ 501 := by omega
      have hcb := hide (chain_bd hnr.out)
      clear htl0 htl1
      go_wp2_with fail
      obtain ⟨wb, rfl⟩ : ∃ x, x = wr := ⟨wr, rfl⟩
      go_loopw [8, 9] (fun o i wr => ∃ j : Nat, j + 1 ≤ T.length ∧ i = .int .i64 (j + 1) ∧ o = .int .i64 (chainTo T j) ∧ w2.grownBy wr none) (fun _ i _ => T.length + 1 - (intOf i).toNat)
      case atStart => exact ⟨0, hT1, rfl, rfl, World.grownBy.refl _ _⟩
      case round =>
        obtain ⟨j, hj, rfl, rfl, hgj⟩ := hrel
        by_cases hjl : j + 1 < T.length
        · obtain ⟨g, o, cx, rfl, hb0, hb1, rfl, hc⟩ := (hT3.pure hgj).at_ (by decide) (k := j) (by omega)
          have a0 : wr.cell? ⟨g, o + j * 2, none⟩ = some (.int .i64 T[j].x) := hc 0 _ rfl
          have a1 : wr.cell? ⟨g, o + j * 2 + 1, none⟩ = some (.int .i64 T[j].y) := hc 1 _ rfl
          clear hc
          obtain ⟨g', o', cx', e, hb0', hb1', rfl, hc⟩ := (hT3.pure hgj).at_ (by decide) (k := j + 1) hjl
          injection e with e
          injection e with e1 e2
          subst e1 e2
          have d0 : wr.cell? ⟨g, o + (j + 1) * 2, none⟩ = some (.int .i64 T[j + 1].x) := hc 0 _ rfl
          have d1 : wr.cell? ⟨g, o + (j + 1) * 2 + 1, none⟩ = some (.int .i64 T[j + 1].y) := hc 1 _ rfl
          clear hc
          have n0 := hnr.out _ (List.getElem_mem (show j < T.length by omega))
          have n1 := hnr.out _ (List.getElem_mem hjl)
          have hst : Hid (chainTo T (j + 1) = chainTo T j + distP T[j] T[j + 1]) := by
            rw [Hid, chainTo_succ]
            simp [List.getD, hjl, show j < T.length by omega]
          have hc0 := hcb.out j hj
          have hc1 := hcb.out (j + 1) hjl
          have hAp := fun wx => apart_any T[j] T[j + 1] wx n0 n1
          rw [hst.out] at hc1
          generalize T[j] = P0 at *
          generalize T[j + 1] = P1 at *
          generalize distP P0 P1 = D at *
          generalize chainTo T j = CJ at *
          replace n0 := hide n0
          replace n1 := hide n1
          go_wp2_with fail
          refine wp_region_tree (fun wx => wr.grownBy wx none) [2, 2, 2, 2, 2, 1, 2, 2, 2, 1, 0, 2, 2] (.bl 0 (.bl 1 (.bl 2 (.bl 3 (.bl 4 (.bl 5 (.bl 6 (.bl 7 (.bl 8 (.bl 9 (.ef 10 (.bl 11 (.bl 12 .done))))))))))))) (by kernel_rfl) (by kernel_rfl) (gr_drew (World.grownBy.refl _ _)) ?_
          obtain ⟨W1, hW1⟩ : ∃ x, x = (wr).drew := ⟨_, rfl⟩
          rw [← hW1]
          have hgW1 : (wr).grownBy W1 none := by rw [hW1]; exact gr_drew (World.grownBy.refl _ _)
          clear hW1
          refine tree_p rfl rfl rfl rfl _ rfl (by simp) (fun K hK => ?_)
          apply Exists.intro
          refine ⟨fun wq K' hK' => ?_, ?_⟩
          · go_wp2_with fail
            exact hK'
          go_simp
          refine hK _ ?_
          clear hK K
          refine tree_p rfl rfl rfl rfl _ rfl (by simp) (fun K hK => ?_)
          apply Exists.intro
          refine ⟨fun wq K' hK' => ?_, ?_⟩
          · go_wp2_with fail
            exact hK'
          go_simp
          refine hK _ ?_
          clear hK K
          refine tree_p rfl rfl rfl rfl _ rfl (by simp) (fun K hK => ?_)
          apply Exists.intro
          refine ⟨fun wq K' hK' => ?_, ?_⟩
          · go_wp2_with fail
            exact hK'
          go_simp
          refine hK _ ?_
          clear hK K
          refine tree_p rfl rfl rfl rfl _ rfl (by simp) (fun K hK => ?_)
          apply Exists.intro
          refine ⟨fun wq K' hK' => ?_, ?_⟩
          · go_wp2_with fail
            exact hK'
          go_simp
          refine hK _ ?_
          clear hK K
          refine tree_p rfl rfl rfl rfl _ rfl (by simp) (fun K hK => ?_)
          apply Exists.intro
          refine ⟨fun wq K' hK' => ?_, ?_⟩
          · go_wp2_with fail
            exact hK'
          go_simp
          refine hK _ ?_
          clear hK K
          refine tree_b rfl rfl rfl rfl _ rfl (by simp) (fun K hK => ?_)
          apply Exists.intro
          refine ⟨fun wq hq K' hK' => ?_, ?_⟩
          · have y0 := hq.k a0
            have y1 := hq.k a1
            have y2 := hq.k d0
            have y3 := hq.k d1
            go_wp2_with fail
            exact hK'
          go_simp
          refine hK _ ?_
          clear hK K
          refine tree_p rfl rfl rfl rfl _ rfl (by simp) (fun K hK => ?_)
          apply Exists.intro
          refine ⟨fun wq K' hK' => ?_, ?_⟩
          · go_wp2_with fail
            exact hK'
          go_simp
          refine hK _ ?_
          clear hK K
          refine tree_p rfl rfl rfl rfl _ rfl (by simp) (fun K hK => ?_)
          apply Exists.intro
          refine ⟨fun wq K' hK' => ?_, ?_⟩
          · go_wp2_with fail
            exact hK'
          go_simp
          refine hK _ ?_
          clear hK K
          refine tree_p rfl rfl rfl rfl _ rfl (by simp) (fun K hK => ?_)
          apply Exists.intro
          refine ⟨fun wq K' hK' => ?_, ?_⟩
          · go_wp2_with fail
            exact hK'
          go_simp
          refine hK _ ?_
          clear hK K
          refine tree_b rfl rfl rfl rfl _ rfl (by simp) (fun K hK => ?_)
          apply Exists.intro
          refine ⟨fun wq hq K' hK' => ?_, ?_⟩
          · have y0 := hq.k a0
            have y1 := hq.k a1
            have y2 := hq.k d0
            have y3 := hq.k d1
            go_wp2_with fail
            exact hK'
          go_simp
          refine hK _ ?_
          clear hK K
          refine tree_e0 (by kernel_rfl) rfl rfl (fun K hK => ?_)
          go_wp2_with fail
          refine (hAp _).mono ?_
          rintro e w3 ⟨rfl, hg3⟩
          have hW3 := hgj.t (gr_trans (gr_trans hgW1 (World.grownBy.refl _ _)) hg3)
          go_wp2_with fail
          try go_simp
          refine hK _ _ trivial ?_
          clear hK K
          refine tree_p rfl rfl rfl rfl _ rfl (by simp) (fun K hK => ?_)
          apply Exists.intro
          refine ⟨fun wq K' hK' => ?_, ?_⟩
          · go_wp2_with fail
            exact hK'
          go_simp
          refine hK _ ?_
          clear hK K
          refine tree_p rfl rfl rfl rfl _ rfl (by simp) (fun K hK => ?_)
          apply Exists.intro
          refine ⟨fun wq K' hK' => ?_, ?_⟩
          · go_wp2_with fail
            exact hK'
          go_simp
          refine hK _ ?_
          clear hK K
          refine tree_done ?_
          go_wp2_with fail
          exact ⟨⟨j + 1, by omega, by go_num, by rw [hst.out], hW3⟩, by simp [intOf]; omega⟩
        · have hje : j = T.length - 1 := by omega
          have hce := hch.out
          rw [← hje] at hce
          rw [hce]
          have hgF := hgA.t hgj
          have hOF := (hO.pure hg2).pure hgj
          have hsz := hgF.size
          have hb2 : ¬ ((j : Int) + 1 < (T.length : Int)) := by omega
          replace hje := hide hje
          replace hce := hide hce
          clear hO hg hgA
          go_wp2_with (at_builtin; refine wpList_push (α := Int) _ rfl (.tmp 37) (.tmp 39) _ rfl w.heap.size 3 i0 _ 8 Tryz.underlying22 hi hz h1 h2 rfl _ _ _ (longs (l.take k)) rfl ?c1 (by exact (hOF.pure (by repeat (first | exact World.grownBy.refl _ _ | assumption | refine gr_alloc ?_ _ | refine gr_drewN ?_ _ | refine gr_drew ?_)))) 0 ⟨_, 0, none⟩ 1 1 [lp] rfl rfl (by exact sl_int1 _ _ _ _ (by first | rfl | simp)) ?c2 ?c3 ?c4 ?_)
          case c1 => exact hkl.out.symm
          case c2 => rw [hkl.out]; omega
          case c3 => rw [hkl.out]; simp [maxLen]; omega
          case c4 => omega
          intro A5 c5 w5 hO5 hup5
          rw [← hln.out] at hO5
          go_wp2_with fail
          exact ⟨⟨k + 1, A5, c5, by omega, by go_num, by rw [hls.out], by simp [hkl.out], hO5, hup5.gr (Nat.le_refl _) (gr_alloc hgF _)⟩, by simp [intOf]; omega⟩
    · obtain rfl : k = l.length := by omega
      rw [List.take_length] at hO ⊢
      have e : (longs l).length = l.length := by simp [longs]
      replace e := hide e
      go_wp2_with fail
      go_ret2
      exact ⟨A2, c2, by rw [e.out]; rfl, hO, hg⟩

end Go.Proofs.YtmgcohfeijcgdaaGreatDoor

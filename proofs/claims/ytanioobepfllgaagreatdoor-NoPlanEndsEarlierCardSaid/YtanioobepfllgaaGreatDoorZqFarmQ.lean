/- Contracts of functions that this seat's laws reach, each: what one call returns and what it leaves in memory; no condition beyond each theorem's own hypotheses. -/
import Derived.Test.YtanioobepfllgaaGreatDoorZqLateG
import Derived.Test.YtanioobepfllgaaGreatDoorZqRowsN
set_option linter.unusedVariables false
set_option linter.unusedSimpArgs false
namespace Go.Proofs.YtanioobepfllgaaGreatDoor
open Go Go.RowKit Go.Bl

theorem info_ints : (Tryz.prog.info? 22).map (fun i => (i.zero, i.size, i.bytes)) = some (some (.slice none 0 0), 1, 24) := by kernel_rfl

/-- a plan in memory, made by the stream -/
def SPlan (b : Nat) (N : Int) (M : Nat) (w : World) (e : Ending) (w' : World) : Prop := ∃ (l : List (List Int)) (A : Option Addr) (c : Nat), e = .returned (.slice A l.length c) ∧ Sl w' (b + 1) A l ∧ l.flatten.length ≤ M ∧ l.length ≤ c ∧ l.length ≤ 51 ∧ SOut b N w w'

theorem set_flat {ls : List (List Int)} {q : Nat} (h : q < ls.length) (x : Int) : (ls.set q (ls[q] ++ [x])).flatten.length = ls.flatten.length + 1 := by
  induction ls generalizing q with
  | nil => simp at h
  | cons l ls ih => cases q with
    | zero => simp only [List.set_cons_zero, List.getElem_cons_zero, List.flatten_cons, List.length_append, List.length_singleton]; omega
    | succ q => simp only [List.set_cons_succ, List.getElem_cons_succ, List.flatten_cons, List.length_append, ih (by simpa using h)]; omega

theorem row_le {ls : List (List Int)} {q : Nat} (h : q < ls.length) : ls[q].length ≤ ls.flatten.length := row_len h

set_option maxHeartbeats 4000000 in
set_option maxRecDepth 100000 in
theorem aPlan_any (b : Nat) (N : Int) (A : Option Addr) (c : Nat) (p : List Prn) (B : Option Addr) (d : Nat) (j : List Jb) (w : World) (hs : Strm w b N) (hN : N ≤ 1000000000) (hp : p.length ≤ 50) (hj : j.length ≤ 500) :
    Calls Tryz.prog 8 #[.pointer (some ⟨b, 0, none⟩), .slice A p.length c, .slice B j.length d] w (SPlan b (N + 2 * j.length + 5) (j.length + 1) w) := by
  have hbw := hs.lt
  obtain ⟨i0, hi, hz, hi1, hi2⟩ := info_parts info_ints
  obtain ⟨w1, hrun, hoO, hg1⟩ := run_makeOwn (P := Tryz.prog) w 31 22 i0 _ (⟨none, 0, 0⟩ : RawS) Tryz.underlying31 hi hz hi1 rfl rfl .i64 .i64 p.length (by rw [hi2]; omega) (by simp [maxLen]; omega)
  clear hi hz hi1 hi2 i0
  obtain ⟨g, hgE⟩ : ∃ g, g = w.heap.size := ⟨_, rfl⟩
  have hgw : w.heap.size ≤ g := by omega
  have hg1s : g < w1.heap.size := by rw [hgE]; exact (hoO.blk_lt (g := w.heap.size) rfl).2
  rw [← hgE] at hrun hoO
  clear hgE
  go_enter Tryz.func8, Tryz.ntmps8
  go_wp2_with fail
  refine (order_any b N j.length _ (hs.pure hg1) (by omega) (by omega)).mono ?_
  rintro e w2 ⟨o, A2, c2, rfl, hoo, hol, ho2⟩
  have hR0 := RowsN.made (α := Int) hoO (ei := 3) (li := w2.heap.size) (by decide) (by have := ho2.size; omega)
  have hR := (hR0.lower hgw).s ho2 hbw
  have ho := (SOut.refl hs).pure hg1 |>.trans ho2
  have hbo := fun x (hx : blk A2 = some x) => hoo.blk_lt hx
  have hos := hoo.sl
  have hb2 : b < w2.heap.size := ho.lt
  have hol' : o.length ≤ 500 := by omega
  replace hol := hide hol
  clear hoO hoo ho2 hrun hg1 hR0
  go_wp2_with fail
  go_loopw [20] (fun i wr => ∃ (k : Nat) (raws : List RawS) (ls : List (List Int)), k ≤ o.length ∧ i = .int .i64 k ∧ Hid (raws.length = p.length) ∧ Hid (ls.flatten.length ≤ k) ∧ RowsN wr w.heap.size w2.heap.size 22 3 (some ⟨g, 0, none⟩) p.length raws ls ∧ Sl wr w1.heap.size A2 o ∧ SOut b (N + j.length + k) w wr ∧ w2.heap.size ≤ wr.heap.size) (fun i _ => o.length - (intOf i).toNat)
  case atStart => exact ⟨0, _, _, Nat.zero_le _, rfl, by simp [Hid], by simp [Hid], hR, hos, ho.mono (by omega), Nat.le_refl _⟩
  case round =>
    clear hR hos ho
    obtain ⟨k, raws, ls, hk, rfl, hrl, hfl, hR, hos, ho, hsz0⟩ := hrel
    by_cases hlt : k < o.length
    · obtain ⟨ga, oa, cx, rfl, _, hb2, rfl, hc⟩ := hos.at_ (by decide) hlt
      have c0 : _ := hc 0 _ rfl
      rw [show Enc.sz Int = 1 from rfl, Nat.mul_one, Nat.add_zero] at c0
      clear hc
      generalize o[k] = ky at *
      by_cases h0 : 0 < p.length
      · have hb0 : decide (((p.length : Nat) : Int) > 0) = true := by simp; omega
        go_wp2_with fail
        refine (next_any b (N + j.length + k) _ _ ho.2 (by omega) (by omega)).mono ?_
        rintro e w3 ⟨q, rfl, ⟨hq0, hq1⟩, ho3⟩
        obtain ⟨q, rfl⟩ := Int.eq_ofNat_of_zero_le hq0
        have hR3 := hR.s ho3 hbw
        have hos3 := hos.gr ho3.1 (fun x e => by injection e; omega)
        replace ho := ho.trans ho3
        have hsz3 := ho3.size
        clear ho3 hR hos c0
        have hqr : q < raws.length := by have := hrl.out; omega
        have hqs : q < ls.length := by rw [← hR3.len]; exact hqr
        have d0 := hR3.cell hqr
        obtain ⟨hrn, hri⟩ := hR3.ins q hqr hqs
        rw [hrn] at d0
        have hq := gr_alloc (World.grownBy.refl w3 none) (.cells #[.int .i64 ky] 3)
        have hR4 := hR3.pure hq
        have hri4 := hri.pure hq
        have hrb := row_le hqs
        have hfl0 := hfl.out
        go_wp2_with (at_builtin; obtain ⟨i0, hi, hz, h1, h2⟩ := info_parts info_int; refine wpList_pushAt (α := Int) _ rfl (.tmp 36) (.tmp 38) _ rfl w2.heap.size 3 i0 _ 8 Tryz.underlying22 hi hz h1 h2 rfl _ _ _ ls[q] rfl ?c1 (by exact hri4) 0 ⟨_, 0, none⟩ 1 1 [ky] rfl rfl (by exact sl_int1 _ _ _ _ (by first | rfl | simp)) ?c2 ?c3 ?c4 ?_)
        case c1 => rfl
        case c2 => first | omega | (simp; omega)
        case c3 => first | (simp [maxLen]; omega) | (unfold maxLen; omega)
        case c4 => first | omega | (simp; omega)
        intro A5 c5 w5 hown5 hG5
        have hO5 := hR4.outer hqr hG5
        have hR6 := hR4.put hqr hown5 hG5
        have hfl6 : Hid ((ls.set q (ls[q] ++ [ky])).flatten.length ≤ k + 1) := by rw [Hid, set_flat hqs]; exact Nat.succ_le_succ hfl.out
        rw [show (ls[q] ++ [ky]).length = ls[q].length + 1 by simp] at hR6
        obtain ⟨cq, rfl, hc⟩ := hO5.cell_at (by decide) hqr
        have e0 : w5.cell? ⟨g, q, none⟩ = some (.slice raws[q].A raws[q].n raws[q].c) := by have := hc 0 _ rfl; rwa [show Enc.sz RawS = 1 from rfl, Nat.mul_one] at this
        have f0 := hO5.frozen q
        have ho5 := (ho.pure hq).new hbw hG5.1 (fun x e => by have := (hri4.blk_lt e).1; have := hR4.le; omega)
        have ho6 := ho5.set hbw (p := ⟨g, q, none⟩) hgw (.slice A5 (ls[q].length + 1) c5)
        have hsz5 := hG5.1.size
        simp at hsz5
        have hos5 := (hos3.pure hq).ne hG5.1 (fun x hx e => by have := (hri4.blk_lt e).1; have := (hbo x hx).2; omega)
        have hos6 := hos5.ne (gr_set (World.grownBy.refl w5 (some g)) (p := ⟨g, q, none⟩) (.inl rfl) (.slice A5 (ls[q].length + 1) c5)) (fun x hx e => by have := (hbo x hx).1; injection e; omega)
        clear hos3 hos5 hc ho5 hO5 hri4 hown5 hR4 hq
        go_wp2
        (go_roundw; (case rel => exact ⟨k + 1, _, _, by omega, by go_num, by simp [Hid, hrl.out], hfl6, hR6, hos6, ho6.mono (by omega), by rw [heap_set]; omega⟩); (case measure => simp [intOf]; omega))
      · have hb0 : decide (((p.length : Nat) : Int) > 0) = false := decide_eq_false (by omega)
        go_wp2_with fail
        (go_roundw; (case rel => exact ⟨k + 1, raws, ls, by omega, by go_num, hrl, Nat.le_succ_of_le hfl.out, hR, hos, ho.mono (by omega), hsz0⟩); (case measure => simp [intOf]; omega))
    · have hfl' : Hid (ls.flatten.length ≤ j.length) := by have := hfl.out; have := hol.out; exact (by omega : ls.flatten.length ≤ j.length)
      replace ho : SOut b (N + 2 * j.length) w wr := ho.mono (by have := hol.out; omega)
      clear hfl hos
      by_cases h0 : 0 < p.length
      · have hb0 : decide (((p.length : Nat) : Int) > 0) = true := by simp; omega
        go_wp2_with fail
        refine (flip_any b _ _ _ ho.2 (by omega) (by omega)).mono ?_
        rintro e w3 ⟨f, rfl, ho3⟩
        have hR3 := hR.s ho3 hbw
        replace ho := ho.trans ho3
        have hsz3 := ho3.size
        clear ho3 hR
        cases f with
        | false =>
          go_wp2_with fail
          refine (flip_any b _ _ _ ho.2 (by omega) (by omega)).mono ?_
          rintro e wt ⟨ft, rfl, hot⟩
          have hRt := hR3.s hot hbw
          have hoT := ho.trans hot
          have hszt := hot.size
          clear hot
          have hlL : ls.length ≤ 50 := by rw [← hRt.len, hrl.out]; exact hp
          have hlF : (ls).flatten.length ≤ j.length + 1 := Nat.le_succ_of_le hfl'.out
          cases ft with
          | false =>
            go_wp2_with fail
            go_ret
            exact ⟨ls, _, _, by rw [← hRt.len, hrl.out]; rfl, hRt.sl.mono (by omega), hlF, by have := hRt.len; have := hrl.out; omega, by omega, hoT.mono (by omega)⟩
          | true =>
            go_wp2_with (at_builtin; obtain ⟨i0, hi, hz, h1, h2⟩ := info_parts info_ints; refine wpList_pushAt (α := RawS) _ rfl (.tmp 69) (.tmp 70) _ rfl w.heap.size 22 i0 _ 24 Tryz.underlying31 hi hz h1 h2 rfl _ _ _ raws rfl ?c1 (by exact hRt.out.pure (gr_alloc (World.grownBy.refl _ _) _)) 0 ⟨_, 0, none⟩ 1 1 [⟨none, 0, 0⟩] rfl rfl (by exact sl_oneAt _ 0 _ _ _ _ (by first | rfl | simp) (Nat.zero_le _) rfl) ?c2 ?c3 ?c4 ?_)
            case c1 => exact (hrl.out).symm
            case c2 => have := hrl.out; simp; omega
            case c3 => have := hrl.out; simp [maxLen]; omega
            case c4 => have := hoT.size; simp; omega
            intro A7 c7 w7 hown7 hG7
            have hq7 := gr_alloc (World.grownBy.refl wt none) (.cells #[.slice none 0 0] 22)
            have hR7 := (hRt.pure hq7).push hown7 hG7
            have ho7 := (hoT.pure hq7).new hbw hG7.1 (fun x e => by simp only [blk, Option.map_some, Option.some.injEq] at e; omega)
            have hl7 : (raws ++ [(⟨none, 0, 0⟩ : RawS)]).length = (ls ++ [[]]).length := hR7.len
            have hf7 : (ls ++ [[]]).flatten.length = (ls).flatten.length := by simp
            have hn7 : (ls ++ [[]]).length = ls.length + 1 := by simp
            have hcap := hown7.cap
            rw [hl7] at hcap
            have hn8 := hide hRt.len
            replace hn7 := hide hn7
            replace hf7 := hide hf7
            replace hl7 := hide hl7
            go_wp2
            go_ret
            exact ⟨ls ++ [[]], _, _, by rw [hn7.out, ← hn8.out]; rfl, hR7.sl.mono (by omega), by rw [hf7.out]; exact hlF, hcap, by rw [hn7.out]; omega, ho7.mono (by omega)⟩
        | true =>
          go_wp2_with fail
          refine (next_any b _ _ _ ho.2 (by omega) (by omega)).mono ?_
          rintro e w4 ⟨q, rfl, ⟨hq0, hq1⟩, ho4⟩
          obtain ⟨q, rfl⟩ := Int.eq_ofNat_of_zero_le hq0
          replace hR3 := hR3.s ho4 hbw
          replace ho := ho.trans ho4
          have hsz4 := ho4.size
          clear ho4
          have hqr : q < raws.length := by have := hrl.out; omega
          have hqs : q < ls.length := by rw [← hR3.len]; exact hqr
          have d0 := hR3.cell hqr
          obtain ⟨hrn, hri⟩ := hR3.ins q hqr hqs
          rw [hrn] at d0
          go_upto_region 11 with fail
          refine wp_region_tree (fun wx => wx.cell? ⟨g, q, none⟩ = some (.slice raws[q].A ls[q].length raws[q].c)) [2, 2, 2, 2, 2, 1, 2, 2, 2, 0, 0, 0, 0, 2, 0] (.bl 0 (.bl 1 (.bl 2 (.bl 3 (.bl 4 (.bl 5 (.bl 6 (.bl 7 (.bl 8 (.ef 9 (.ef 10 (.ef 11 (.ef 12 (.bl 13 (.ef 14 .done))))))))))))))) (by kernel_rfl) (by kernel_rfl) ((gr_drew (World.grownBy.refl _ _)).k d0) ?_
          obtain ⟨W1, hW1⟩ : ∃ x, x = (w4).drew := ⟨_, rfl⟩
          rw [← hW1]
          have hgW1 : (w4).grownBy W1 none := by rw [hW1]; exact gr_drew (World.grownBy.refl _ _)
          clear hW1
          replace ho := ho.pure hgW1
          replace hR3 := hR3.pure hgW1
          replace hri := hri.pure hgW1
          replace d0 := hgW1.k d0
          refine tree_p rfl rfl rfl rfl _ rfl (by simp) (fun K hK => ?_)
          apply Exists.intro
          refine ⟨fun wq K' hK' => ?_, ?_⟩
          · go_wp2_with fail
            exact hK'
          go_simp
          refine hK _ ?_
          clear hK K
          refine tree_p rfl rfl rfl rfl _ rfl (by simp) (fun K hK => ?_)
          apply Exists.intro
          refine ⟨fun wq K' hK' => ?_, ?_⟩
          · go_wp2_with fail
            exact hK'
          go_simp
          refine hK _ ?_
          clear hK K
          refine tree_p rfl rfl rfl rfl _ rfl (by simp) (fun K hK => ?_)
          apply Exists.intro
          refine ⟨fun wq K' hK' => ?_, ?_⟩
          · go_wp2_with fail
            exact hK'
          go_simp
          refine hK _ ?_
          clear hK K
          refine tree_p rfl rfl rfl rfl _ rfl (by simp) (fun K hK => ?_)
          apply Exists.intro
          refine ⟨fun wq K' hK' => ?_, ?_⟩
          · go_wp2_with fail
            exact hK'
          go_simp
          refine hK _ ?_
          clear hK K
          refine tree_p rfl rfl rfl rfl _ rfl (by simp) (fun K hK => ?_)
          apply Exists.intro
          refine ⟨fun wq K' hK' => ?_, ?_⟩
          · go_wp2_with fail
            exact hK'
          go_simp
          refine hK _ ?_
          clear hK K
          refine tree_b rfl rfl rfl rfl _ rfl (by simp) (fun K hK => ?_)
          apply Exists.intro
          refine ⟨fun wq hq K' hK' => ?_, ?_⟩
          · have dq := hq
            go_wp2_with fail
            exact hK'
          go_simp
          refine hK _ ?_
          clear hK K
          refine tree_p rfl rfl rfl rfl _ rfl (by simp) (fun K hK => ?_)
          apply Exists.intro
          refine ⟨fun wq K' hK' => ?_, ?_⟩
          · go_wp2_with fail
            exact hK'
          go_simp
          refine hK _ ?_
          clear hK K
          refine tree_p rfl rfl rfl rfl _ rfl (by simp) (fun K hK => ?_)
          apply Exists.intro
          refine ⟨fun wq K' hK' => ?_, ?_⟩
          · go_wp2_with fail
            exact hK'
          go_simp
          refine hK _ ?_
          clear hK K
          refine tree_p rfl rfl rfl rfl _ rfl (by simp) (fun K hK => ?_)
          apply Exists.intro
          refine ⟨fun wq K' hK' => ?_, ?_⟩
          · go_wp2_with fail
            exact hK'
          go_simp
          refine hK _ ?_
          clear hK K
          refine tree_e rfl rfl (fun K hK => ?_)
          go_wp2_with fail
          try go_simp
          refine hK _ _ ((gr_alloc (World.grownBy.refl _ none) _).k d0) ?_
          clear hK K
          obtain ⟨w9, hw9⟩ : ∃ x, x = (W1).alloc (.cells [.int .i64 0, .int .i64 (-1), .int .i64 j.length].toArray 3) := ⟨_, rfl⟩
          have hg9 : (W1).grownBy w9 none := by rw [hw9]; exact gr_alloc (World.grownBy.refl _ _) _
          have hb9 : Box w9 (W1).heap.size 3 [.int .i64 0, .int .i64 (-1), .int .i64 j.length] := by rw [hw9]; exact Box.new _ _ _
          rw [← hw9]
          clear hw9
          obtain ⟨x9, hx9⟩ : ∃ x, x = (W1).heap.size := ⟨_, rfl⟩
          rw [← hx9] at hb9 ⊢
          have hxl9 : (W1).heap.size ≤ x9 := by omega
          clear hx9
          have hbx9 : b < x9 := by have := ho.lt; omega
          replace ho := ho.pure hg9
          replace hR3 := hR3.pure hg9
          replace hri := hri.pure hg9
          replace d0 := hg9.k d0
          refine tree_e rfl rfl (fun K hK => ?_)
          go_wp2_with fail
          refine (pick_any b _ _ _ _ [0, -1, j.length] w9 ho.2 (by omega) (hb9.sl (row_ints _ _ _) (by omega) (by simp [maxLen])) rfl (by simp)).mono ?_
          rintro e w10 ⟨s10, rfl, _, ho10⟩
          go_wp2_with fail
          try go_simp
          refine hK _ _ (gr_cell ho10.1 d0 (by simp; omega)) ?_
          clear hK K
          replace ho := ho.trans ho10
          replace hR3 := hR3.s ho10 hbw
          replace hri := hri.s ho10 hb2
          replace d0 := gr_cell ho10.1 d0 (by simp; omega)
          refine tree_e rfl rfl (fun K hK => ?_)
          go_wp2_with fail
          try go_simp
          refine hK _ _ ((gr_alloc (World.grownBy.refl _ none) _).k d0) ?_
          clear hK K
          obtain ⟨w11, hw11⟩ : ∃ x, x = (w10).alloc (.cells [.int .i64 s10].toArray 3) := ⟨_, rfl⟩
          have hg11 : (w10).grownBy w11 none := by rw [hw11]; exact gr_alloc (World.grownBy.refl _ _) _
          have hb11 : Box w11 (w10).heap.size 3 [.int .i64 s10] := by rw [hw11]; exact Box.new _ _ _
          rw [← hw11]
          clear hw11
          obtain ⟨x11, hx11⟩ : ∃ x, x = (w10).heap.size := ⟨_, rfl⟩
          rw [← hx11] at hb11 ⊢
          have hxl11 : (w10).heap.size ≤ x11 := by omega
          clear hx11
          replace ho := ho.pure hg11
          replace hR3 := hR3.pure hg11
          replace hri := hri.pure hg11
          have hrb := row_le hqs
          have hfl0 := hfl'.out
          refine tree_e0 (by kernel_rfl) rfl rfl (fun K hK => ?_)
          obtain ⟨i0, hi, hz, h1, h2⟩ := info_parts info_int
          refine wp_pushAt (α := Int) _ (.tmp 58) (.tmp 64) _ rfl w2.heap.size 3 i0 _ 8 Tryz.underlying22 hi hz h1 h2 rfl _ _ _ ls[q] rfl rfl hri 0 ⟨x11, 0, none⟩ _ _ [s10] rfl rfl (hb11.sl (row_ints _ _ [s10]) (Nat.zero_le _) (by simp [maxLen])) ?_ ?_ ?_ ?_
          · first | omega | (simp; omega)
          · first | (simp [maxLen]; omega) | (unfold maxLen; omega)
          · have := hb11.lt; have := ho10.size; have := hgW1.size; have := hg9.size; omega
          intro A5 c5 w5 hown5 hG5
          try go_simp
          refine hK _ _ trivial ?_
          clear hK K
          have hO5 := hR3.outer hqr hG5
          have hR6 := hR3.put hqr hown5 hG5
          have hfl6 : Hid ((ls.set q (ls[q] ++ [s10])).flatten.length ≤ j.length + 1) := by rw [Hid, set_flat hqs]; exact Nat.succ_le_succ hfl'.out
          rw [show (ls[q] ++ [s10]).length = ls[q].length + 1 by simp] at hR6
          have ho5 := ho.new hbw hG5.1 (fun x e => by have := (hri.blk_lt e).1; have := hR3.le; omega)
          have ho6 := ho5.set hbw (p := ⟨g, q, none⟩) hgw (.slice A5 (ls[q].length + 1) c5)
          have hrl6 : (raws.set q ⟨A5, ls[q].length + 1, c5⟩).length = p.length := by rw [List.length_set]; exact hrl.out
          generalize raws.set q ⟨A5, ls[q].length + 1, c5⟩ = raws6 at *
          generalize ls.set q (ls[q] ++ [s10]) = ls6 at *
          replace hrl6 := hide hrl6
          refine tree_p rfl rfl rfl rfl _ rfl (by simp) (fun K hK => ?_)
          apply Exists.intro
          refine ⟨fun wq K' hK' => ?_, ?_⟩
          · go_wp2_with fail
            exact hK'
          go_simp
          refine hK _ ?_
          clear hK K
          refine tree_e0 (by kernel_rfl) rfl rfl (fun K hK => ?_)
          obtain ⟨cq, rfl, hc⟩ := hO5.cell_at (by decide) hqr
          have e0 : w5.cell? ⟨g, q, none⟩ = some (.slice raws[q].A raws[q].n raws[q].c) := by have := hc 0 _ rfl; rwa [show Enc.sz RawS = 1 from rfl, Nat.mul_one] at this
          have f0 := hO5.frozen q
          clear hc
          go_wp2_with fail
          try go_simp
          refine hK _ _ trivial ?_
          clear hK K
          refine tree_done ?_
          obtain ⟨w6, hw6⟩ : ∃ x, x = w5.setCell ⟨g, q, none⟩ (.slice A5 (ls[q].length + 1) c5) := ⟨_, rfl⟩
          rw [← hw6] at hR6 ho6 ⊢
          have hsz6 : w5.heap.size = w6.heap.size := by rw [hw6, heap_set]
          have hszG := hG5.1.size
          have hszx := hb11.lt
          clear hw6
          go_wp2_with fail
          refine (flip_any b _ _ _ ho6.2 (by omega) (by omega)).mono ?_
          rintro e wt ⟨ft, rfl, hot⟩
          have hRt := hR6.s hot hbw
          have hoT := ho6.trans hot
          have hszt := hot.size
          clear hot
          have hlL : ls6.length ≤ 50 := by rw [← hRt.len, hrl6.out]; exact hp
          have hlF : (ls6).flatten.length ≤ j.length + 1 := hfl6.out
          cases ft with
          | false =>
            go_wp2_with fail
            go_ret
            exact ⟨ls6, _, _, by rw [← hRt.len, hrl6.out]; rfl, hRt.sl.mono (by omega), hlF, by have := hRt.len; have := hrl6.out; omega, by omega, hoT.mono (by omega)⟩
          | true =>
            go_wp2_with (at_builtin; obtain ⟨i0, hi, hz, h1, h2⟩ := info_parts info_ints; refine wpList_pushAt (α := RawS) _ rfl (.tmp 69) (.tmp 70) _ rfl w.heap.size 22 i0 _ 24 Tryz.underlying31 hi hz h1 h2 rfl _ _ _ raws6 rfl ?c1 (by exact hRt.out.pure (gr_alloc (World.grownBy.refl _ _) _)) 0 ⟨_, 0, none⟩ 1 1 [⟨none, 0, 0⟩] rfl rfl (by exact sl_oneAt _ 0 _ _ _ _ (by first | rfl | simp) (Nat.zero_le _) rfl) ?c2 ?c3 ?c4 ?_)
            case c1 => exact (hrl6.out).symm
            case c2 => have := hrl6.out; simp; omega
            case c3 => have := hrl6.out; simp [maxLen]; omega
            case c4 => have := hoT.size; simp; omega
            intro A7 c7 w7 hown7 hG7
            have hq7 := gr_alloc (World.grownBy.refl wt none) (.cells #[.slice none 0 0] 22)
            have hR7 := (hRt.pure hq7).push hown7 hG7
            have ho7 := (hoT.pure hq7).new hbw hG7.1 (fun x e => by simp only [blk, Option.map_some, Option.some.injEq] at e; omega)
            have hl7 : (raws6 ++ [(⟨none, 0, 0⟩ : RawS)]).length = (ls6 ++ [[]]).length := hR7.len
            have hf7 : (ls6 ++ [[]]).flatten.length = (ls6).flatten.length := by simp
            have hn7 : (ls6 ++ [[]]).length = ls6.length + 1 := by simp
            have hcap := hown7.cap
            rw [hl7] at hcap
            have hn8 := hide hRt.len
            replace hn7 := hide hn7
            replace hf7 := hide hf7
            replace hl7 := hide hl7
            go_wp2
            go_ret
            exact ⟨ls6 ++ [[]], _, _, by rw [hn7.out, ← hn8.out]; rfl, hR7.sl.mono (by omega), by rw [hf7.out]; exact hlF, hcap, by rw [hn7.out]; omega, ho7.mono (by omega)⟩
      · have hb0 : decide (((p.length : Nat) : Int) > 0) = false := decide_eq_false (by omega)
        go_wp2_with fail
        refine (flip_any b _ _ _ ho.2 (by omega) (by omega)).mono ?_
        rintro e wt ⟨ft, rfl, hot⟩
        have hRt := hR.s hot hbw
        have hoT := ho.trans hot
        have hszt := hot.size
        clear hot
        have hlL : ls.length ≤ 50 := by rw [← hRt.len, hrl.out]; exact hp
        have hlF : (ls).flatten.length ≤ j.length + 1 := Nat.le_succ_of_le hfl'.out
        cases ft with
        | false =>
          go_wp2_with fail
          go_ret
          exact ⟨ls, _, _, by rw [← hRt.len, hrl.out]; rfl, hRt.sl.mono (by omega), hlF, by have := hRt.len; have := hrl.out; omega, by omega, hoT.mono (by omega)⟩
        | true =>
          go_wp2_with (at_builtin; obtain ⟨i0, hi, hz, h1, h2⟩ := info_parts info_ints; refine wpList_pushAt (α := RawS) _ rfl (.tmp 69) (.tmp 70) _ rfl w.heap.size 22 i0 _ 24 Tryz.underlying31 hi hz h1 h2 rfl _ _ _ raws rfl ?c1 (by exact hRt.out.pure (gr_alloc (World.grownBy.refl _ _) _)) 0 ⟨_, 0, none⟩ 1 1 [⟨none, 0, 0⟩] rfl rfl (by exact sl_oneAt _ 0 _ _ _ _ (by first | rfl | simp) (Nat.zero_le _) rfl) ?c2 ?c3 ?c4 ?_)
          case c1 => exact (hrl.out).symm
          case c2 => have := hrl.out; simp; omega
          case c3 => have := hrl.out; simp [maxLen]; omega
          case c4 => have := hoT.size; simp; omega
          intro A7 c7 w7 hown7 hG7
          have hq7 := gr_alloc (World.grownBy.refl wt none) (.cells #[.slice none 0 0] 22)
          have hR7 := (hRt.pure hq7).push hown7 hG7
          have ho7 := (hoT.pure hq7).new hbw hG7.1 (fun x e => by simp only [blk, Option.map_some, Option.some.injEq] at e; omega)
          have hl7 : (raws ++ [(⟨none, 0, 0⟩ : RawS)]).length = (ls ++ [[]]).length := hR7.len
          have hf7 : (ls ++ [[]]).flatten.length = (ls).flatten.length := by simp
          have hn7 : (ls ++ [[]]).length = ls.length + 1 := by simp
          have hcap := hown7.cap
          rw [hl7] at hcap
          have hn8 := hide hRt.len
          replace hn7 := hide hn7
          replace hf7 := hide hf7
          replace hl7 := hide hl7
          go_wp2
          go_ret
          exact ⟨ls ++ [[]], _, _, by rw [hn7.out, ← hn8.out]; rfl, hR7.sl.mono (by omega), by rw [hf7.out]; exact hlF, hcap, by rw [hn7.out]; omega, ho7.mono (by omega)⟩

end Go.Proofs.YtanioobepfllgaaGreatDoor

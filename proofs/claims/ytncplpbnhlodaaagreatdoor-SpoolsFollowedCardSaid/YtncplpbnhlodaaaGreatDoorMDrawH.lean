/- Contracts of functions that this seat's laws reach, each: what one call returns and what it leaves in memory; no condition beyond each theorem's own hypotheses. -/
import Derived.Test.YtncplpbnhlodaaaGreatDoorMDrawE
import Derived.Test.YtncplpbnhlodaaaGreatDoorMDrawA
import Derived.Test.YtncplpbnhlodaaaGreatDoorMSpoolC
import Derived.Test.YtncplpbnhlodaaaGreatDoorMPathTxC
set_option linter.unusedVariables false
set_option linter.unusedSimpArgs false
namespace Go.Proofs.YtncplpbnhlodaaaGreatDoor
open Go Go.RowKit Go.Bl

theorem rdD_bad {st : List Drw} {Ld : List (List UInt8)} {E : Bool} {k : Nat} {x : List UInt8} {RR : List Drw × Int × Int} (hR : endD (readL stepD [] 0 Ld E) = RR) (hrd : readL stepD [] 0 Ld E = readL stepD st k (Ld.drop k) E) (hxd : Ld.drop k = x :: Ld.drop (k + 1)) (h : stepD st x = none ∨ (Ld.drop (k + 1) = [] ∧ E = false)) : RR = ([], (k : Int), 9) := by
  rw [← hR, hrd, hxd]
  rcases h with h | ⟨h, rfl⟩
  · rw [readL_bad _ _ _ h]; rfl
  · rw [h, readL_open]; rfl

theorem rdD_good {st st' : List Drw} {Ld : List (List UInt8)} {E : Bool} {k : Nat} {x : List UInt8} (hrd : readL stepD [] 0 Ld E = readL stepD st k (Ld.drop k) E) (hxd : Ld.drop k = x :: Ld.drop (k + 1)) (h : stepD st x = some st') (he : Ld.drop (k + 1) ≠ [] ∨ E = true) : readL stepD [] 0 Ld E = readL stepD st' (k + 1) (Ld.drop (k + 1)) E := by
  rw [hrd, hxd, readL_good _ _ _ h he]

set_option maxHeartbeats 4000000 in
set_option maxRecDepth 100000 in
theorem drawRead_any (s : ByteArray) (w : World) :
    Calls Tryz.prog 21 #[.string s] w fun e w' => ∃ A c, e = .returned (.tuple #[.slice A (readD s.data.toList).1.length c, .int .i64 (readD s.data.toList).2.1, .int .i64 (readD s.data.toList).2.2]) ∧ Sl w' 0 A (readD s.data.toList).1 ∧ w.grownBy w' none := by
  have hsz := Lib.size_eq s
  obtain ⟨RR, hRR⟩ : ∃ r, readD s.data.toList = r := ⟨_, rfl⟩
  rw [hRR]
  by_cases hbig : 200000 < s.size
  · have hR : RR = ([], 0, 2) := by rw [← hRR]; unfold readD; rw [if_pos (by omega)]
    subst hR
    clear hRR hsz
    have hb : decide ((s.size : Int) > 200000) = true := by simp; omega
    go_enter Tryz.func21, Tryz.ntmps21
    go_wp2_with fail
    exact bodyPost_ret (v := .tuple #[.slice none 0 0, .int .i64 0, .int .i64 2]) (by simp [results, Tryz.results21, go_sem]) rfl ⟨none, 0, rfl, Sl.nil, World.grownBy.refl _ _⟩
  · have hb : decide ((s.size : Int) > 200000) = false := by simp; omega
    have hLn := kitLines_any s w (by omega)
    obtain ⟨Ld, hLd⟩ : ∃ l, (linesK s.data.toList).1 = l := ⟨_, rfl⟩
    obtain ⟨E, hE⟩ : ∃ l, (linesK s.data.toList).2 = l := ⟨_, rfl⟩
    have hLB : linesB s = Ld.map mkB := by unfold linesB; rw [hLd]
    rw [hE] at hLn
    have hR : Hid (endD (readL stepD [] 0 Ld E) = RR) := by rw [Hid, ← hRR]; unfold readD; rw [if_neg (by omega), hLd, hE]
    obtain ⟨hk1, hk2⟩ := linesK_size s.data.toList
    rw [hLd] at hk1 hk2
    have hls : Hid (∀ x ∈ linesB s, x.size ≤ 200000) := by
      intro x hx
      rw [hLB] at hx
      obtain ⟨y, hy, rfl⟩ := List.mem_map.1 hx
      have := hk1 y hy
      rw [mkB_size]; omega
    have hll : (linesB s).length ≤ 200001 := by rw [hLB, List.length_map]; omega
    clear hk1 hk2
    obtain ⟨i0, hi, hz, hi1, hi2⟩ := info_parts info_drw
    generalize linesB s = L at *
    replace hsz := hide hsz
    replace hRR := hide hRR
    replace hLd := hide hLd
    replace hE := hide hE
    replace hLB := hide hLB
    go_enter Tryz.func21, Tryz.ntmps21
    go_wp2_with fail
    refine hLn.mono ?_
    rintro e w1 ⟨A1, c1, rfl, hL, hg1⟩
    clear hLn
    go_wp2_with fail
    go_loopw [7, 23] (fun o i wr => ∃ (k : Nat) (st : List Drw) (A2 : Option Addr) (c2 : Nat), k ≤ L.length ∧ i = .int .i64 k ∧ o = .slice A2 st.length c2 ∧ Own wr w1.heap.size 51 A2 c2 st ∧ Hid (readL stepD [] 0 Ld E = readL stepD st k (Ld.drop k) E) ∧ Hid (st.length ≤ k) ∧ w1.grownBy wr none) (fun _ i _ => L.length - (intOf i).toNat)
    case atStart => exact ⟨0, [], none, 0, Nat.zero_le _, rfl, rfl, Own.nil _ _ _, rfl, Nat.le_refl _, World.grownBy.refl _ _⟩
    case round =>
      obtain ⟨k, st, A2, c2, hk, rfl, rfl, hown, hrd, hrk, hg⟩ := hrel
      by_cases hlt : k < L.length
      · obtain ⟨g, o, cx, rfl, hb0, hb1, rfl, hc⟩ := (hL.pure hg).at_ (by decide) hlt
        have c0 : wr.cell? ⟨g, o + k, none⟩ = some (.string L[k]) := by have := hc 0 _ rfl; rwa [show Enc.sz ByteArray = 1 from rfl, Nat.mul_one] at this
        clear hc
        have hxs := hls.out _ (List.getElem_mem hlt)
        have hxd : Hid (Ld.drop k = L[k].data.toList :: Ld.drop (k + 1)) := by
          have hlk : k < Ld.length := by have := congrArg List.length hLB.out; rw [List.length_map] at this; omega
          have e : L[k] = mkB Ld[k] := by simp only [hLB.out, List.getElem_map]
          rw [Hid, e, mkB_data]
          exact List.drop_eq_getElem_cons hlk
        have hlLd : L.length = Ld.length := by have := congrArg List.length hLB.out; rwa [List.length_map] at this
        replace hlLd := hide hlLd
        generalize hxk : L[k] = x at *
        clear hxk
        have hRl := fun wx => readLine_any x wx hxs
        have hst : stepD st x.data.toList = (drwR (piecesB 32 x)).map fun d => st ++ [d] := by unfold stepD; rw [drwR_pieces]
        obtain ⟨R, hRe⟩ : ∃ R, drwR (piecesB 32 x) = R := ⟨_, rfl⟩
        rw [hRe] at hRl hst
        clear hRe
        have hrkk := hrk.out
        go_wp2_with fail
        refine (hRl _).mono ?_
        rintro e w2 ⟨d, rfl, hdv, hg2⟩
        clear hRl
        go_upto_region 9 with fail
        obtain ⟨w10, hw10⟩ : ∃ x, x = (w2).alloc (.cells [.int .i64 d.at_, .string d.spool, .int .i64 d.long].toArray 51) := ⟨_, rfl⟩
        have hg10 : (w2).grownBy w10 none := by rw [hw10]; exact gr_alloc (World.grownBy.refl _ _) _
        have hb10 : Box w10 (w2).heap.size 51 [.int .i64 d.at_, .string d.spool, .int .i64 d.long] := by rw [hw10]; exact Box.new _ _ _
        have hxs10 := hb10.lt
        rw [← hw10]
        clear hw10
        obtain ⟨x10, hx10⟩ : ∃ x, x = (w2).heap.size := ⟨_, rfl⟩
        rw [← hx10] at hb10 hxs10 ⊢
        have hxl10 : (w2).heap.size ≤ x10 := by omega
        clear hx10
        have hgr := hg2.t hg10
        have hgA := hg1.t (hg.t hgr)
        obtain ⟨b0, _⟩ := hb10.c 0 rfl
        obtain ⟨b1, _⟩ := hb10.c 1 rfl
        obtain ⟨b2, _⟩ := hb10.c 2 rfl
        have hown10 := hown.pure hgr
        have hsA := (hg.t hgr).size
        clear hown
        cases R with
        | none =>
          have hRk := rdD_bad hR.out hrd.out hxd.out (.inl hst)
          replace hRk := hide hRk
          clear hst hown10 hdv
          go_wp2_with fail
          exact bodyPost_ret (v := .tuple #[.slice none 0 0, .int .i64 k, .int .i64 9]) (by simp [results, Tryz.results21, go_sem]) rfl ⟨none, 0, by rw [hRk.out]; rfl, by rw [hRk.out]; exact Sl.nil, hgA⟩
        | some v =>
          obtain rfl := hdv v rfl
          have hst' : stepD st x.data.toList = some (st ++ [d]) := hst
          clear hst hdv
          cases E with
          | true =>
            have hrd' := hide (rdD_good hrd.out hxd.out hst' (.inr rfl))
            clear hst'
            clear hrd
            go_wp2_with (at_builtin; refine wpList_push (α := Drw) _ rfl (.tmp 47) (.tmp 49) _ rfl w1.heap.size 51 i0 _ 32 Tryz.underlying28 hi hz hi1 hi2 rfl _ _ _ st rfl ?c1 (by exact hown10.pure (gr_alloc (World.grownBy.refl _ _) _)) 0 ⟨_, 0, none⟩ 1 1 [d] rfl rfl (by exact sl_oneAt _ 0 _ _ _ _ (by first | rfl | simp) (Nat.zero_le _) rfl) ?c2 ?c3 ?c4 ?_)
            case c1 => rfl
            case c2 => first | omega | (simp; omega)
            case c3 => first | (simp [maxLen]; omega) | (unfold maxLen; omega)
            case c4 => first | omega | (simp; omega)
            intro A5 c5 w5 hown5 hup5
            have hg5 := hup5.gr (Nat.le_refl _) (gr_alloc (hg.t hgr) (.cells #[.int .i64 d.at_, .string d.spool, .int .i64 d.long] 51))
            have hl5 : st.length + 1 = (st ++ [d]).length := by simp
            replace hl5 := hide hl5
            clear hown10 hup5
            go_wp2_with fail
            first
              | exact ⟨⟨k + 1, st ++ [d], A5, c5, by omega, by go_num, by simp, hown5, hrd'.out, by rw [Hid, ← hl5.out]; omega, hg5⟩, by simp [intOf]; omega⟩
              | (go_roundw; (case rel => exact ⟨k + 1, st ++ [d], A5, c5, by omega, by go_num, by simp, hown5, hrd'.out, by rw [Hid, ← hl5.out]; omega, hg5⟩); (case measure => simp [intOf]; omega))
          | false =>
            by_cases hA : k + 1 = L.length
            · have hd : ((k : Int) == (L.length : Int) - 1) = true := by simp; omega
              have hdl : Ld.drop (k + 1) = [] := List.drop_of_length_le (by have := hlLd.out; omega)
              have hRk := rdD_bad hR.out hrd.out hxd.out (.inr ⟨hdl, rfl⟩)
              replace hRk := hide hRk
              clear hdl hown10 hst'
              replace hA := hide hA
              go_wp2_with fail
              exact bodyPost_ret (v := .tuple #[.slice none 0 0, .int .i64 k, .int .i64 9]) (by simp [results, Tryz.results21, go_sem]) rfl ⟨none, 0, by rw [hRk.out]; rfl, by rw [hRk.out]; exact Sl.nil, hgA⟩
            · have hd : ((k : Int) == (L.length : Int) - 1) = false := by rw [beq_eq_false_iff_ne]; omega
              have hne : Ld.drop (k + 1) ≠ [] := by
                intro e
                have := congrArg List.length e
                rw [List.length_drop] at this
                have := hlLd.out
                simp at *; omega
              have hrd' := hide (rdD_good hrd.out hxd.out hst' (.inl hne))
              clear hne
              replace hA := hide hA
              clear hst'
              clear hrd
              go_wp2_with (at_builtin; refine wpList_push (α := Drw) _ rfl (.tmp 47) (.tmp 49) _ rfl w1.heap.size 51 i0 _ 32 Tryz.underlying28 hi hz hi1 hi2 rfl _ _ _ st rfl ?c1 (by exact hown10.pure (gr_alloc (World.grownBy.refl _ _) _)) 0 ⟨_, 0, none⟩ 1 1 [d] rfl rfl (by exact sl_oneAt _ 0 _ _ _ _ (by first | rfl | simp) (Nat.zero_le _) rfl) ?c2 ?c3 ?c4 ?_)
              case c1 => rfl
              case c2 => first | omega | (simp; omega)
              case c3 => first | (simp [maxLen]; omega) | (unfold maxLen; omega)
              case c4 => first | omega | (simp; omega)
              intro A5 c5 w5 hown5 hup5
              have hg5 := hup5.gr (Nat.le_refl _) (gr_alloc (hg.t hgr) (.cells #[.int .i64 d.at_, .string d.spool, .int .i64 d.long] 51))
              have hl5 : st.length + 1 = (st ++ [d]).length := by simp
              replace hl5 := hide hl5
              clear hown10 hup5
              go_wp2_with fail
              first
                | exact ⟨⟨k + 1, st ++ [d], A5, c5, by omega, by go_num, by simp, hown5, hrd'.out, by rw [Hid, ← hl5.out]; omega, hg5⟩, by simp [intOf]; omega⟩
                | (go_roundw; (case rel => exact ⟨k + 1, st ++ [d], A5, c5, by omega, by go_num, by simp, hown5, hrd'.out, by rw [Hid, ← hl5.out]; omega, hg5⟩); (case measure => simp [intOf]; omega))
      · obtain rfl : k = L.length := by omega
        have hsl := hown.sl.mono (Nat.zero_le _)
        have hdl : Ld.drop L.length = [] := List.drop_of_length_le (by have := congrArg List.length hLB.out; rw [List.length_map] at this; omega)
        have hend : finD st = RR := by rw [← hR.out, hrd.out, hdl]; rfl
        have hC := textFault_any A2 c2 st wr hsl
        obtain ⟨F, hF⟩ : ∃ F, txsF st = F := ⟨_, rfl⟩
        rw [hF] at hC
        unfold finD at hend
        rw [hF] at hend
        clear hrd hdl hF
        by_cases hF0 : F = 0
        · subst hF0
          rw [if_pos rfl] at hend
          replace hend := hide hend
          go_wp2_with fail
          refine hC.mono ?_
          rintro e w2 ⟨rfl, hg2⟩
          clear hC
          go_wp2_with fail
          exact bodyPost_ret (v := .tuple #[.slice A2 st.length c2, .int .i64 0, .int .i64 0]) (by simp [results, Tryz.results21, go_sem]) rfl ⟨A2, c2, by rw [← hend.out], by rw [← hend.out]; exact hsl.pure hg2, hg1.t (hg.t hg2)⟩
        · have hb0 : (F != 0) = true := by simp [hF0]
          rw [if_neg hF0] at hend
          replace hend := hide hend
          replace hF0 := hide hF0
          go_wp2_with fail
          refine hC.mono ?_
          rintro e w2 ⟨rfl, hg2⟩
          clear hC
          go_wp2_with fail
          exact bodyPost_ret (v := .tuple #[.slice none 0 0, .int .i64 0, .int .i64 F]) (by simp [results, Tryz.results21, go_sem]) rfl ⟨none, 0, by rw [← hend.out]; rfl, by rw [← hend.out]; exact Sl.nil, hg1.t (hg.t hg2)⟩

end Go.Proofs.YtncplpbnhlodaaaGreatDoor

namespace Go.Proofs.YtncplpbnhlodaaaGreatDoor
open Go Go.RowKit Go.Bl

/-- the state of the reader: block xo holds the row of the draws read so far -/
def RdW (W0 : World) (xo lo k : Nat) (st : List Drw) (w : World) : Prop := ∃ (A : Option Addr) (c : Nat), Own w lo 51 A c st ∧ Box w xo 28 [.slice A st.length c] ∧ st.length ≤ k ∧ W0.grownBy w none ∧ W0.heap.size ≤ xo ∧ xo < lo ∧ lo ≤ w.heap.size

theorem RdW.gr {W0 : World} {xo lo k : Nat} {st : List Drw} {w : World} (h : RdW W0 xo lo k st w) : W0.grownBy w none := by
  obtain ⟨A, c, _, _, _, q, _⟩ := h; exact q

theorem RdW.up {W0 : World} {xo lo k : Nat} {st : List Drw} {w w' : World} (h : RdW W0 xo lo k st w) (hg : w.grownBy w' none) : RdW W0 xo lo k st w' := by
  obtain ⟨A, c, q1, q2, q3, q5, q6, q7, q8⟩ := h
  exact ⟨A, c, q1.pure hg, q2.pure hg, q3, q5.t hg, q6, q7, Nat.le_trans q8 hg.size⟩

theorem RdW.more {W0 : World} {xo lo k n : Nat} {st : List Drw} {w : World} (h : RdW W0 xo lo k st w) (hk : k ≤ n) : RdW W0 xo lo n st w := by
  obtain ⟨A, c, q1, q2, q3, q5⟩ := h
  exact ⟨A, c, q1, q2, by omega, q5⟩

theorem numbersInTwo_any (a c : ByteArray) (w : World) (ha : a.size ≤ 9223372036854775807) (hc : c.size ≤ 9223372036854775807) (hT : Tab w) :
    Calls Tryz.prog 56 #[.slice (some ⟨w.heap.size, 0, none⟩) 2 2, .int .i64 15] (w.alloc (.cells #[.string a, .string c] 9)) fun e w' => ∃ A' n m c', e = .returned (.tuple #[.slice A' 2 c', .bool (numsB [a, c]).isSome]) ∧ (∀ v, numsB [a, c] = some v → v = [n, m]) ∧ Sl w' 0 A' [n, m] ∧ w.grownBy w' none ∧ (w.alloc (.cells #[.string a, .string c] 9)).grownBy w' none := by
  refine (numbersIn_any (some ⟨w.heap.size, 0, none⟩) 2 [a, c] _ (sl_lit w 0 [.string a, .string c] _ [a, c] (Nat.zero_le _) (by simp [maxLen]) (row_strT _ _ _)) ?_ (by simp) (hT.gr (gr_alloc (World.grownBy.refl _ _) _))).mono ?_
  · intro x hx
    simp only [List.mem_cons, List.not_mem_nil, or_false] at hx
    rcases hx with rfl | rfl <;> assumption
  · rintro e w' ⟨A', r, c', rfl, hr, hv, hO, hg⟩
    obtain ⟨n, m, rfl⟩ : ∃ n m, r = [n, m] := by
      match r, hr with
      | [n, m], _ => exact ⟨n, m, rfl⟩
    exact ⟨A', n, m, c', rfl, fun v h => (hv v h).symm, hO.sl.mono (Nat.zero_le _), gr_trans (gr_alloc (World.grownBy.refl w none) _) hg, hg⟩

set_option maxHeartbeats 4000000 in
set_option maxRecDepth 100000 in
theorem rdwClo_any (W0 : World) (xo lo k : Nat) (st : List Drw) (x : ByteArray) (w : World) (hS : RdW W0 xo lo k st w) (hx : x.size ≤ 200000) (hk : k ≤ 300000) (hT : Tab W0) :
    Calls Tryz.prog 54 #[.string x, .pointer (some ⟨xo, 0, none⟩)] w fun e w' => e = .returned (.bool (stepD st x.data.toList).isSome) ∧ (∀ st', stepD st x.data.toList = some st' → RdW W0 xo lo (k + 1) st' w') ∧ W0.grownBy w' none := by
  obtain ⟨A2, c2, hown, hbox, hrk, hg, h0, hxl, hlo⟩ := hS
  obtain ⟨i0, hi, hz, h1, h2⟩ := info_parts info_drw
  have hW := refWords_any x w hx
  obtain ⟨hp1, hp2⟩ := piecesB_small 32 hx
  have hst : stepD st x.data.toList = (drwR (piecesB 32 x)).map fun d => st ++ [d] := by unfold stepD; rw [drwR_pieces]
  rw [hst]
  clear hst
  generalize piecesB 32 x = ps at *
  go_enter Tryz.func54, Tryz.ntmps54
  go_wp2_with fail
  refine hW.mono ?_
  rintro e w3 ⟨A3, rfl, hl, hg3⟩
  clear hW
  have hgA := hg.t hg3
  cases hok : okW ps with
  | false =>
    have hD := hide (drwR_bad hok)
    replace hok := hide hok
    go_wp2_with fail
    all_goals (go_ret; rw [hD.out]; exact ⟨rfl, (fun st2 e => by cases e), hgA⟩)
  | true =>
    by_cases h3 : ps.length = 3
    · obtain ⟨a, b, c, rfl⟩ : ∃ a b c, ps = [a, b, c] := by
        match ps, h3 with
        | [a, b, c], _ => exact ⟨a, b, c, rfl⟩
      have hD := hide (drwR_ok hok)
      replace hok := hide hok
      clear h3
      obtain ⟨g, o, rfl, -, hgl⟩ := Sl.cells hl (by simp) (by decide)
      have c0 := strs_cells hl 0 a rfl
      have c1 := strs_cells hl 1 b rfl
      have c2 := strs_cells hl 2 c rfl
      simp only [Nat.add_zero] at c0
      have ha := hp1 a (by simp)
      have hc := hp1 c (by simp)
      clear hp1 hp2
      have hN := fun wx (hTx : Tab wx) => numbersInTwo_any a c wx ha hc hTx
      obtain ⟨R, hR⟩ : ∃ R, numsB [a, c] = R := ⟨_, rfl⟩
      rw [hR] at hN
      replace hD := hD.out
      rw [hR] at hD
      replace hD := hide hD
      have hbox3 := hbox.pure hg3
      have hown3 := hown.pure hg3
      replace hR := hide hR
      go_upto_region 4 with fail
      refine wp_region_tree (fun wx => w3.grownBy wx none) [2, 2, 1, 2, 2, 1, 0, 0, 2, 2, 2, 2, 2] (.bl 0 (.bl 1 (.bl 2 (.bl 3 (.bl 4 (.bl 5 (.ef 6 (.ef 7 (.bl 8 (.bl 9 (.bl 10 (.bl 11 (.bl 12 .done))))))))))))) (by kernel_rfl) (by kernel_rfl) (gr_drew (World.grownBy.refl _ _)) ?_
      obtain ⟨W1, hW1⟩ : ∃ x, x = (w3).drew := ⟨_, rfl⟩
      rw [← hW1]
      have hgW1 : (w3).grownBy W1 none := by rw [hW1]; exact gr_drew (World.grownBy.refl _ _)
      clear hW1
      refine tree_p rfl rfl rfl rfl _ rfl (by simp) (fun K hK => ?_)
      apply Exists.intro
      refine ⟨fun wq K' hK' => ?_, ?_⟩
      · go_wp2_with fail
        exact hK'
      go_simp
      refine hK _ ?_
      clear hK K
      refine tree_p rfl rfl rfl rfl _ rfl (by simp) (fun K hK => ?_)
      apply Exists.intro
      refine ⟨fun wq K' hK' => ?_, ?_⟩
      · go_wp2_with fail
        exact hK'
      go_simp
      refine hK _ ?_
      clear hK K
      refine tree_b rfl rfl rfl rfl _ rfl (by simp) (fun K hK => ?_)
      apply Exists.intro
      refine ⟨fun wq hq K' hK' => ?_, ?_⟩
      · have y0 := hq.k c0
        have y2 := hq.k c2
        go_wp2_with fail
        exact hK'
      go_simp
      refine hK _ ?_
      clear hK K
      refine tree_p rfl rfl rfl rfl _ rfl (by simp) (fun K hK => ?_)
      apply Exists.intro
      refine ⟨fun wq K' hK' => ?_, ?_⟩
      · go_wp2_with fail
        exact hK'
      go_simp
      refine hK _ ?_
      clear hK K
      refine tree_p rfl rfl rfl rfl _ rfl (by simp) (fun K hK => ?_)
      apply Exists.intro
      refine ⟨fun wq K' hK' => ?_, ?_⟩
      · go_wp2_with fail
        exact hK'
      go_simp
      refine hK _ ?_
      clear hK K
      refine tree_b rfl rfl rfl rfl _ rfl (by simp) (fun K hK => ?_)
      apply Exists.intro
      refine ⟨fun wq hq K' hK' => ?_, ?_⟩
      · have y0 := hq.k c0
        have y2 := hq.k c2
        go_wp2_with fail
        exact hK'
      go_simp
      refine hK _ ?_
      clear hK K
      refine tree_e0 (by kernel_rfl) rfl rfl (fun K hK => ?_)
      go_wp2_with fail
      try go_simp
      refine hK _ _ trivial ?_
      clear hK K
      refine tree_e0 (by kernel_rfl) rfl rfl (fun K hK => ?_)
      go_wp2_with fail
      refine (hN _ ((hT.gr (hg.t hg3)).gr hgW1)).mono ?_
      rintro e w4 ⟨A4, n, m, c4, rfl, hv, hl4, hg4, hg4'⟩
      clear hN
      have hgw4 := gr_trans hgW1 hg4
      have hgA4 := hg3.t hgw4
      have d1 := hgw4.k c1
      clear c0 c1 c2
      go_wp2_with fail
      try go_simp
      refine hK _ _ trivial ?_
      clear hK K
      refine tree_p rfl rfl rfl rfl _ rfl (by simp) (fun K hK => ?_)
      apply Exists.intro
      refine ⟨fun wq K' hK' => ?_, ?_⟩
      · go_wp2_with fail
        exact hK'
      go_simp
      refine hK _ ?_
      clear hK K
      refine tree_p rfl rfl rfl rfl _ rfl (by simp) (fun K hK => ?_)
      apply Exists.intro
      refine ⟨fun wq K' hK' => ?_, ?_⟩
      · go_wp2_with fail
        exact hK'
      go_simp
      refine hK _ ?_
      clear hK K
      refine tree_p rfl rfl rfl rfl _ rfl (by simp) (fun K hK => ?_)
      apply Exists.intro
      refine ⟨fun wq K' hK' => ?_, ?_⟩
      · go_wp2_with fail
        exact hK'
      go_simp
      refine hK _ ?_
      clear hK K
      refine tree_p rfl rfl rfl rfl _ rfl (by simp) (fun K hK => ?_)
      apply Exists.intro
      refine ⟨fun wq K' hK' => ?_, ?_⟩
      · go_wp2_with fail
        exact hK'
      go_simp
      refine hK _ ?_
      clear hK K
      refine tree_p rfl rfl rfl rfl _ rfl (by simp) (fun K hK => ?_)
      apply Exists.intro
      refine ⟨fun wq K' hK' => ?_, ?_⟩
      · go_wp2_with fail
        exact hK'
      go_simp
      refine hK _ ?_
      clear hK K
      refine tree_done ?_
      go_wp2_with fail
      obtain ⟨g4, o4, rfl, -, hgl4⟩ := Sl.cells hl4 (by simp) (by decide)
      have v0 : w4.cell? ⟨g4, o4, none⟩ = some (.int .i64 n) := by
        obtain ⟨g', o', cx, e, _, _, rfl, hc⟩ := hl4.at_ (by decide) (show 0 < 2 by decide)
        cases e
        exact hc 0 _ rfl
      have v1 : w4.cell? ⟨g4, o4 + 1, none⟩ = some (.int .i64 m) := by
        obtain ⟨g', o', cx, e, _, _, rfl, hc⟩ := hl4.at_ (by decide) (show 1 < 2 by decide)
        cases e
        exact hc 0 _ rfl
      have hown4 := hown3.pure hgw4
      have hbox4 := hbox3.pure hgw4
      obtain ⟨y0, y1⟩ := hbox4.c 0 rfl
      have hg04 := hg.t hgA4
      have hsz4 := hgA4.size
      have hDr : Hid (drwR [a, b, c] = if R.isSome then some (⟨n, b, m⟩ : Drw) else none) := by
        rw [Hid, hD.out]
        cases R with
        | none => rfl
        | some r => obtain rfl := hv r rfl; rfl
      replace hv := hide hv
      refine wp_region_tree (fun wx => w4.grownBy wx none) [1, 2, 2, 1, 2, 2, 1, 2, 2, 1, 2, 0, 0, 0] (.bl 0 (.bl 1 (.bl 2 (.bl 3 (.bl 4 (.bl 5 (.bl 6 (.bl 7 (.bl 8 (.bl 9 (.bl 10 (.ef 11 (.ef 12 (.ef 13 .done)))))))))))))) (by kernel_rfl) (by kernel_rfl) (gr_drew (World.grownBy.refl _ _)) ?_
      obtain ⟨W2, hW2⟩ : ∃ x, x = (w4).drew := ⟨_, rfl⟩
      rw [← hW2]
      have hgW2 : (w4).grownBy W2 none := by rw [hW2]; exact gr_drew (World.grownBy.refl _ _)
      clear hW2
      refine tree_b rfl rfl rfl rfl _ rfl (by simp) (fun K hK => ?_)
      apply Exists.intro
      refine ⟨fun wq hq K' hK' => ?_, ?_⟩
      · have u0 := hq.k y0
        have u1 := hq.k v0
        have u2 := hq.k d1
        have u3 := hq.k v1
        go_wp2_with fail
        exact hK'
      go_simp
      refine hK _ ?_
      clear hK K
      refine tree_p rfl rfl rfl rfl _ rfl (by simp) (fun K hK => ?_)
      apply Exists.intro
      refine ⟨fun wq K' hK' => ?_, ?_⟩
      · go_wp2_with fail
        exact hK'
      go_simp
      refine hK _ ?_
      clear hK K
      refine tree_p rfl rfl rfl rfl _ rfl (by simp) (fun K hK => ?_)
      apply Exists.intro
      refine ⟨fun wq K' hK' => ?_, ?_⟩
      · go_wp2_with fail
        exact hK'
      go_simp
      refine hK _ ?_
      clear hK K
      refine tree_b rfl rfl rfl rfl _ rfl (by simp) (fun K hK => ?_)
      apply Exists.intro
      refine ⟨fun wq hq K' hK' => ?_, ?_⟩
      · have u0 := hq.k y0
        have u1 := hq.k v0
        have u2 := hq.k d1
        have u3 := hq.k v1
        go_wp2_with fail
        exact hK'
      go_simp
      refine hK _ ?_
      clear hK K
      refine tree_p rfl rfl rfl rfl _ rfl (by simp) (fun K hK => ?_)
      apply Exists.intro
      refine ⟨fun wq K' hK' => ?_, ?_⟩
      · go_wp2_with fail
        exact hK'
      go_simp
      refine hK _ ?_
      clear hK K
      refine tree_p rfl rfl rfl rfl _ rfl (by simp) (fun K hK => ?_)
      apply Exists.intro
      refine ⟨fun wq K' hK' => ?_, ?_⟩
      · go_wp2_with fail
        exact hK'
      go_simp
      refine hK _ ?_
      clear hK K
      refine tree_b rfl rfl rfl rfl _ rfl (by simp) (fun K hK => ?_)
      apply Exists.intro
      refine ⟨fun wq hq K' hK' => ?_, ?_⟩
      · have u0 := hq.k y0
        have u1 := hq.k v0
        have u2 := hq.k d1
        have u3 := hq.k v1
        go_wp2_with fail
        exact hK'
      go_simp
      refine hK _ ?_
      clear hK K
      refine tree_p rfl rfl rfl rfl _ rfl (by simp) (fun K hK => ?_)
      apply Exists.intro
      refine ⟨fun wq K' hK' => ?_, ?_⟩
      · go_wp2_with fail
        exact hK'
      go_simp
      refine hK _ ?_
      clear hK K
      refine tree_p rfl rfl rfl rfl _ rfl (by simp) (fun K hK => ?_)
      apply Exists.intro
      refine ⟨fun wq K' hK' => ?_, ?_⟩
      · go_wp2_with fail
        exact hK'
      go_simp
      refine hK _ ?_
      clear hK K
      refine tree_b rfl rfl rfl rfl _ rfl (by simp) (fun K hK => ?_)
      apply Exists.intro
      refine ⟨fun wq hq K' hK' => ?_, ?_⟩
      · have u0 := hq.k y0
        have u1 := hq.k v0
        have u2 := hq.k d1
        have u3 := hq.k v1
        go_wp2_with fail
        exact hK'
      go_simp
      refine hK _ ?_
      clear hK K
      refine tree_p rfl rfl rfl rfl _ rfl (by simp) (fun K hK => ?_)
      apply Exists.intro
      refine ⟨fun wq K' hK' => ?_, ?_⟩
      · go_wp2_with fail
        exact hK'
      go_simp
      refine hK _ ?_
      clear hK K
      refine tree_e rfl rfl (fun K hK => ?_)
      go_wp2_with fail
      try go_simp
      refine hK _ _ (gr_alloc (gr_trans hgW2 (World.grownBy.refl _ _)) _) ?_
      clear hK K
      obtain ⟨w88, hw88⟩ : ∃ x, x = (W2).alloc (.cells [.int .i64 n, .string b, .int .i64 m].toArray 51) := ⟨_, rfl⟩
      have hg88 : (W2).grownBy w88 none := by rw [hw88]; exact gr_alloc (World.grownBy.refl _ _) _
      have hb88 : Box w88 (W2).heap.size 51 [.int .i64 n, .string b, .int .i64 m] := by rw [hw88]; exact Box.new _ _ _
      rw [← hw88]
      clear hw88
      obtain ⟨x88, hx88⟩ : ∃ x, x = (W2).heap.size := ⟨_, rfl⟩
      rw [← hx88] at hb88 ⊢
      have hxl88 : (W2).heap.size ≤ x88 := by omega
      clear hx88
      have hg488 : w4.grownBy w88 none := gr_trans hgW2 hg88
      have hown88 := hown4.pure hg488
      have hbox88 := hbox4.pure hg488
      refine tree_e0 (by kernel_rfl) rfl rfl (fun K hK => ?_)
      refine wp_pushAt (α := Drw) _ (.tmp 30) (.tmp 41) _ rfl lo 51 i0 _ 32 Tryz.underlying28 hi hz h1 h2 rfl _ _ _ st rfl (by first | rfl | exact rfl) hown88 0 ⟨x88, 0, none⟩ _ _ [(⟨n, b, m⟩ : Drw)] rfl rfl (hb88.sl ⟨_, [], rfl, rfl, rfl⟩ (Nat.zero_le _) (by simp [maxLen])) ?_ ?_ ?_ ?_
      · simp; omega
      · simp [maxLen]; omega
      · have := (hg488).size; omega
      intro A5 c5 w5 hown5 hG5
      have hblk : ∀ g, blk A2 = some g → lo ≤ g := fun g hgg => (hown88.blk_lt hgg).1
      have hbox5 := hbox88.gr hG5.1 (fun e => by have := hblk _ e; omega)
      have hg5 := gr_row (hg04.t hg488) hG5.1 (fun g hgg => by have := hblk g hgg; omega)
      obtain ⟨z0, z1⟩ := hbox5.c 0 rfl
      have hboxF := hbox5.set_ 0 (.slice A5 (st ++ [(⟨n, b, m⟩ : Drw)]).length c5) (by simp)
      have hownF := hown5.set_other (g' := xo) (i := 0) (.slice A5 (st ++ [(⟨n, b, m⟩ : Drw)]).length c5) (fun e => by have := (hown5.blk_lt e).1; omega)
      have hgF := gr_set hg5 (p := ⟨xo, 0, none⟩) (.inr (by simp only; omega)) (.slice A5 (st ++ [(⟨n, b, m⟩ : Drw)]).length c5)
      have hszF : lo ≤ (w5.setCell ⟨xo, 0, none⟩ (.slice A5 (st ++ [(⟨n, b, m⟩ : Drw)]).length c5)).heap.size := by have h7 := hg3.size; have h8 := hgw4.size; have h9 := hg488.size; have h10 := hG5.1.size; have h11 := (gr_set (World.grownBy.refl w5 (some xo)) (p := ⟨xo, 0, none⟩) (.inl rfl) (.slice A5 (st ++ [(⟨n, b, m⟩ : Drw)]).length c5)).size; omega
      have hlen5 : (st ++ [(⟨n, b, m⟩ : Drw)]).length = st.length + 1 := by simp
      rw [hlen5] at hownF hboxF hgF hszF
      replace hlen5 := hide hlen5
      try go_simp
      refine hK _ _ trivial ?_
      clear hK K
      refine tree_e0 (by kernel_rfl) rfl rfl (fun K hK => ?_)
      go_wp2_with fail
      try go_simp
      refine hK _ _ trivial ?_
      clear hK K
      refine tree_done ?_
      go_wp2_with fail
      go_ret
      rw [hDr.out]
      refine ⟨?_, fun st2 e => ?_, hgF⟩
      · cases R <;> rfl
      · cases hR2 : R.isSome
        · rw [hR2] at e; cases e
        · rw [hR2] at e; injection e with e; subst e; exact ⟨A5, c5, hownF, by rw [hlen5.out]; exact hboxF, by rw [hlen5.out]; omega, hgF, h0, hxl, hszF⟩
    · have hD := hide (drwR_len h3)
      have hb3' : ((ps.length : Int) != 3) = true := by simp; omega
      replace h3 := hide h3
      replace hok := hide hok
      go_wp2_with fail
      all_goals (go_ret; rw [hD.out]; exact ⟨rfl, (fun st2 e => by cases e), hgA⟩)

end Go.Proofs.YtncplpbnhlodaaaGreatDoor

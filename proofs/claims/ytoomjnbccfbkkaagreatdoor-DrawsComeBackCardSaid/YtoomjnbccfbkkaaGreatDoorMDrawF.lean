/- Contracts of functions that this seat's laws reach, each: what one call returns and what it leaves in memory; no condition beyond each theorem's own hypotheses. -/
import Derived.Test.YtoomjnbccfbkkaaGreatDoorMDrawE
import Derived.Test.YtoomjnbccfbkkaaGreatDoorMDrawA
import Derived.Test.YtoomjnbccfbkkaaGreatDoorMSpoolC
import Derived.Test.YtoomjnbccfbkkaaGreatDoorMPathTxC
set_option linter.unusedVariables false
set_option linter.unusedSimpArgs false
namespace Go.Proofs.YtoomjnbccfbkkaaGreatDoor
open Go Go.RowKit Go.Bl

theorem rdD_bad {st : List Drw} {Ld : List (List UInt8)} {E : Bool} {k : Nat} {x : List UInt8} {RR : List Drw × Int × Int} (hR : endD (readL stepD [] 0 Ld E) = RR) (hrd : readL stepD [] 0 Ld E = readL stepD st k (Ld.drop k) E) (hxd : Ld.drop k = x :: Ld.drop (k + 1)) (h : stepD st x = none ∨ (Ld.drop (k + 1) = [] ∧ E = false)) : RR = ([], (k : Int), 9) := by
  rw [← hR, hrd, hxd]
  rcases h with h | ⟨h, rfl⟩
  · rw [readL_bad _ _ _ h]; rfl
  · rw [h, readL_open]; rfl

theorem rdD_good {st st' : List Drw} {Ld : List (List UInt8)} {E : Bool} {k : Nat} {x : List UInt8} (hrd : readL stepD [] 0 Ld E = readL stepD st k (Ld.drop k) E) (hxd : Ld.drop k = x :: Ld.drop (k + 1)) (h : stepD st x = some st') (he : Ld.drop (k + 1) ≠ [] ∨ E = true) : readL stepD [] 0 Ld E = readL stepD st' (k + 1) (Ld.drop (k + 1)) E := by
  rw [hrd, hxd, readL_good _ _ _ h he]

set_option maxHeartbeats 4000000 in
set_option maxRecDepth 100000 in
theorem drawRead_any (s : ByteArray) (w : World) :
    Calls Tryz.prog 7 #[.string s] w fun e w' => ∃ A c, e = .returned (.tuple #[.slice A (readD s.data.toList).1.length c, .int .i64 (readD s.data.toList).2.1, .int .i64 (readD s.data.toList).2.2]) ∧ Sl w' 0 A (readD s.data.toList).1 ∧ w.grownBy w' none := by
  have hsz := Lib.size_eq s
  obtain ⟨RR, hRR⟩ : ∃ r, readD s.data.toList = r := ⟨_, rfl⟩
  rw [hRR]
  by_cases hbig : 200000 < s.size
  · have hR : RR = ([], 0, 2) := by rw [← hRR]; unfold readD; rw [if_pos (by omega)]
    subst hR
    clear hRR hsz
    have hb : decide ((s.size : Int) > 200000) = true := by simp; omega
    go_enter Tryz.func7, Tryz.ntmps7
    go_wp2_with fail
    exact bodyPost_ret (v := .tuple #[.slice none 0 0, .int .i64 0, .int .i64 2]) (by simp [results, Tryz.results7, go_sem]) rfl ⟨none, 0, rfl, Sl.nil, World.grownBy.refl _ _⟩
  · have hb : decide ((s.size : Int) > 200000) = false := by simp; omega
    have hLn := kitLines_any s w (by omega)
    obtain ⟨Ld, hLd⟩ : ∃ l, (linesK s.data.toList).1 = l := ⟨_, rfl⟩
    obtain ⟨E, hE⟩ : ∃ l, (linesK s.data.toList).2 = l := ⟨_, rfl⟩
    have hLB : linesB s = Ld.map mkB := by unfold linesB; rw [hLd]
    rw [hE] at hLn
    have hR : Hid (endD (readL stepD [] 0 Ld E) = RR) := by rw [Hid, ← hRR]; unfold readD; rw [if_neg (by omega), hLd, hE]
    obtain ⟨hk1, hk2⟩ := linesK_size s.data.toList
    rw [hLd] at hk1 hk2
    have hls : Hid (∀ x ∈ linesB s, x.size ≤ 200000) := by
      intro x hx
      rw [hLB] at hx
      obtain ⟨y, hy, rfl⟩ := List.mem_map.1 hx
      have := hk1 y hy
      rw [mkB_size]; omega
    have hll : (linesB s).length ≤ 200001 := by rw [hLB, List.length_map]; omega
    clear hk1 hk2
    obtain ⟨i0, hi, hz, hi1, hi2⟩ := info_parts info_drw
    generalize linesB s = L at *
    replace hsz := hide hsz
    replace hRR := hide hRR
    replace hLd := hide hLd
    replace hE := hide hE
    replace hLB := hide hLB
    go_enter Tryz.func7, Tryz.ntmps7
    go_wp2_with fail
    refine hLn.mono ?_
    rintro e w1 ⟨A1, c1, rfl, hL, hg1⟩
    clear hLn
    go_wp2_with fail
    go_loopw [7, 23] (fun o i wr => ∃ (k : Nat) (st : List Drw) (A2 : Option Addr) (c2 : Nat), k ≤ L.length ∧ i = .int .i64 k ∧ o = .slice A2 st.length c2 ∧ Own wr w1.heap.size 36 A2 c2 st ∧ Hid (readL stepD [] 0 Ld E = readL stepD st k (Ld.drop k) E) ∧ Hid (st.length ≤ k) ∧ w1.grownBy wr none) (fun _ i _ => L.length - (intOf i).toNat)
    case atStart => exact ⟨0, [], none, 0, Nat.zero_le _, rfl, rfl, Own.nil _ _ _, rfl, Nat.le_refl _, World.grownBy.refl _ _⟩
    case round =>
      obtain ⟨k, st, A2, c2, hk, rfl, rfl, hown, hrd, hrk, hg⟩ := hrel
      by_cases hlt : k < L.length
      · obtain ⟨g, o, cx, rfl, hb0, hb1, rfl, hc⟩ := (hL.pure hg).at_ (by decide) hlt
        have c0 : wr.cell? ⟨g, o + k, none⟩ = some (.string L[k]) := by have := hc 0 _ rfl; rwa [show Enc.sz ByteArray = 1 from rfl, Nat.mul_one] at this
        clear hc
        have hxs := hls.out _ (List.getElem_mem hlt)
        have hxd : Hid (Ld.drop k = L[k].data.toList :: Ld.drop (k + 1)) := by
          have hlk : k < Ld.length := by have := congrArg List.length hLB.out; rw [List.length_map] at this; omega
          have e : L[k] = mkB Ld[k] := by simp only [hLB.out, List.getElem_map]
          rw [Hid, e, mkB_data]
          exact List.drop_eq_getElem_cons hlk
        have hlLd : L.length = Ld.length := by have := congrArg List.length hLB.out; rwa [List.length_map] at this
        replace hlLd := hide hlLd
        generalize hxk : L[k] = x at *
        clear hxk
        have hRl := fun wx => readLine_any x wx hxs
        have hst : stepD st x.data.toList = (drwR (piecesB 32 x)).map fun d => st ++ [d] := by unfold stepD; rw [drwR_pieces]
        obtain ⟨R, hRe⟩ : ∃ R, drwR (piecesB 32 x) = R := ⟨_, rfl⟩
        rw [hRe] at hRl hst
        clear hRe
        have hrkk := hrk.out
        go_wp2_with fail
        refine (hRl _).mono ?_
        rintro e w2 ⟨d, rfl, hdv, hg2⟩
        clear hRl
        go_upto_region 9 with fail
        obtain ⟨w10, hw10⟩ : ∃ x, x = (w2).alloc (.cells [.int .i64 d.at_, .string d.spool, .int .i64 d.long].toArray 36) := ⟨_, rfl⟩
        have hg10 : (w2).grownBy w10 none := by rw [hw10]; exact gr_alloc (World.grownBy.refl _ _) _
        have hb10 : Box w10 (w2).heap.size 36 [.int .i64 d.at_, .string d.spool, .int .i64 d.long] := by rw [hw10]; exact Box.new _ _ _
        have hxs10 := hb10.lt
        rw [← hw10]
        clear hw10
        obtain ⟨x10, hx10⟩ : ∃ x, x = (w2).heap.size := ⟨_, rfl⟩
        rw [← hx10] at hb10 hxs10 ⊢
        have hxl10 : (w2).heap.size ≤ x10 := by omega
        clear hx10
        have hgr := hg2.t hg10
        have hgA := hg1.t (hg.t hgr)
        obtain ⟨b0, _⟩ := hb10.c 0 rfl
        obtain ⟨b1, _⟩ := hb10.c 1 rfl
        obtain ⟨b2, _⟩ := hb10.c 2 rfl
        have hown10 := hown.pure hgr
        have hsA := (hg.t hgr).size
        clear hown
        cases R with
        | none =>
          have hRk := rdD_bad hR.out hrd.out hxd.out (.inl hst)
          replace hRk := hide hRk
          clear hst hown10 hdv
          go_wp2_with fail
          exact bodyPost_ret (v := .tuple #[.slice none 0 0, .int .i64 k, .int .i64 9]) (by simp [results, Tryz.results7, go_sem]) rfl ⟨none, 0, by rw [hRk.out]; rfl, by rw [hRk.out]; exact Sl.nil, hgA⟩
        | some v =>
          obtain rfl := hdv v rfl
          have hst' : stepD st x.data.toList = some (st ++ [d]) := hst
          clear hst hdv
          cases E with
          | true =>
            have hrd' := hide (rdD_good hrd.out hxd.out hst' (.inr rfl))
            clear hst'
            clear hrd
            go_wp2_with (at_builtin; refine wpList_push (α := Drw) _ rfl (.tmp 47) (.tmp 49) _ rfl w1.heap.size 36 i0 _ 32 Tryz.underlying26 hi hz hi1 hi2 rfl _ _ _ st rfl ?c1 (by exact hown10.pure (gr_alloc (World.grownBy.refl _ _) _)) 0 ⟨_, 0, none⟩ 1 1 [d] rfl rfl (by exact sl_oneAt _ 0 _ _ _ _ (by first | rfl | simp) (Nat.zero_le _) rfl) ?c2 ?c3 ?c4 ?_)
            case c1 => rfl
            case c2 => first | omega | (simp; omega)
            case c3 => first | (simp [maxLen]; omega) | (unfold maxLen; omega)
            case c4 => first | omega | (simp; omega)
            intro A5 c5 w5 hown5 hup5
            have hg5 := hup5.gr (Nat.le_refl _) (gr_alloc (hg.t hgr) (.cells #[.int .i64 d.at_, .string d.spool, .int .i64 d.long] 36))
            have hl5 : st.length + 1 = (st ++ [d]).length := by simp
            replace hl5 := hide hl5
            clear hown10 hup5
            go_wp2_with fail
            first
              | exact ⟨⟨k + 1, st ++ [d], A5, c5, by omega, by go_num, by simp, hown5, hrd'.out, by rw [Hid, ← hl5.out]; omega, hg5⟩, by simp [intOf]; omega⟩
              | (go_roundw; (case rel => exact ⟨k + 1, st ++ [d], A5, c5, by omega, by go_num, by simp, hown5, hrd'.out, by rw [Hid, ← hl5.out]; omega, hg5⟩); (case measure => simp [intOf]; omega))
          | false =>
            by_cases hA : k + 1 = L.length
            · have hd : ((k : Int) == (L.length : Int) - 1) = true := by simp; omega
              have hdl : Ld.drop (k + 1) = [] := List.drop_of_length_le (by have := hlLd.out; omega)
              have hRk := rdD_bad hR.out hrd.out hxd.out (.inr ⟨hdl, rfl⟩)
              replace hRk := hide hRk
              clear hdl hown10 hst'
              replace hA := hide hA
              go_wp2_with fail
              exact bodyPost_ret (v := .tuple #[.slice none 0 0, .int .i64 k, .int .i64 9]) (by simp [results, Tryz.results7, go_sem]) rfl ⟨none, 0, by rw [hRk.out]; rfl, by rw [hRk.out]; exact Sl.nil, hgA⟩
            · have hd : ((k : Int) == (L.length : Int) - 1) = false := by rw [beq_eq_false_iff_ne]; omega
              have hne : Ld.drop (k + 1) ≠ [] := by
                intro e
                have := congrArg List.length e
                rw [List.length_drop] at this
                have := hlLd.out
                simp at *; omega
              have hrd' := hide (rdD_good hrd.out hxd.out hst' (.inl hne))
              clear hne
              replace hA := hide hA
              clear hst'
              clear hrd
              go_wp2_with (at_builtin; refine wpList_push (α := Drw) _ rfl (.tmp 47) (.tmp 49) _ rfl w1.heap.size 36 i0 _ 32 Tryz.underlying26 hi hz hi1 hi2 rfl _ _ _ st rfl ?c1 (by exact hown10.pure (gr_alloc (World.grownBy.refl _ _) _)) 0 ⟨_, 0, none⟩ 1 1 [d] rfl rfl (by exact sl_oneAt _ 0 _ _ _ _ (by first | rfl | simp) (Nat.zero_le _) rfl) ?c2 ?c3 ?c4 ?_)
              case c1 => rfl
              case c2 => first | omega | (simp; omega)
              case c3 => first | (simp [maxLen]; omega) | (unfold maxLen; omega)
              case c4 => first | omega | (simp; omega)
              intro A5 c5 w5 hown5 hup5
              have hg5 := hup5.gr (Nat.le_refl _) (gr_alloc (hg.t hgr) (.cells #[.int .i64 d.at_, .string d.spool, .int .i64 d.long] 36))
              have hl5 : st.length + 1 = (st ++ [d]).length := by simp
              replace hl5 := hide hl5
              clear hown10 hup5
              go_wp2_with fail
              first
                | exact ⟨⟨k + 1, st ++ [d], A5, c5, by omega, by go_num, by simp, hown5, hrd'.out, by rw [Hid, ← hl5.out]; omega, hg5⟩, by simp [intOf]; omega⟩
                | (go_roundw; (case rel => exact ⟨k + 1, st ++ [d], A5, c5, by omega, by go_num, by simp, hown5, hrd'.out, by rw [Hid, ← hl5.out]; omega, hg5⟩); (case measure => simp [intOf]; omega))
      · obtain rfl : k = L.length := by omega
        have hsl := hown.sl.mono (Nat.zero_le _)
        have hdl : Ld.drop L.length = [] := List.drop_of_length_le (by have := congrArg List.length hLB.out; rw [List.length_map] at this; omega)
        have hend : finD st = RR := by rw [← hR.out, hrd.out, hdl]; rfl
        have hC := textFault_any A2 c2 st wr hsl
        obtain ⟨F, hF⟩ : ∃ F, txsF st = F := ⟨_, rfl⟩
        rw [hF] at hC
        unfold finD at hend
        rw [hF] at hend
        clear hrd hdl hF
        by_cases hF0 : F = 0
        · subst hF0
          rw [if_pos rfl] at hend
          replace hend := hide hend
          go_wp2_with fail
          refine hC.mono ?_
          rintro e w2 ⟨rfl, hg2⟩
          clear hC
          go_wp2_with fail
          exact bodyPost_ret (v := .tuple #[.slice A2 st.length c2, .int .i64 0, .int .i64 0]) (by simp [results, Tryz.results7, go_sem]) rfl ⟨A2, c2, by rw [← hend.out], by rw [← hend.out]; exact hsl.pure hg2, hg1.t (hg.t hg2)⟩
        · have hb0 : (F != 0) = true := by simp [hF0]
          rw [if_neg hF0] at hend
          replace hend := hide hend
          replace hF0 := hide hF0
          go_wp2_with fail
          refine hC.mono ?_
          rintro e w2 ⟨rfl, hg2⟩
          clear hC
          go_wp2_with fail
          exact bodyPost_ret (v := .tuple #[.slice none 0 0, .int .i64 0, .int .i64 F]) (by simp [results, Tryz.results7, go_sem]) rfl ⟨none, 0, by rw [← hend.out]; rfl, by rw [← hend.out]; exact Sl.nil, hg1.t (hg.t hg2)⟩

end Go.Proofs.YtoomjnbccfbkkaaGreatDoor

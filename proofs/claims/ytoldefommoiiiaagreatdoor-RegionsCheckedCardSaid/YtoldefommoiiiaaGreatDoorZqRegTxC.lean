/- Contracts of functions that this seat's laws reach, each: what one call returns and what it leaves in memory; no condition beyond each theorem's own hypotheses. -/
import Derived.Test.YtoldefommoiiiaaGreatDoorZqRegText
import Derived.Test.YtoldefommoiiiaaGreatDoorZqRowsN
import Derived.Test.YtoldefommoiiiaaGreatDoorZqPathTxC
import Derived.Test.YtoldefommoiiiaaGreatDoorZqRegH
set_option linter.unusedVariables false
set_option linter.unusedSimpArgs false
namespace Go.Proofs.YtoldefommoiiiaaGreatDoor
open Go Go.RowKit Go.Bl

theorem info_ring : (Tryz.prog.info? 29).map (fun i => (i.zero, i.size, i.bytes)) = some (some (.slice none 0 0), 1, 24) := by kernel_rfl

theorem readR_def (s : List UInt8) : readR s = if 200000 < s.length then (([], 0, 2) : List (List Pt) × Int × Int) else endR (readL stepR [] 0 (linesK s).1 (linesK s).2) := rfl

theorem flat_mem {l : List (List Pt)} {p : List Pt} (h : p ∈ l) : p.length ≤ l.flatten.length := by
  induction l with
  | nil => cases h
  | cons x l ih =>
    rw [List.flatten_cons, List.length_append]
    rcases List.mem_cons.1 h with rfl | h
    · omega
    · have := ih h; omega

theorem flat_set {l : List (List Pt)} {n : Nat} (h : n < l.length) (q : Pt) : (l.set n (l[n] ++ [q])).flatten.length = l.flatten.length + 1 := by
  induction l generalizing n with
  | nil => simp at h
  | cons x l ih =>
    cases n with
    | zero => simp; omega
    | succ n =>
      have := ih (n := n) (by simpa using h)
      simp only [List.set_cons_succ, List.flatten_cons, List.length_append, List.getElem_cons_succ]
      omega

theorem rdR_bad {st : List (List Pt)} {Ld : List (List UInt8)} {E : Bool} {k : Nat} {x : List UInt8} {RR : List (List Pt) × Int × Int} (hR : endR (readL stepR [] 0 Ld E) = RR) (hrd : readL stepR [] 0 Ld E = readL stepR st k (Ld.drop k) E) (hxd : Ld.drop k = x :: Ld.drop (k + 1)) (h : stepR st x = none ∨ (Ld.drop (k + 1) = [] ∧ E = false)) : RR = ([], (k : Int), 9) := by
  rw [← hR, hrd, hxd]
  rcases h with h | ⟨h, rfl⟩
  · rw [readL_bad _ _ _ h]; rfl
  · rw [h, readL_open]; rfl

theorem rdR_good {st st' : List (List Pt)} {Ld : List (List UInt8)} {E : Bool} {k : Nat} {x : List UInt8} (hrd : readL stepR [] 0 Ld E = readL stepR st k (Ld.drop k) E) (hxd : Ld.drop k = x :: Ld.drop (k + 1)) (h : stepR st x = some st') (he : Ld.drop (k + 1) ≠ [] ∨ E = true) : readL stepR [] 0 Ld E = readL stepR st' (k + 1) (Ld.drop (k + 1)) E := by
  rw [hrd, hxd, readL_good _ _ _ h he]

set_option maxHeartbeats 4000000 in
set_option maxRecDepth 100000 in
theorem regRead_any (s : ByteArray) (w : World) :
    Calls Tryz.prog 14 #[.string s] w fun e w' => ∃ A c, e = .returned (.tuple #[.slice A (readR s.data.toList).1.length c, .int .i64 (readR s.data.toList).2.1, .int .i64 (readR s.data.toList).2.2]) ∧ Sl w' 0 A (readR s.data.toList).1 ∧ w.grownBy w' none := by
  have hsz := Lib.size_eq s
  obtain ⟨RR, hRR⟩ : ∃ r, readR s.data.toList = r := ⟨_, rfl⟩
  rw [hRR]
  by_cases hbig : 200000 < s.size
  · have hR : RR = ([], 0, 2) := by rw [← hRR, readR_def, if_pos (by omega)]
    subst hR
    clear hRR hsz
    have hb : decide ((s.size : Int) > 200000) = true := by simp; omega
    go_enter Tryz.func14, Tryz.ntmps14
    go_wp2_with fail
    exact bodyPost_ret (v := .tuple #[.slice none 0 0, .int .i64 0, .int .i64 2]) (by simp [results, Tryz.results14, go_sem]) rfl ⟨none, 0, rfl, Sl.nil, World.grownBy.refl _ _⟩
  · have hb : decide ((s.size : Int) > 200000) = false := by simp; omega
    have hLn := kitLines_any s w (by omega)
    obtain ⟨Ld, hLd⟩ : ∃ l, (linesK s.data.toList).1 = l := ⟨_, rfl⟩
    obtain ⟨E, hE⟩ : ∃ l, (linesK s.data.toList).2 = l := ⟨_, rfl⟩
    have hLB : linesB s = Ld.map mkB := by unfold linesB; rw [hLd]
    rw [hE] at hLn
    have hR : Hid (endR (readL stepR [] 0 Ld E) = RR) := by rw [Hid, ← hRR, readR_def, if_neg (by omega), hLd, hE]
    obtain ⟨hk1, hk2⟩ := linesK_size s.data.toList
    rw [hLd] at hk1 hk2
    have hls : Hid (∀ x ∈ linesB s, x.size ≤ 200000) := by
      intro x hx
      rw [hLB] at hx
      obtain ⟨y, hy, rfl⟩ := List.mem_map.1 hx
      have := hk1 y hy
      rw [mkB_size]; omega
    have hll : (linesB s).length ≤ 200001 := by rw [hLB, List.length_map]; omega
    clear hk1 hk2
    obtain ⟨i0, hi, hz, h1, h2⟩ := info_parts info_ring
    generalize linesB s = L at *
    replace hsz := hide hsz
    replace hRR := hide hRR
    replace hLd := hide hLd
    replace hE := hide hE
    replace hLB := hide hLB
    go_enter Tryz.func14, Tryz.ntmps14
    go_wp2_with fail
    refine hLn.mono ?_
    rintro e w1 ⟨A1, c1, rfl, hL, hg1⟩
    clear hLn
    go_wp2_with fail
    go_loopw [7, 24] (fun o i wr => ∃ (k : Nat) (st : List (List Pt)) (raws : List RawS) (A2 : Option Addr) (c2 : Nat), k ≤ L.length ∧ i = .int .i64 k ∧ o = .slice A2 raws.length c2 ∧ RowsN wr w1.heap.size w1.heap.size 29 45 A2 c2 raws st ∧ Hid (readL stepR [] 0 Ld E = readL stepR st k (Ld.drop k) E) ∧ Hid (raws.length ≤ k) ∧ Hid (st.flatten.length ≤ k) ∧ w1.grownBy wr none) (fun _ i _ => L.length - (intOf i).toNat)
    case atStart => exact ⟨0, [], [], none, 0, Nat.zero_le _, rfl, rfl, RowsN.made (n := 0) (Own.nil _ _ _) (by decide) (Nat.le_refl _), rfl, Nat.le_refl _, (by simp [Hid]), World.grownBy.refl _ _⟩
    case round =>
      obtain ⟨k, st, raws, A2, c2, hk, rfl, rfl, hRow, hrd, hrk, hpl, hg⟩ := hrel
      by_cases hlt : k < L.length
      · obtain ⟨g, o, cx, rfl, hb0, hb1, rfl, hc⟩ := (hL.pure hg).at_ (by decide) hlt
        have c0 : wr.cell? ⟨g, o + k, none⟩ = some (.string L[k]) := by have := hc 0 _ rfl; rwa [show Enc.sz ByteArray = 1 from rfl, Nat.mul_one] at this
        clear hc
        have hxs := hls.out _ (List.getElem_mem hlt)
        have hxd : Hid (Ld.drop k = L[k].data.toList :: Ld.drop (k + 1)) := by
          have hlk : k < Ld.length := by have := congrArg List.length hLB.out; rw [List.length_map] at this; omega
          have e : L[k] = mkB Ld[k] := by simp only [hLB.out, List.getElem_map]
          rw [Hid, e, mkB_data]
          exact List.drop_eq_getElem_cons hlk
        have hlLd : L.length = Ld.length := by have := congrArg List.length hLB.out; rwa [List.length_map] at this
        replace hlLd := hide hlLd
        generalize hxk : L[k] = x at *
        clear hxk
        have hSp := fun wx => split_any x 32 wx (by omega)
        obtain ⟨hp1, hp2⟩ := piecesB_small 32 hxs
        go_wp2_with fail
        refine (hSp _).mono ?_
        rintro e w2 ⟨rfl, hsl, hg2⟩
        clear hSp
        have hNm := numbers_any _ (piecesB 32 x).length (piecesB 32 x) w2 (hsl.mono (Nat.zero_le _)) (hide hp1) (by omega)
        have hpt : ptOf x.data.toList = match numsB (piecesB 32 x) with
          | some [a, b] => some ⟨a, b⟩
          | _ => none := by rw [piecesB_nums]; rfl
        obtain ⟨R, hRn⟩ : ∃ R, numsB (piecesB 32 x) = R := ⟨_, rfl⟩
        rw [hRn] at hNm hpt
        generalize piecesB 32 x = ps at *
        clear hRn hsl hp1
        replace hpt := hide hpt
        go_wp2_with fail
        refine hNm.mono ?_
        rintro e w3 ⟨A3, c3, rfl, hO3, hg3⟩
        clear hNm
        have hg23 := hg2.t hg3
        have hgA := hg1.t (hg.t hg23)
        have hrkk := hrk.out
        cases E with
        | true =>
          have hne : Ld.drop (k + 1) ≠ [] ∨ true = true := .inr rfl
          by_cases hxo : x.data.toList = ringT
          · have so : (x.toList == [114, 105, 110, 103]) = true := by rw [Lib.toList_data, hxo]; rfl
            have hxe : x.data.toList = ringT := hxo
            clear hxo
            have hst' : stepR st x.data.toList = some (st ++ [[]]) := by rw [hxe]; exact stepR_head st
            have hrd' := hide (rdR_good hrd.out hxd.out hst' hne)
            have hrl' : raws.length ≤ 1000000 := by have := hrk.out; omega
            clear hst' hrd
            replace hxe := hide hxe
            go_wp2_with (at_builtin; refine wpList_pushAt (α := RawS) _ rfl (.tmp 53) (.tmp 54) _ rfl w1.heap.size 29 i0 _ 24 Tryz.underlying26 hi hz h1 h2 rfl _ _ _ raws rfl rfl ((hRow.pure (gr_alloc hg23 _)).out) 0 ⟨_, 0, none⟩ 1 1 [⟨none, 0, 0⟩] rfl rfl (sl_oneAt _ 0 [.slice none 0 0] _ _ _ (by first | rfl | simp) (Nat.zero_le _) rfl) ?c2 ?c3 ?c4 ?_)
            case c2 => simp; omega
            case c3 => simp [maxLen]; omega
            case c4 => simp; have := hg.size; have := hg23.size; omega
            intro A5 c5 w5 hown5 hG5
            have hRow5 := RowsN.push (hRow.pure (gr_alloc hg23 _)) hown5 hG5
            have hg5 := gr_row (hg.t (gr_alloc hg23 _)) hG5.1 (fun g hgg => (hRow.out.blk_lt hgg).1)
            have hpl5 : Hid ((st ++ [([] : List Pt)]).flatten.length ≤ k + 1) := by have := hpl.out; rw [Hid]; simp only [List.flatten_append, List.flatten_cons, List.flatten_nil, List.append_nil]; omega
            have hl5 : raws.length + 1 = (raws ++ [(⟨none, 0, 0⟩ : RawS)]).length := by simp
            clear hown5 hG5 hRow
            go_wp2_with fail
            exact ⟨⟨k + 1, _, raws ++ [⟨none, 0, 0⟩], A5, c5, by omega, by go_num, by rw [← hl5], hRow5, hrd', by rw [Hid, ← hl5]; have := hrk.out; omega, hpl5, hg5⟩, by simp [intOf]; omega⟩
          · have so : (x.toList == [114, 105, 110, 103]) = false := by rw [Lib.toList_data]; exact beq_eq_false_iff_ne.2 hxo
            skip
            · have hstep : stepR st x.data.toList = match ptOf x.data.toList with
                | some q => if st = [] then none else some (addR st q)
                | none => none := by rw [stepR_eq, if_neg hxo]; rfl
              clear hxo
              rw [hpt.out] at hstep
              clear hpt
              rcases R with _ | r
              · have hRk := rdR_bad hR.out hrd.out hxd.out (.inl hstep)
                replace hRk := hide hRk
                clear hstep hRow hO3
                go_wp2_with fail
                exact bodyPost_ret (v := .tuple #[.slice none 0 0, .int .i64 k, .int .i64 9]) (by simp [results, Tryz.results14, go_sem]) rfl ⟨none, 0, by rw [hRk.out]; rfl, by rw [hRk.out]; exact Sl.nil, hgA⟩
              · by_cases hr2 : r.length = 2
                · obtain ⟨a, b, rfl⟩ : ∃ a b, r = [a, b] := by
                    match r, hr2 with
                    | [a, b], _ => exact ⟨a, b, rfl⟩
                  clear hr2
                  by_cases hr0 : raws.length = 0
                  · have hst0 : st = [] := List.eq_nil_of_length_eq_zero (by rw [← hRow.len]; exact hr0)
                    have hsn : stepR st x.data.toList = none := by rw [hstep]; simp only [if_pos hst0]
                    have hRk := rdR_bad hR.out hrd.out hxd.out (.inl hsn)
                    replace hRk := hide hRk
                    have hge : (raws.length : Int) < 1 := by omega
                    replace hr0 := hide hr0
                    clear hstep hRow hO3 hst0 hsn
                    go_wp2_with fail
                    exact bodyPost_ret (v := .tuple #[.slice none 0 0, .int .i64 k, .int .i64 9]) (by simp [results, Tryz.results14, go_sem]) rfl ⟨none, 0, by rw [hRk.out]; rfl, by rw [hRk.out]; exact Sl.nil, hgA⟩
                  · obtain ⟨n, hn⟩ : ∃ n, raws.length = n + 1 := ⟨raws.length - 1, by omega⟩
                    have hsl : n + 1 = st.length := by rw [← hRow.len, hn]
                    have hst0 : st ≠ [] := by intro e; rw [e] at hsl; simp at hsl
                    have hstp : stepR st x.data.toList = some (addR st ⟨a, b⟩) := by rw [hstep]; simp only [if_neg hst0]
                    rw [addR_set hsl] at hstp
                    have hrd' := hide (rdR_good hrd.out hxd.out hstp hne)
                    clear hstp hstep hrd
                    have hkn : (raws.length : Int) - 1 = (n : Int) := by omega
                    have hge : (1 : Int) ≤ raws.length := by omega
                    have hO3' : Own w3 w2.heap.size 3 A3 c3 [a, b] := hO3
                    have hnl : n < raws.length := by omega
                    have hnl2 : n < st.length := by omega
                    replace hn := hide hn
                    replace hsl := hide hsl
                    replace hst0 := hide hst0
                    clear hr0 hO3
                    obtain ⟨g5, rfl, hgl5, hgr5⟩ := hO3'.shape (by simp)
                    have v0 := hO3'.cell_int (j := 0) (by simp)
                    have v1 := hO3'.cell_int (j := 1) (by simp)
                    simp only [List.getElem_cons_zero, List.getElem_cons_succ] at v0 v1
                    have hRow3 := hRow.pure hg23
                    obtain ⟨g2, rfl, hgl2, hgr2⟩ := hRow3.out.shape (by omega)
                    have u0 := RowsN.cell hRow3 hnl
                    have uf := hRow3.out.frozen n
                    obtain ⟨hin, hinO⟩ := hRow3.ins n hnl hnl2
                    have hptl := Nat.le_trans (flat_mem (List.getElem_mem hnl2)) hpl.out
                    obtain ⟨j0, hj, hjz, j1, j2⟩ := info_parts info_pt
                    go_wp2_with fail
                    refine wp_region_tree (fun wx => w3.grownBy wx none) [2, 2, 2, 2, 2, 1, 2, 2, 1, 2, 2, 1, 2, 0, 0, 2, 0] (.bl 0 (.bl 1 (.bl 2 (.bl 3 (.bl 4 (.bl 5 (.bl 6 (.bl 7 (.bl 8 (.bl 9 (.bl 10 (.bl 11 (.bl 12 (.ef 13 (.ef 14 (.bl 15 (.ef 16 .done))))))))))))))))) (by kernel_rfl) (by kernel_rfl) (gr_drew (World.grownBy.refl _ _)) ?_
                    obtain ⟨W1, hW1⟩ : ∃ x, x = (w3).drew := ⟨_, rfl⟩
                    rw [← hW1]
                    have hgW1 : (w3).grownBy W1 none := by rw [hW1]; exact gr_drew (World.grownBy.refl _ _)
                    clear hW1
                    refine tree_p rfl rfl rfl rfl _ rfl (by simp) (fun K hK => ?_)
                    apply Exists.intro
                    refine ⟨fun wq K' hK' => ?_, ?_⟩
                    · go_wp2_with fail
                      exact hK'
                    go_simp
                    refine hK _ ?_
                    clear hK K
                    refine tree_p rfl rfl rfl rfl _ rfl (by simp) (fun K hK => ?_)
                    apply Exists.intro
                    refine ⟨fun wq K' hK' => ?_, ?_⟩
                    · go_wp2_with fail
                      exact hK'
                    go_simp
                    refine hK _ ?_
                    clear hK K
                    refine tree_p rfl rfl rfl rfl _ rfl (by simp) (fun K hK => ?_)
                    apply Exists.intro
                    refine ⟨fun wq K' hK' => ?_, ?_⟩
                    · go_wp2_with fail
                      exact hK'
                    go_simp
                    refine hK _ ?_
                    clear hK K
                    refine tree_p rfl rfl rfl rfl _ rfl (by simp) (fun K hK => ?_)
                    apply Exists.intro
                    refine ⟨fun wq K' hK' => ?_, ?_⟩
                    · go_wp2_with fail
                      exact hK'
                    go_simp
                    refine hK _ ?_
                    clear hK K
                    refine tree_p rfl rfl rfl rfl _ rfl (by simp) (fun K hK => ?_)
                    apply Exists.intro
                    refine ⟨fun wq K' hK' => ?_, ?_⟩
                    · go_wp2_with fail
                      exact hK'
                    go_simp
                    refine hK _ ?_
                    clear hK K
                    refine tree_b rfl rfl rfl rfl _ rfl (by simp) (fun K hK => ?_)
                    apply Exists.intro
                    refine ⟨fun wq hq K' hK' => ?_, ?_⟩
                    · have y0 := hq.k u0
                      have y1 := hq.k v0
                      have y2 := hq.k v1
                      go_wp2_with fail
                      exact hK'
                    go_simp
                    refine hK _ ?_
                    clear hK K
                    refine tree_p rfl rfl rfl rfl _ rfl (by simp) (fun K hK => ?_)
                    apply Exists.intro
                    refine ⟨fun wq K' hK' => ?_, ?_⟩
                    · go_wp2_with fail
                      exact hK'
                    go_simp
                    refine hK _ ?_
                    clear hK K
                    refine tree_p rfl rfl rfl rfl _ rfl (by simp) (fun K hK => ?_)
                    apply Exists.intro
                    refine ⟨fun wq K' hK' => ?_, ?_⟩
                    · go_wp2_with fail
                      exact hK'
                    go_simp
                    refine hK _ ?_
                    clear hK K
                    refine tree_b rfl rfl rfl rfl _ rfl (by simp) (fun K hK => ?_)
                    apply Exists.intro
                    refine ⟨fun wq hq K' hK' => ?_, ?_⟩
                    · have y0 := hq.k u0
                      have y1 := hq.k v0
                      have y2 := hq.k v1
                      go_wp2_with fail
                      exact hK'
                    go_simp
                    refine hK _ ?_
                    clear hK K
                    refine tree_p rfl rfl rfl rfl _ rfl (by simp) (fun K hK => ?_)
                    apply Exists.intro
                    refine ⟨fun wq K' hK' => ?_, ?_⟩
                    · go_wp2_with fail
                      exact hK'
                    go_simp
                    refine hK _ ?_
                    clear hK K
                    refine tree_p rfl rfl rfl rfl _ rfl (by simp) (fun K hK => ?_)
                    apply Exists.intro
                    refine ⟨fun wq K' hK' => ?_, ?_⟩
                    · go_wp2_with fail
                      exact hK'
                    go_simp
                    refine hK _ ?_
                    clear hK K
                    refine tree_b rfl rfl rfl rfl _ rfl (by simp) (fun K hK => ?_)
                    apply Exists.intro
                    refine ⟨fun wq hq K' hK' => ?_, ?_⟩
                    · have y0 := hq.k u0
                      have y1 := hq.k v0
                      have y2 := hq.k v1
                      go_wp2_with fail
                      exact hK'
                    go_simp
                    refine hK _ ?_
                    clear hK K
                    refine tree_p rfl rfl rfl rfl _ rfl (by simp) (fun K hK => ?_)
                    apply Exists.intro
                    refine ⟨fun wq K' hK' => ?_, ?_⟩
                    · go_wp2_with fail
                      exact hK'
                    go_simp
                    refine hK _ ?_
                    clear hK K
                    refine tree_e rfl rfl (fun K hK => ?_)
                    go_wp2_with fail
                    try go_simp
                    refine hK _ _ (gr_alloc (gr_trans hgW1 (World.grownBy.refl _ _)) _) ?_
                    clear hK K
                    obtain ⟨w88, hw88⟩ : ∃ x, x = (W1).alloc (.cells [.int .i64 a, .int .i64 b].toArray 45) := ⟨_, rfl⟩
                    have hg88 : (W1).grownBy w88 none := by rw [hw88]; exact gr_alloc (World.grownBy.refl _ _) _
                    have hb88 : Box w88 (W1).heap.size 45 [.int .i64 a, .int .i64 b] := by rw [hw88]; exact Box.new _ _ _
                    rw [← hw88]
                    clear hw88
                    obtain ⟨x88, hx88⟩ : ∃ x, x = (W1).heap.size := ⟨_, rfl⟩
                    rw [← hx88] at hb88 ⊢
                    have hxl88 : (W1).heap.size ≤ x88 := by omega
                    clear hx88
                    have hg388 : w3.grownBy w88 none := gr_trans hgW1 hg88
                    have hRow88 := hRow3.pure hg388
                    have hin88 := hinO.pure hg388
                    refine tree_e0 (by kernel_rfl) rfl rfl (fun K hK => ?_)
                    refine wp_pushAt (α := Pt) _ (.tmp 72) (.tmp 80) _ rfl w1.heap.size 45 j0 _ 16 Tryz.underlying28 hj hjz j1 j2 rfl _ _ _ st[n] rfl (by first | rfl | exact hin) hin88 0 ⟨x88, 0, none⟩ _ _ [⟨a, b⟩] rfl rfl (hb88.sl ⟨_, [], rfl, rfl, rfl⟩ (Nat.zero_le _) (by simp [maxLen])) ?_ ?_ ?_ ?_
                    · simp; omega
                    · simp [maxLen]; omega
                    · exact (hg.t (hg23.t hg388)).size
                    intro A5 c5 w5 hown5 hG5
                    have hOut5 := RowsN.outer hRow88 hnl hG5
                    have q0 : w5.cell? ⟨g2, n, none⟩ = some (.slice raws[n].A raws[n].n raws[n].c) := by
                      obtain ⟨c1, rfl, hc⟩ := hOut5.cell_at (by decide) hnl
                      have := hc 0 _ rfl
                      rwa [show Enc.sz RawS = 1 from rfl, Nat.mul_one] at this
                    have qf := hOut5.frozen n
                    have hRowF := RowsN.put hRow88 hnl hown5 hG5
                    have hgF := gr_set (gr_row (hg.t (hg23.t hg388)) hG5.1 (fun g hgg => (hinO.blk_lt hgg).1)) (p := ⟨g2, n, none⟩) (.inr hgl2) (.slice A5 (st[n] ++ [(⟨a, b⟩ : Pt)]).length c5)
                    have hlen5 : (st[n] ++ [(⟨a, b⟩ : Pt)]).length = st[n].length + 1 := by simp
                    rw [hlen5] at hRowF hgF
                    have hpl5 : Hid ((st.set n (st[n] ++ [⟨a, b⟩])).flatten.length ≤ k + 1) := by rw [Hid, flat_set hnl2]; have := hpl.out; omega
                    replace hRowF := hide hRowF
                    replace hgF := hide hgF
                    clear hOut5 hlen5
                    try go_simp
                    refine hK _ _ trivial ?_
                    clear hK K
                    refine tree_p rfl rfl rfl rfl _ rfl (by simp) (fun K hK => ?_)
                    apply Exists.intro
                    refine ⟨fun wq K' hK' => ?_, ?_⟩
                    · go_wp2_with fail
                      exact hK'
                    go_simp
                    refine hK _ ?_
                    clear hK K
                    refine tree_e0 (by kernel_rfl) rfl rfl (fun K hK => ?_)
                    go_wp2_with fail
                    try go_simp
                    refine hK _ _ trivial ?_
                    clear hK K
                    refine tree_done ?_
                    go_wp2_with fail
                    exact ⟨⟨k + 1, _, _, _, c2, by omega, by go_num, by rw [List.length_set], hRowF.out, hrd', by rw [Hid, List.length_set]; omega, hpl5, hgF.out⟩, by simp [intOf]; omega⟩
                · have hsn : stepR st x.data.toList = none := by
                    rw [hstep]
                    split
                    · rename_i h
                      split at h
                      · rename_i a b h5
                        injection h5 with h5
                        subst h5
                        simp at hr2
                      · cases h
                    · rfl
                  have hn2 : ((r.length : Int) == 2) = false := by rw [beq_eq_false_iff_ne]; omega
                  have hRk := rdR_bad hR.out hrd.out hxd.out (.inl hsn)
                  replace hRk := hide hRk
                  clear hstep hRow hO3 hsn
                  replace hr2 := hide hr2
                  go_wp2_with fail
                  exact bodyPost_ret (v := .tuple #[.slice none 0 0, .int .i64 k, .int .i64 9]) (by simp [results, Tryz.results14, go_sem]) rfl ⟨none, 0, by rw [hRk.out]; rfl, by rw [hRk.out]; exact Sl.nil, hgA⟩
        | false =>
          by_cases hA : k + 1 = L.length
          · have hd : ((k : Int) == (L.length : Int) - 1) = true := by simp; omega
            have hdl : Ld.drop (k + 1) = [] := List.drop_of_length_le (by have := hlLd.out; omega)
            have hRk := rdR_bad hR.out hrd.out hxd.out (.inr ⟨hdl, rfl⟩)
            replace hRk := hide hRk
            clear hdl hRow hO3
            replace hA := hide hA
            go_wp2_with fail
            exact bodyPost_ret (v := .tuple #[.slice none 0 0, .int .i64 k, .int .i64 9]) (by simp [results, Tryz.results14, go_sem]) rfl ⟨none, 0, by rw [hRk.out]; rfl, by rw [hRk.out]; exact Sl.nil, hgA⟩
          · have hd : ((k : Int) == (L.length : Int) - 1) = false := by rw [beq_eq_false_iff_ne]; omega
            have hne : Ld.drop (k + 1) ≠ [] ∨ false = true := .inl (by
              intro e
              have := congrArg List.length e
              rw [List.length_drop] at this
              have := hlLd.out
              simp at *; omega)
            by_cases hxo : x.data.toList = ringT
            · have so : (x.toList == [114, 105, 110, 103]) = true := by rw [Lib.toList_data, hxo]; rfl
              have hxe : x.data.toList = ringT := hxo
              clear hxo
              have hst' : stepR st x.data.toList = some (st ++ [[]]) := by rw [hxe]; exact stepR_head st
              have hrd' := hide (rdR_good hrd.out hxd.out hst' hne)
              have hrl' : raws.length ≤ 1000000 := by have := hrk.out; omega
              clear hst' hrd
              replace hxe := hide hxe
              go_wp2_with (at_builtin; refine wpList_pushAt (α := RawS) _ rfl (.tmp 53) (.tmp 54) _ rfl w1.heap.size 29 i0 _ 24 Tryz.underlying26 hi hz h1 h2 rfl _ _ _ raws rfl rfl ((hRow.pure (gr_alloc hg23 _)).out) 0 ⟨_, 0, none⟩ 1 1 [⟨none, 0, 0⟩] rfl rfl (sl_oneAt _ 0 [.slice none 0 0] _ _ _ (by first | rfl | simp) (Nat.zero_le _) rfl) ?c2 ?c3 ?c4 ?_)
              case c2 => simp; omega
              case c3 => simp [maxLen]; omega
              case c4 => simp; have := hg.size; have := hg23.size; omega
              intro A5 c5 w5 hown5 hG5
              have hRow5 := RowsN.push (hRow.pure (gr_alloc hg23 _)) hown5 hG5
              have hg5 := gr_row (hg.t (gr_alloc hg23 _)) hG5.1 (fun g hgg => (hRow.out.blk_lt hgg).1)
              have hpl5 : Hid ((st ++ [([] : List Pt)]).flatten.length ≤ k + 1) := by have := hpl.out; rw [Hid]; simp only [List.flatten_append, List.flatten_cons, List.flatten_nil, List.append_nil]; omega
              have hl5 : raws.length + 1 = (raws ++ [(⟨none, 0, 0⟩ : RawS)]).length := by simp
              clear hown5 hG5 hRow
              go_wp2_with fail
              exact ⟨⟨k + 1, _, raws ++ [⟨none, 0, 0⟩], A5, c5, by omega, by go_num, by rw [← hl5], hRow5, hrd', by rw [Hid, ← hl5]; have := hrk.out; omega, hpl5, hg5⟩, by simp [intOf]; omega⟩
            · have so : (x.toList == [114, 105, 110, 103]) = false := by rw [Lib.toList_data]; exact beq_eq_false_iff_ne.2 hxo
              skip
              · have hstep : stepR st x.data.toList = match ptOf x.data.toList with
                  | some q => if st = [] then none else some (addR st q)
                  | none => none := by rw [stepR_eq, if_neg hxo]; rfl
                clear hxo
                rw [hpt.out] at hstep
                clear hpt
                rcases R with _ | r
                · have hRk := rdR_bad hR.out hrd.out hxd.out (.inl hstep)
                  replace hRk := hide hRk
                  clear hstep hRow hO3
                  go_wp2_with fail
                  exact bodyPost_ret (v := .tuple #[.slice none 0 0, .int .i64 k, .int .i64 9]) (by simp [results, Tryz.results14, go_sem]) rfl ⟨none, 0, by rw [hRk.out]; rfl, by rw [hRk.out]; exact Sl.nil, hgA⟩
                · by_cases hr2 : r.length = 2
                  · obtain ⟨a, b, rfl⟩ : ∃ a b, r = [a, b] := by
                      match r, hr2 with
                      | [a, b], _ => exact ⟨a, b, rfl⟩
                    clear hr2
                    by_cases hr0 : raws.length = 0
                    · have hst0 : st = [] := List.eq_nil_of_length_eq_zero (by rw [← hRow.len]; exact hr0)
                      have hsn : stepR st x.data.toList = none := by rw [hstep]; simp only [if_pos hst0]
                      have hRk := rdR_bad hR.out hrd.out hxd.out (.inl hsn)
                      replace hRk := hide hRk
                      have hge : (raws.length : Int) < 1 := by omega
                      replace hr0 := hide hr0
                      clear hstep hRow hO3 hst0 hsn
                      go_wp2_with fail
                      exact bodyPost_ret (v := .tuple #[.slice none 0 0, .int .i64 k, .int .i64 9]) (by simp [results, Tryz.results14, go_sem]) rfl ⟨none, 0, by rw [hRk.out]; rfl, by rw [hRk.out]; exact Sl.nil, hgA⟩
                    · obtain ⟨n, hn⟩ : ∃ n, raws.length = n + 1 := ⟨raws.length - 1, by omega⟩
                      have hsl : n + 1 = st.length := by rw [← hRow.len, hn]
                      have hst0 : st ≠ [] := by intro e; rw [e] at hsl; simp at hsl
                      have hstp : stepR st x.data.toList = some (addR st ⟨a, b⟩) := by rw [hstep]; simp only [if_neg hst0]
                      rw [addR_set hsl] at hstp
                      have hrd' := hide (rdR_good hrd.out hxd.out hstp hne)
                      clear hstp hstep hrd
                      have hkn : (raws.length : Int) - 1 = (n : Int) := by omega
                      have hge : (1 : Int) ≤ raws.length := by omega
                      have hO3' : Own w3 w2.heap.size 3 A3 c3 [a, b] := hO3
                      have hnl : n < raws.length := by omega
                      have hnl2 : n < st.length := by omega
                      replace hn := hide hn
                      replace hsl := hide hsl
                      replace hst0 := hide hst0
                      clear hr0 hO3
                      obtain ⟨g5, rfl, hgl5, hgr5⟩ := hO3'.shape (by simp)
                      have v0 := hO3'.cell_int (j := 0) (by simp)
                      have v1 := hO3'.cell_int (j := 1) (by simp)
                      simp only [List.getElem_cons_zero, List.getElem_cons_succ] at v0 v1
                      have hRow3 := hRow.pure hg23
                      obtain ⟨g2, rfl, hgl2, hgr2⟩ := hRow3.out.shape (by omega)
                      have u0 := RowsN.cell hRow3 hnl
                      have uf := hRow3.out.frozen n
                      obtain ⟨hin, hinO⟩ := hRow3.ins n hnl hnl2
                      have hptl := Nat.le_trans (flat_mem (List.getElem_mem hnl2)) hpl.out
                      obtain ⟨j0, hj, hjz, j1, j2⟩ := info_parts info_pt
                      go_wp2_with fail
                      refine wp_region_tree (fun wx => w3.grownBy wx none) [2, 2, 2, 2, 2, 1, 2, 2, 1, 2, 2, 1, 2, 0, 0, 2, 0] (.bl 0 (.bl 1 (.bl 2 (.bl 3 (.bl 4 (.bl 5 (.bl 6 (.bl 7 (.bl 8 (.bl 9 (.bl 10 (.bl 11 (.bl 12 (.ef 13 (.ef 14 (.bl 15 (.ef 16 .done))))))))))))))))) (by kernel_rfl) (by kernel_rfl) (gr_drew (World.grownBy.refl _ _)) ?_
                      obtain ⟨W1, hW1⟩ : ∃ x, x = (w3).drew := ⟨_, rfl⟩
                      rw [← hW1]
                      have hgW1 : (w3).grownBy W1 none := by rw [hW1]; exact gr_drew (World.grownBy.refl _ _)
                      clear hW1
                      refine tree_p rfl rfl rfl rfl _ rfl (by simp) (fun K hK => ?_)
                      apply Exists.intro
                      refine ⟨fun wq K' hK' => ?_, ?_⟩
                      · go_wp2_with fail
                        exact hK'
                      go_simp
                      refine hK _ ?_
                      clear hK K
                      refine tree_p rfl rfl rfl rfl _ rfl (by simp) (fun K hK => ?_)
                      apply Exists.intro
                      refine ⟨fun wq K' hK' => ?_, ?_⟩
                      · go_wp2_with fail
                        exact hK'
                      go_simp
                      refine hK _ ?_
                      clear hK K
                      refine tree_p rfl rfl rfl rfl _ rfl (by simp) (fun K hK => ?_)
                      apply Exists.intro
                      refine ⟨fun wq K' hK' => ?_, ?_⟩
                      · go_wp2_with fail
                        exact hK'
                      go_simp
                      refine hK _ ?_
                      clear hK K
                      refine tree_p rfl rfl rfl rfl _ rfl (by simp) (fun K hK => ?_)
                      apply Exists.intro
                      refine ⟨fun wq K' hK' => ?_, ?_⟩
                      · go_wp2_with fail
                        exact hK'
                      go_simp
                      refine hK _ ?_
                      clear hK K
                      refine tree_p rfl rfl rfl rfl _ rfl (by simp) (fun K hK => ?_)
                      apply Exists.intro
                      refine ⟨fun wq K' hK' => ?_, ?_⟩
                      · go_wp2_with fail
                        exact hK'
                      go_simp
                      refine hK _ ?_
                      clear hK K
                      refine tree_b rfl rfl rfl rfl _ rfl (by simp) (fun K hK => ?_)
                      apply Exists.intro
                      refine ⟨fun wq hq K' hK' => ?_, ?_⟩
                      · have y0 := hq.k u0
                        have y1 := hq.k v0
                        have y2 := hq.k v1
                        go_wp2_with fail
                        exact hK'
                      go_simp
                      refine hK _ ?_
                      clear hK K
                      refine tree_p rfl rfl rfl rfl _ rfl (by simp) (fun K hK => ?_)
                      apply Exists.intro
                      refine ⟨fun wq K' hK' => ?_, ?_⟩
                      · go_wp2_with fail
                        exact hK'
                      go_simp
                      refine hK _ ?_
                      clear hK K
                      refine tree_p rfl rfl rfl rfl _ rfl (by simp) (fun K hK => ?_)
                      apply Exists.intro
                      refine ⟨fun wq K' hK' => ?_, ?_⟩
                      · go_wp2_with fail
                        exact hK'
                      go_simp
                      refine hK _ ?_
                      clear hK K
                      refine tree_b rfl rfl rfl rfl _ rfl (by simp) (fun K hK => ?_)
                      apply Exists.intro
                      refine ⟨fun wq hq K' hK' => ?_, ?_⟩
                      · have y0 := hq.k u0
                        have y1 := hq.k v0
                        have y2 := hq.k v1
                        go_wp2_with fail
                        exact hK'
                      go_simp
                      refine hK _ ?_
                      clear hK K
                      refine tree_p rfl rfl rfl rfl _ rfl (by simp) (fun K hK => ?_)
                      apply Exists.intro
                      refine ⟨fun wq K' hK' => ?_, ?_⟩
                      · go_wp2_with fail
                        exact hK'
                      go_simp
                      refine hK _ ?_
                      clear hK K
                      refine tree_p rfl rfl rfl rfl _ rfl (by simp) (fun K hK => ?_)
                      apply Exists.intro
                      refine ⟨fun wq K' hK' => ?_, ?_⟩
                      · go_wp2_with fail
                        exact hK'
                      go_simp
                      refine hK _ ?_
                      clear hK K
                      refine tree_b rfl rfl rfl rfl _ rfl (by simp) (fun K hK => ?_)
                      apply Exists.intro
                      refine ⟨fun wq hq K' hK' => ?_, ?_⟩
                      · have y0 := hq.k u0
                        have y1 := hq.k v0
                        have y2 := hq.k v1
                        go_wp2_with fail
                        exact hK'
                      go_simp
                      refine hK _ ?_
                      clear hK K
                      refine tree_p rfl rfl rfl rfl _ rfl (by simp) (fun K hK => ?_)
                      apply Exists.intro
                      refine ⟨fun wq K' hK' => ?_, ?_⟩
                      · go_wp2_with fail
                        exact hK'
                      go_simp
                      refine hK _ ?_
                      clear hK K
                      refine tree_e rfl rfl (fun K hK => ?_)
                      go_wp2_with fail
                      try go_simp
                      refine hK _ _ (gr_alloc (gr_trans hgW1 (World.grownBy.refl _ _)) _) ?_
                      clear hK K
                      obtain ⟨w88, hw88⟩ : ∃ x, x = (W1).alloc (.cells [.int .i64 a, .int .i64 b].toArray 45) := ⟨_, rfl⟩
                      have hg88 : (W1).grownBy w88 none := by rw [hw88]; exact gr_alloc (World.grownBy.refl _ _) _
                      have hb88 : Box w88 (W1).heap.size 45 [.int .i64 a, .int .i64 b] := by rw [hw88]; exact Box.new _ _ _
                      rw [← hw88]
                      clear hw88
                      obtain ⟨x88, hx88⟩ : ∃ x, x = (W1).heap.size := ⟨_, rfl⟩
                      rw [← hx88] at hb88 ⊢
                      have hxl88 : (W1).heap.size ≤ x88 := by omega
                      clear hx88
                      have hg388 : w3.grownBy w88 none := gr_trans hgW1 hg88
                      have hRow88 := hRow3.pure hg388
                      have hin88 := hinO.pure hg388
                      refine tree_e0 (by kernel_rfl) rfl rfl (fun K hK => ?_)
                      refine wp_pushAt (α := Pt) _ (.tmp 72) (.tmp 80) _ rfl w1.heap.size 45 j0 _ 16 Tryz.underlying28 hj hjz j1 j2 rfl _ _ _ st[n] rfl (by first | rfl | exact hin) hin88 0 ⟨x88, 0, none⟩ _ _ [⟨a, b⟩] rfl rfl (hb88.sl ⟨_, [], rfl, rfl, rfl⟩ (Nat.zero_le _) (by simp [maxLen])) ?_ ?_ ?_ ?_
                      · simp; omega
                      · simp [maxLen]; omega
                      · exact (hg.t (hg23.t hg388)).size
                      intro A5 c5 w5 hown5 hG5
                      have hOut5 := RowsN.outer hRow88 hnl hG5
                      have q0 : w5.cell? ⟨g2, n, none⟩ = some (.slice raws[n].A raws[n].n raws[n].c) := by
                        obtain ⟨c1, rfl, hc⟩ := hOut5.cell_at (by decide) hnl
                        have := hc 0 _ rfl
                        rwa [show Enc.sz RawS = 1 from rfl, Nat.mul_one] at this
                      have qf := hOut5.frozen n
                      have hRowF := RowsN.put hRow88 hnl hown5 hG5
                      have hgF := gr_set (gr_row (hg.t (hg23.t hg388)) hG5.1 (fun g hgg => (hinO.blk_lt hgg).1)) (p := ⟨g2, n, none⟩) (.inr hgl2) (.slice A5 (st[n] ++ [(⟨a, b⟩ : Pt)]).length c5)
                      have hlen5 : (st[n] ++ [(⟨a, b⟩ : Pt)]).length = st[n].length + 1 := by simp
                      rw [hlen5] at hRowF hgF
                      have hpl5 : Hid ((st.set n (st[n] ++ [⟨a, b⟩])).flatten.length ≤ k + 1) := by rw [Hid, flat_set hnl2]; have := hpl.out; omega
                      replace hRowF := hide hRowF
                      replace hgF := hide hgF
                      clear hOut5 hlen5
                      try go_simp
                      refine hK _ _ trivial ?_
                      clear hK K
                      refine tree_p rfl rfl rfl rfl _ rfl (by simp) (fun K hK => ?_)
                      apply Exists.intro
                      refine ⟨fun wq K' hK' => ?_, ?_⟩
                      · go_wp2_with fail
                        exact hK'
                      go_simp
                      refine hK _ ?_
                      clear hK K
                      refine tree_e0 (by kernel_rfl) rfl rfl (fun K hK => ?_)
                      go_wp2_with fail
                      try go_simp
                      refine hK _ _ trivial ?_
                      clear hK K
                      refine tree_done ?_
                      go_wp2_with fail
                      exact ⟨⟨k + 1, _, _, _, c2, by omega, by go_num, by rw [List.length_set], hRowF.out, hrd', by rw [Hid, List.length_set]; omega, hpl5, hgF.out⟩, by simp [intOf]; omega⟩
                  · have hsn : stepR st x.data.toList = none := by
                      rw [hstep]
                      split
                      · rename_i h
                        split at h
                        · rename_i a b h5
                          injection h5 with h5
                          subst h5
                          simp at hr2
                        · cases h
                      · rfl
                    have hn2 : ((r.length : Int) == 2) = false := by rw [beq_eq_false_iff_ne]; omega
                    have hRk := rdR_bad hR.out hrd.out hxd.out (.inl hsn)
                    replace hRk := hide hRk
                    clear hstep hRow hO3 hsn
                    replace hr2 := hide hr2
                    go_wp2_with fail
                    exact bodyPost_ret (v := .tuple #[.slice none 0 0, .int .i64 k, .int .i64 9]) (by simp [results, Tryz.results14, go_sem]) rfl ⟨none, 0, by rw [hRk.out]; rfl, by rw [hRk.out]; exact Sl.nil, hgA⟩
      · obtain rfl : k = L.length := by omega
        have hsl := hRow.sl.mono (Nat.zero_le _)
        have hdl : Ld.drop L.length = [] := List.drop_of_length_le (by have := congrArg List.length hLB.out; rw [List.length_map] at this; omega)
        have hend : finR st = RR := by rw [← hR.out, hrd.out, hdl]; rfl
        have hflat : (flatK st st.length).length ≤ 1000000 := by rw [flatK_all (Nat.le_refl _)]; have := hpl.out; omega
        have hC := checkRegion_any A2 c2 st wr hsl hflat
        rw [← hRow.len] at hC
        have hrl := hRow.len
        obtain ⟨F, hF⟩ : ∃ F, regF st = F := ⟨_, rfl⟩
        rw [hF] at hC
        unfold finR at hend
        rw [hF] at hend
        replace hrl := hide hrl
        clear hRow hrd hdl hF
        by_cases hF0 : F = 0
        · subst hF0
          rw [if_pos rfl] at hend
          replace hend := hide hend
          go_wp2_with fail
          refine hC.mono ?_
          rintro e w2 ⟨rfl, hg2⟩
          clear hC
          go_wp2_with fail
          exact bodyPost_ret (v := .tuple #[.slice A2 raws.length c2, .int .i64 0, .int .i64 0]) (by simp [results, Tryz.results14, go_sem]) rfl ⟨A2, c2, by rw [← hend.out, hrl.out], by rw [← hend.out]; exact hsl.pure hg2, hg1.t (hg.t hg2)⟩
        · have hb0 : (F != 0) = true := by simp [hF0]
          rw [if_neg hF0] at hend
          replace hend := hide hend
          replace hF0 := hide hF0
          go_wp2_with fail
          refine hC.mono ?_
          rintro e w2 ⟨rfl, hg2⟩
          clear hC
          go_wp2_with fail
          exact bodyPost_ret (v := .tuple #[.slice none 0 0, .int .i64 0, .int .i64 F]) (by simp [results, Tryz.results14, go_sem]) rfl ⟨none, 0, by rw [← hend.out]; rfl, by rw [← hend.out]; exact Sl.nil, hg1.t (hg.t hg2)⟩

end Go.Proofs.YtoldefommoiiiaaGreatDoor

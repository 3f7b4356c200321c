/- Contracts of functions that this seat's laws reach, each: what one call returns and what it leaves in memory; no condition beyond each theorem's own hypotheses. -/
import Derived.Test.YtcglkjpfnnehhaaGreatDoorZqMTextF
import Derived.Test.YtcglkjpfnnehhaaGreatDoorZqPathTxC
set_option linter.unusedVariables false
set_option linter.unusedSimpArgs false
namespace Go.Proofs.YtcglkjpfnnehhaaGreatDoor
open Go Go.RowKit Go.Bl

theorem rdM_bad {st : MeshV} {Ld : List (List UInt8)} {E : Bool} {k : Nat} {x : List UInt8} {RR : MeshV × Int × Int} (hR : endM (readL stepM noM 0 Ld E) = RR) (hrd : readL stepM noM 0 Ld E = readL stepM st k (Ld.drop k) E) (hxd : Ld.drop k = x :: Ld.drop (k + 1)) (h : stepM st x = none ∨ (Ld.drop (k + 1) = [] ∧ E = false)) : (noM, (k : Int), 9) = RR := by
  rw [← hR, hrd, hxd]
  rcases h with h | ⟨h, rfl⟩
  · rw [readL_bad _ _ _ h]; rfl
  · rw [h, readL_open]; rfl

theorem rdM_good {st st' : MeshV} {Ld : List (List UInt8)} {E : Bool} {k : Nat} {x : List UInt8} (hrd : readL stepM noM 0 Ld E = readL stepM st k (Ld.drop k) E) (hxd : Ld.drop k = x :: Ld.drop (k + 1)) (h : stepM st x = some st') (he : Ld.drop (k + 1) ≠ [] ∨ E = true) : readL stepM noM 0 Ld E = readL stepM st' (k + 1) (Ld.drop (k + 1)) E := by
  rw [hrd, hxd, readL_good _ _ _ h he]

set_option maxHeartbeats 4000000 in
set_option maxRecDepth 100000 in
theorem meshRead_any (s : ByteArray) (w : World) :
    Calls Tryz.prog 12 #[.string s] w fun e w' => ∃ A c B d, e = .returned (.tuple #[.agg #[.slice A (readM s.data.toList).1.vs.length c, .slice B (readM s.data.toList).1.fs.length d], .int .i64 (readM s.data.toList).2.1, .int .i64 (readM s.data.toList).2.2]) ∧ Sl w' 0 A (readM s.data.toList).1.vs ∧ Sl w' 0 B (readM s.data.toList).1.fs ∧ w.grownBy w' none := by
  have hsz := Lib.size_eq s
  obtain ⟨RR, hRR⟩ : ∃ r, readM s.data.toList = r := ⟨_, rfl⟩
  rw [hRR]
  by_cases hbig : 200000 < s.size
  · have hend : Hid ((noM, 0, 2) = RR) := by rw [Hid, ← hRR]; unfold readM; rw [if_pos (by omega)]
    clear hRR hsz
    have hb : decide ((s.size : Int) > 200000) = true := by simp; omega
    go_enter Tryz.func12, Tryz.ntmps12
    go_upto_region 1 with fail
    obtain ⟨w2, hw2⟩ : ∃ x, x = (w).alloc (.cells [.slice none 0 0, .slice none 0 0].toArray 29) := ⟨_, rfl⟩
    have hg2 : (w).grownBy w2 none := by rw [hw2]; exact gr_alloc (World.grownBy.refl _ _) _
    have hb2 : Box w2 (w).heap.size 29 [.slice none 0 0, .slice none 0 0] := by rw [hw2]; exact Box.new _ _ _
    have hxs2 := hb2.lt
    rw [← hw2]
    clear hw2
    obtain ⟨x2, hx2⟩ : ∃ x, x = (w).heap.size := ⟨_, rfl⟩
    rw [← hx2] at hb2 hxs2 ⊢
    have hxl2 : (w).heap.size ≤ x2 := by omega
    clear hx2
    obtain ⟨r0, r1⟩ := hb2.c 0 rfl
    obtain ⟨r2, r3⟩ := hb2.c 1 rfl
    go_wp2_with fail
    exact bodyPost_ret (v := .tuple #[.agg #[.slice none 0 0, .slice none 0 0], .int .i64 0, .int .i64 2]) (by simp [results, Tryz.results12, go_sem, r0, r1, r2, r3]) rfl ⟨none, 0, none, 0, by rw [← hend.out]; rfl, by rw [← hend.out]; exact Sl.nil, by rw [← hend.out]; exact Sl.nil, res_gr hg2 hxl2 _ _⟩
  · have hb : decide ((s.size : Int) > 200000) = false := by simp; omega
    have hLn := fun wx => kitLines_any s wx (by omega)
    obtain ⟨Ld, hLd⟩ : ∃ l, (linesK s.data.toList).1 = l := ⟨_, rfl⟩
    obtain ⟨E, hE⟩ : ∃ l, (linesK s.data.toList).2 = l := ⟨_, rfl⟩
    have hLB : linesB s = Ld.map mkB := by unfold linesB; rw [hLd]
    rw [hE] at hLn
    have hR : Hid (endM (readL stepM noM 0 Ld E) = RR) := by rw [Hid, ← hRR]; unfold readM; rw [if_neg (by omega), hLd, hE]
    obtain ⟨hk1, hk2⟩ := linesK_size s.data.toList
    rw [hLd] at hk1 hk2
    have hls : Hid (∀ x ∈ linesB s, x.size ≤ 200000) := by
      intro x hx
      rw [hLB] at hx
      obtain ⟨y, hy, rfl⟩ := List.mem_map.1 hx
      have := hk1 y hy
      rw [mkB_size]; omega
    have hll : (linesB s).length ≤ 200001 := by rw [hLB, List.length_map]; omega
    clear hk1 hk2
    generalize linesB s = L at *
    replace hsz := hide hsz
    replace hRR := hide hRR
    replace hLd := hide hLd
    replace hE := hide hE
    replace hLB := hide hLB
    go_enter Tryz.func12, Tryz.ntmps12
    go_upto_region 1 with fail
    obtain ⟨w2, hw2⟩ : ∃ x, x = (w).alloc (.cells [.slice none 0 0, .slice none 0 0].toArray 29) := ⟨_, rfl⟩
    have hg2 : (w).grownBy w2 none := by rw [hw2]; exact gr_alloc (World.grownBy.refl _ _) _
    have hb2 : Box w2 (w).heap.size 29 [.slice none 0 0, .slice none 0 0] := by rw [hw2]; exact Box.new _ _ _
    have hxs2 := hb2.lt
    rw [← hw2]
    clear hw2
    obtain ⟨x2, hx2⟩ : ∃ x, x = (w).heap.size := ⟨_, rfl⟩
    rw [← hx2] at hb2 hxs2 ⊢
    have hxl2 : (w).heap.size ≤ x2 := by omega
    clear hx2
    go_wp2_with fail
    refine (hLn _).mono ?_
    rintro e w1 ⟨A1, c1, rfl, hL, hg1⟩
    clear hLn
    have hsz1 := hg1.size
    go_wp2_with fail
    go_loopw [22] (fun i wr => ∃ (k : Nat) (st : MeshV), k ≤ L.length ∧ i = .int .i64 k ∧ Hid (RdM w1 w1.heap.size (w1.heap.size + 1) k st wr) ∧ Hid (readL stepM noM 0 Ld E = readL stepM st k (Ld.drop k) E)) (fun i _ => L.length - (intOf i).toNat)
    case atStart => exact ⟨0, noM, Nat.zero_le _, rfl, rdM_start w1, rfl⟩
    case round =>
      obtain ⟨k, st, hk, rfl, hS, hrd⟩ := hrel
      have hg := RdM.gr hS.out
      by_cases hlt : k < L.length
      · obtain ⟨g, o, cx, rfl, hb0, hb1, rfl, hc⟩ := (hL.pure hg).at_ (by decide) hlt
        have c0 : wr.cell? ⟨g, o + k, none⟩ = some (.string L[k]) := by have := hc 0 _ rfl; rwa [show Enc.sz ByteArray = 1 from rfl, Nat.mul_one] at this
        clear hc
        have hxs := hls.out _ (List.getElem_mem hlt)
        have hxd : Hid (Ld.drop k = L[k].data.toList :: Ld.drop (k + 1)) := by
          have hlk : k < Ld.length := by have := congrArg List.length hLB.out; rw [List.length_map] at this; omega
          have e : L[k] = mkB Ld[k] := by simp only [hLB.out, List.getElem_map]
          rw [Hid, e, mkB_data]
          exact List.drop_eq_getElem_cons hlk
        have hlLd : L.length = Ld.length := by have := congrArg List.length hLB.out; rwa [List.length_map] at this
        replace hlLd := hide hlLd
        generalize hxk : L[k] = x at *
        clear hxk
        have hRl := fun wx (hSx : RdM w1 w1.heap.size (w1.heap.size + 1) k st wx) => readLineM_any w1 w1.heap.size (w1.heap.size + 1) k st x wx hSx hxs (by omega)
        obtain ⟨R, hRe⟩ : ∃ R, stepM st x.data.toList = R := ⟨_, rfl⟩
        rw [hRe] at hRl
        cases R with
        | none =>
          have hend := hide (rdM_bad hR.out hrd.out hxd.out (.inl hRe))
          clear hRe hrd
          go_wp2_with fail
          refine (hRl _ hS.out).mono ?_
          rintro e w3 ⟨rfl, -, hg3⟩
          clear hRl
          have hbR := hb2.pure (hg1.t hg3)
          have hgE := hg2.t (hg1.t hg3)
          obtain ⟨r0, r1⟩ := hbR.c 0 rfl
          obtain ⟨r2, r3⟩ := hbR.c 1 rfl
          go_wp2_with fail
          exact bodyPost_ret (v := .tuple #[.agg #[.slice none 0 0, .slice none 0 0], .int .i64 k, .int .i64 9]) (by simp [results, Tryz.results12, go_sem, r0, r1, r2, r3]) rfl ⟨none, 0, none, 0, by rw [← hend.out]; rfl, by rw [← hend.out]; exact Sl.nil, by rw [← hend.out]; exact Sl.nil, res_gr hgE hxl2 _ _⟩
        | some st' =>
          cases E with
          | true =>
            have hrd' := hide (rdM_good hrd.out hxd.out hRe (.inr rfl))
            clear hRe
            clear hrd
            go_wp2_with fail
            refine (hRl _ hS.out).mono ?_
            rintro e w3 ⟨rfl, hn, hg3⟩
            have hS2 := hide (hn _ rfl)
            clear hRl hn
            go_wp2_with fail
            first
              | exact ⟨⟨k + 1, st', by omega, by go_num, hS2, hrd'⟩, by simp [intOf]; omega⟩
              | (go_roundw; (case rel => exact ⟨k + 1, st', by omega, by go_num, hS2, hrd'⟩); (case measure => simp [intOf]; omega))
          | false =>
            by_cases hA : k + 1 = L.length
            · have hd : ((k : Int) == (L.length : Int) - 1) = true := by simp; omega
              have hdl : Ld.drop (k + 1) = [] := List.drop_of_length_le (by have := hlLd.out; omega)
              have hend := hide (rdM_bad hR.out hrd.out hxd.out (.inr ⟨hdl, rfl⟩))
              clear hdl hRe hrd
              replace hA := hide hA
              go_wp2_with fail
              refine (hRl _ hS.out).mono ?_
              rintro e w3 ⟨rfl, -, hg3⟩
              clear hRl
              have hbR := hb2.pure (hg1.t hg3)
              have hgE := hg2.t (hg1.t hg3)
              obtain ⟨r0, r1⟩ := hbR.c 0 rfl
              obtain ⟨r2, r3⟩ := hbR.c 1 rfl
              go_wp2_with fail
              exact bodyPost_ret (v := .tuple #[.agg #[.slice none 0 0, .slice none 0 0], .int .i64 k, .int .i64 9]) (by simp [results, Tryz.results12, go_sem, r0, r1, r2, r3]) rfl ⟨none, 0, none, 0, by rw [← hend.out]; rfl, by rw [← hend.out]; exact Sl.nil, by rw [← hend.out]; exact Sl.nil, res_gr hgE hxl2 _ _⟩
            · have hd : ((k : Int) == (L.length : Int) - 1) = false := by rw [beq_eq_false_iff_ne]; omega
              have hne : Ld.drop (k + 1) ≠ [] := by
                intro e
                have := congrArg List.length e
                rw [List.length_drop] at this
                have := hlLd.out
                simp at *; omega
              have hrd' := hide (rdM_good hrd.out hxd.out hRe (.inl hne))
              clear hne hRe
              replace hA := hide hA
              clear hrd
              go_wp2_with fail
              refine (hRl _ hS.out).mono ?_
              rintro e w3 ⟨rfl, hn, hg3⟩
              have hS2 := hide (hn _ rfl)
              clear hRl hn
              go_wp2_with fail
              first
                | exact ⟨⟨k + 1, st', by omega, by go_num, hS2, hrd'⟩, by simp [intOf]; omega⟩
                | (go_roundw; (case rel => exact ⟨k + 1, st', by omega, by go_num, hS2, hrd'⟩); (case measure => simp [intOf]; omega))
      · obtain rfl : k = L.length := by omega
        have hdl : Ld.drop L.length = [] := List.drop_of_length_le (by have := congrArg List.length hLB.out; rw [List.length_map] at this; omega)
        have hend : finM st = RR := by rw [← hR.out, hrd.out, hdl]; rfl
        obtain ⟨A2, c2, B2, d2, hV, hFs, hbox, hrk, hrk2, hg, h0, hxl, hlo⟩ := hS.out
        obtain ⟨y0, y1⟩ := hbox.c 0 rfl
        obtain ⟨y2, y3⟩ := hbox.c 1 rfl
        have hsl := hV.sl.mono (Nat.zero_le _)
        have hsf := hFs.sl.mono (Nat.zero_le _)
        have hxlo : x2 < w1.heap.size + 1 := by omega
        have hC := fun wx (hx : wr.grownBy wx none) => checkMesh_any A2 c2 st.vs B2 d2 st.fs wx (hsl.pure hx) (hsf.pure hx)
        obtain ⟨F, hF⟩ : ∃ F, meshF ⟨st.vs, st.fs⟩ = F := ⟨_, rfl⟩
        rw [hF] at hC
        unfold finM at hend
        rw [show meshF st = F from hF] at hend
        clear hrd hdl hF hS
        by_cases hF0 : F = 0
        · subst hF0
          rw [if_pos rfl] at hend
          replace hend := hide hend
          go_wp2_with fail
          refine (hC _ (World.grownBy.refl _ _)).mono ?_
          rintro e w3 ⟨rfl, hg3⟩
          have hb3 := hbox.pure hg3
          obtain ⟨z0, z1⟩ := hb3.c 0 rfl
          obtain ⟨z2, z3⟩ := hb3.c 1 rfl
          have hbR := hb2.pure (hg1.t (hg.t hg3))
          have hgE := hg2.t (hg1.t (hg.t hg3))
          have hF := hFs
          clear hC y0 y1 y2 y3
          obtain ⟨r0, r1⟩ := hbR.c 0 rfl
          obtain ⟨r2, r3⟩ := hbR.c 1 rfl
          go_wp2_with fail
          exact bodyPost_ret (v := .tuple #[.agg #[.slice A2 st.vs.length c2, .slice B2 st.fs.length d2], .int .i64 0, .int .i64 0]) (by simp [results, Tryz.results12, go_sem, r0, r1, r2, r3]) rfl ⟨A2, c2, B2, d2, by rw [← hend.out], by rw [← hend.out]; exact res_sl (hV.sl.pure hg3) hxlo _ _, by rw [← hend.out]; exact res_sl (hF.sl.pure hg3) hxlo _ _, res_gr hgE hxl2 _ _⟩
        · have hb0 : (F != 0) = true := by simp [hF0]
          rw [if_neg hF0] at hend
          replace hend := hide hend
          replace hF0 := hide hF0
          go_wp2_with fail
          refine (hC _ (World.grownBy.refl _ _)).mono ?_
          rintro e w3 ⟨rfl, hg3⟩
          clear hC
          have hbR := hb2.pure (hg1.t (hg.t hg3))
          have hgE := hg2.t (hg1.t (hg.t hg3))
          obtain ⟨r0, r1⟩ := hbR.c 0 rfl
          obtain ⟨r2, r3⟩ := hbR.c 1 rfl
          go_wp2_with fail
          exact bodyPost_ret (v := .tuple #[.agg #[.slice none 0 0, .slice none 0 0], .int .i64 0, .int .i64 F]) (by simp [results, Tryz.results12, go_sem, r0, r1, r2, r3]) rfl ⟨none, 0, none, 0, by rw [← hend.out]; rfl, by rw [← hend.out]; exact Sl.nil, by rw [← hend.out]; exact Sl.nil, res_gr hgE hxl2 _ _⟩

end Go.Proofs.YtcglkjpfnnehhaaGreatDoor

/- Contracts of functions that this seat's laws reach, each: what one call returns and what it leaves in memory; no condition beyond each theorem's own hypotheses. -/
import Derived.Test.YtjodjdjfagjiaaaMeshZ
import Derived.Deep.DeepCutAuto
set_option linter.unusedVariables false
set_option linter.unusedSimpArgs false
namespace Go.Proofs.Ytjodjdjfagjiaaa
open Go.RowKit Go.Bl

def SMesh (b : Nat) (N : Int) (w : World) (e : Ending) (w' : World) : Prop := ∃ (A : Option Addr) (c : Nat) (vs : List V3) (B : Option Addr) (d : Nat) (fs : List Fc), e = .returned (.agg #[.slice A vs.length c, .slice B fs.length d]) ∧ Sl w' (b + 1) A vs ∧ Sl w' (b + 1) B fs ∧ SOut b N w w'

set_option maxHeartbeats 4000000 in
set_option maxRecDepth 100000 in
theorem aMesh_any (b : Nat) (N : Int) (w : World) (hs : Strm w b N) (hN : N ≤ 100000000) :
    Calls Try.prog 6 #[.pointer (some ⟨b, 0, none⟩)] w (SMesh b (N + 70) w) := by
  have hbw := hs.lt
  obtain ⟨W1, hW1⟩ : ∃ W1, W1 = w.alloc (.cells #[.slice none 0 0, .slice none 0 0] 29) := ⟨_, rfl⟩
  obtain ⟨W, hW⟩ : ∃ W, W = W1.alloc (.cells #[.slice none 0 0, .slice none 0 0] 29) := ⟨_, rfl⟩
  have ho1 : SOut b N w W1 := by rw [hW1]; exact (SOut.refl hs).al _
  have hs1 : W1.heap.size = w.heap.size + 1 := by rw [hW1]; simp
  have hs2 : W.heap.size = w.heap.size + 1 + 1 := by rw [hW]; simp [hs1]
  have r0 : Cell W1 w.heap.size 0 (.slice none 0 0) := by rw [hW1]; exact Cell.new w [.slice none 0 0, .slice none 0 0] 29 0 _ rfl _ rfl
  have r1 : Cell W1 w.heap.size 1 (.slice none 0 0) := by rw [hW1]; exact Cell.new w [.slice none 0 0, .slice none 0 0] 29 1 _ rfl _ rfl
  have m0 : Cell W (w.heap.size + 1) 0 (.slice none 0 0) := by rw [hW]; exact Cell.new W1 [.slice none 0 0, .slice none 0 0] 29 0 _ rfl _ hs1.symm
  have m1 : Cell W (w.heap.size + 1) 1 (.slice none 0 0) := by rw [hW]; exact Cell.new W1 [.slice none 0 0, .slice none 0 0] 29 1 _ rfl _ hs1.symm
  have hc : AMc b (w.heap.size + 1) W.heap.size W1 := ⟨by omega, by omega, by omega⟩
  have hA : AMs b (w.heap.size + 1) W.heap.size W1 N none 0 [] none 0 [] W := ⟨by rw [hW]; exact (SOut.refl ho1.2).al _, m0, m1, ⟨Own.nil _ _ _, Own.nil _ _ _, fun g e => by cases e⟩, by simp⟩
  rw [hW1] at hW
  replace hW := hide hW.symm
  replace hs1 := hide hs1
  replace hs2 := hide hs2
  replace r0 := hide r0
  replace r1 := hide r1
  clear hW1 m0 m1
  replace hA := hide hA
  go_enter Try.func6, Try.ntmps6
  go_wp2_with fail
  rw [hW.out]
  refine (range_any b N _ _ _ hA.out.1.2 (by omega) (by omega) (by omega) (by omega)).mono ?_
  rintro e w2 ⟨n, rfl, ⟨hn1, hn2⟩, ho2⟩
  have hA := hA.out.st hc ho2
  clear hW ho2
  go_wp2_with fail
  go_loopw [11] (fun i wr => ∃ (k : Nat) (A : Option Addr) (c : Nat) (vs : List V3) (B : Option Addr) (d : Nat) (fs : List Fc), (k : Int) ≤ n ∧ i = .int .i64 k ∧ AMs b (w.heap.size + 1) W.heap.size W1 (N + 1 + 17 * k) A c vs B d fs wr ∧ Hid (k = 0 → fs = []) ∧ Hid (1 ≤ k → 4 ≤ vs.length ∧ 4 ≤ fs.length) ∧ vs.length ≤ 8 * k ∧ fs.length ≤ 12 * k) (fun i _ => (n - intOf i).toNat)
  case atStart => exact ⟨0, none, 0, [], none, 0, [], by omega, rfl, hA.mono (by omega), fun _ => rfl, fun h => by omega, by simp, by simp⟩
  case round =>
    obtain ⟨k, A, c, vs, B, d, fs, hk, rfl, hA, h0, h1, hvl, hfl⟩ := hrel
    by_cases hlt : (k : Int) < n
    · have hA0 := hA
      go_wp2_with fail
      refine (aVec_any b (N + 1 + 17 * k) _ hA.1.2 (by omega)).mono ?_
      rintro e w3 ⟨v, rfl, hv, ho3⟩
      replace hA := hA.st hc ho3
      clear ho3
      replace hv := hide hv
      go_wp2_with fail
      refine (pick_any b (N + 1 + 17 * k + 6) _ _ _ [1, 6, 10] _ (hA.1.2.pure (gr_alloc (World.grownBy.refl _ _) _)) (by omega) (sl_intsAt _ _ _ _ _ (by first | rfl | simp) (by have := hA.1.2.lt; omega) (by simp [maxLen])) rfl (by simp)).mono ?_
      rintro e w4 ⟨r, rfl, hr, ho4⟩
      replace hA := (hA.pure (gr_alloc (World.grownBy.refl _ _) _)).st hc ho4
      have hr' : Hid (0 ≤ r ∧ r ≤ 1000) := by simp at hr; simp only [Hid]; omega
      clear ho4 hr
      go_wp2_with fail
      refine (tetra_any v r _ hv.out hr'.out).mono ?_
      rintro e w5 ⟨A1, c1, vs1, B1, d1, fs1, rfl, hl1, hl2, hM, hin1, hg5⟩
      have hll : Hid ((4 ≤ vs1.length ∧ vs1.length ≤ 8) ∧ 4 ≤ fs1.length ∧ fs1.length ≤ 12) := by simp only [Hid]; omega
      rw [← hl1] at hin1
      replace hin1 := hide hin1
      clear hl1 hl2 hv hr'
      obtain ⟨hDA, hDB⟩ := hA.dis (gn := w5.heap.size) hg5.size (fun g e => (hM.1.blk_lt e).1) (fun g e => (hM.2.1.blk_lt e).1)
      have hb4 := hA.1.2.lt
      have hlo1 : W.heap.size ≤ w4.heap.size := by have := hA.2.1.lt; have := hs2.out; omega
      have hg45 := hg5.size
      replace hA := hA.pure hg5
      have hb5 := hA.1.2.lt
      replace hDA := hide hDA
      replace hDB := hide hDB
      have hNm : NMs w5.heap.size w4.heap.size A1 c1 vs1 B1 d1 fs1 (w5.alloc (.cells #[.slice A1 vs1.length c1, .slice B1 fs1.length d1] 29)) :=
        ⟨Cell.new w5 [.slice A1 vs1.length c1, .slice B1 fs1.length d1] 29 0 _ rfl _ rfl, Cell.new w5 [.slice A1 vs1.length c1, .slice B1 fs1.length d1] 29 1 _ rfl _ rfl, hM.gr (gr_alloc (World.grownBy.refl _ _) _)⟩
      replace hNm := hide hNm
      clear hM hg5
      go_wp2_with fail
      refine (flip_any b (N + 1 + 17 * k + 6 + 1) _ _ (hA.1.2.pure (gr_alloc (World.grownBy.refl _ _) _)) (by omega) (by omega)).mono ?_
      rintro e w6 ⟨fl, rfl, ho6⟩
      replace hA := (hA.pure (gr_alloc (World.grownBy.refl _ _) _)).st hc ho6
      replace hNm := hNm.out.st ho6 hb5 hb4
      clear ho6
      cases fl with
      | false =>
        go_upto_region 7 with fail
        obtain ⟨wy, rfl⟩ : ∃ x, x = w6 := ⟨w6, rfl⟩
        replace hA := hA.mono (show _ ≤ N + 1 + 17 * k + 17 by omega)
        have hgmn : w.heap.size + 1 < w5.heap.size := by have := hs2.out; omega
        have hgmn2 : ¬ w5.heap.size = w.heap.size + 1 := by omega
        have hgmn3 : ¬ w.heap.size + 1 = w5.heap.size := by omega
        have hgml : w.heap.size + 1 < w4.heap.size := by have := hs2.out; omega
        rcases Nat.eq_zero_or_pos k with hk0 | hk0
        · have hf0 : fs = [] := h0.out hk0
          subst hf0
          obtain ⟨-, ⟨p0, g0⟩, ⟨p1, g1⟩, -⟩ := id hA
          obtain ⟨⟨n0, -⟩, ⟨n1, -⟩, -⟩ := id hNm
          have hA2 := hide ((hA.take_ hc ⟨hNm.2.2.1.lower hlo1, hNm.2.2.2.1.lower hlo1, hNm.2.2.2.2⟩ hin1.out).mono (show _ ≤ N + 1 + 17 * ((k + 1 : Nat) : Int) by omega))
          clear hA hNm
          go_wp2_with fail
          (go_roundw; (case rel => exact ⟨k + 1, A1, c1, vs1, B1, d1, fs1, by omega, by go_num, hA2.out, fun h => by omega, fun _ => ⟨hll.out.1.1, hll.out.2.1⟩, by have := hll.out; omega, by have := hll.out; omega⟩); (case measure => simp [intOf]; omega))
        · have hk1 := h1.out hk0
          have hll1 := hll.out
          obtain ⟨gA1, rfl, -⟩ := hNm.2.2.1.shape (by omega)
          obtain ⟨gB1, rfl, -⟩ := hNm.2.2.2.1.shape (by omega)
          obtain ⟨-, ⟨p0, g0⟩, ⟨p1, g1⟩, -⟩ := id hA
          obtain ⟨⟨n0, -⟩, ⟨n1, -⟩, -⟩ := id hNm
          have hV := hA.2.2.2.1.1
          have hV1 := hNm.2.2.1.sl.mono (Nat.zero_le _)
          have hlo2 := hA.2.2.1.lt
          have hWsz : W.heap.size ≤ wy.heap.size := by have := hs2.out; omega
          have hfs0 : ¬ fs.length = 0 := by omega
          have hfs1 : 0 < fs.length := by omega
          replace hA := hide hA
          replace hNm := hide hNm
          go_wp2_with (at_builtin; obtain ⟨i0, hi, hz, q1, q2⟩ := info_parts info_v3; refine wpList_pushAt (α := V3) _ rfl (.tmp 42) (.tmp 44) _ rfl W.heap.size 49 i0 _ 24 Try.underlying26 hi hz q1 q2 rfl _ _ _ vs rfl ?c1 (by exact hV) 0 ⟨gA1, 0, none⟩ (vs1).length c1 vs1 rfl ?c5 (by exact hV1) ?c2 ?c3 ?c4 ?_)
          case c1 => rfl
          case c5 => rfl
          case c2 => omega
          case c3 => unfold maxLen; omega
          case c4 => omega
          intro A5 c5 w8' hown5 hG5
          obtain ⟨V5, hV5⟩ : ∃ V5, V5 = vs ++ vs1 := ⟨_, rfl⟩
          have hV5l : V5.length = vs.length + (vs1).length := by rw [hV5, List.length_append]
          rw [← hV5] at hown5
          rw [← hV5l]
          clear hV5
          have hA := hA.out
          have hNm := hNm.out
          obtain ⟨p0, g0⟩ := hA.2.1.grew hG5 hV hc.2.2
          obtain ⟨p1, g1⟩ := hA.2.2.1.grew hG5 hV hc.2.2
          have hA5 := hide (hA.setV hc hG5 hown5 (by omega))
          have hN5 := hNm.grew hG5 hDA.out
          obtain ⟨⟨n0, -⟩, ⟨n1, -⟩, -⟩ := id hN5
          have hN6 := hide (hN5.other (gr_set (World.grownBy.refl w8' (some (w.heap.size + 1))) (p := ⟨w.heap.size + 1, 0, none⟩) (.inl rfl) (.slice A5 V5.length c5)) (by omega) (fun e => by have := (hNm.2.2.1.blk_lt e).1; omega) (fun e => by have := (hNm.2.2.2.1.blk_lt e).1; omega))
          replace hV5l := hide hV5l
          clear hA hNm hN5 hown5 hG5 hV hV1
          go_upto_region 11 with fail
          generalize (w8'.setCell ⟨w.heap.size + 1, 0, none⟩ (.slice A5 V5.length c5)) = wz at *
          clear p0 g0 p1 g1 n0 n1
          obtain ⟨⟨n0, -⟩, ⟨n1, -⟩, -⟩ := id hN6.out
          obtain ⟨wp, rfl⟩ : ∃ x, x = wr := ⟨wr, rfl⟩
          go_wp2_with fail
          go_loopw [50] (fun i wr => ∃ (j : Nat) (B' : Option Addr) (d' : Nat) (fs' : List Fc), j ≤ (fs1).length ∧ i = .int .i64 j ∧ AMs b (w.heap.size + 1) W.heap.size W1 (N + 1 + 17 * k + 17) A5 c5 V5 B' d' fs' wr ∧ NMs w5.heap.size w4.heap.size (some ⟨gA1, 0, none⟩) c1 vs1 (some ⟨gB1, 0, none⟩) d1 fs1 wr ∧ Hid (Dis w5.heap.size (some ⟨gA1, 0, none⟩) (some ⟨gB1, 0, none⟩) B') ∧ Hid (fs'.length = fs.length + j)) (fun i _ => (fs1).length - (intOf i).toNat)
          case atStart => exact ⟨0, B, d, fs, by omega, rfl, hA5.out, hN6.out, hDB, rfl⟩
          case round =>
            obtain ⟨j, B', d', fs', hj, rfl, hA, hNm, hDX, hfl'⟩ := hrel
            by_cases hlj : j < (fs1).length
            · obtain ⟨-, -, ⟨p1, g1⟩, -⟩ := id hA
              have hfin := hin1.out _ (List.getElem_mem hlj)
              obtain ⟨c9, rfl, hcell⟩ := hNm.2.2.2.1.cell_at (by decide) hlj
              have x0 : wr.cell? ⟨gB1, j * 3, none⟩ = some (.int .i64 (fs1)[j].a) := hcell 0 _ rfl
              have x1 : wr.cell? ⟨gB1, j * 3 + 1, none⟩ = some (.int .i64 (fs1)[j].b) := hcell 1 _ rfl
              have x2 : wr.cell? ⟨gB1, j * 3 + 2, none⟩ = some (.int .i64 (fs1)[j].c) := hcell 2 _ rfl
              clear hcell
              generalize (fs1)[j] = f at *
              obtain ⟨b1, b2, b3⟩ := inF_bd hfin
              have hnew : Hid (inF V5.length ⟨f.a + vs.length, f.b + vs.length, f.c + vs.length⟩ = true) := by
                have := hV5l.out
                simp only [Hid, inF, inI, Bool.and_eq_true, decide_eq_true_eq]
                omega
              have y1 : 0 ≤ f.a ∧ f.a ≤ 8 := by omega
              have y2 : 0 ≤ f.b ∧ f.b ≤ 8 := by omega
              have y3 : 0 ≤ f.c ∧ f.c ≤ 8 := by omega
              clear b1 b2 b3 hfin
              have hF := hA.2.2.2.1.2.1
              have hWsz2 : W.heap.size ≤ wr.heap.size := by have := hA.2.2.1.lt; have := hs2.out; omega
              have hfl2 : fs'.length ≤ 40 := by have := hfl'.out; omega
              have hgB1 : gB1 < wr.heap.size := (hNm.2.2.2.1.blk_lt rfl).2
              have hgmr : w.heap.size + 1 < wr.heap.size := hA.2.2.1.lt
              replace hA := hide hA
              replace hNm := hide hNm
              go_wp2_with (at_builtin; obtain ⟨i0, hi, hz, h1, h2⟩ := info_parts info_face; refine wpList_pushAt (α := Fc) _ rfl (.tmp 55) (.tmp 69) _ rfl W.heap.size 67 i0 _ 24 Try.underlying27 hi hz h1 h2 rfl _ _ _ fs' rfl ?c1 (by exact (hF.pure (by repeat (first | exact World.grownBy.refl _ _ | assumption | refine gr_alloc ?_ _ | refine gr_drewN ?_ _ | refine gr_drew ?_)))) 0 ⟨_, 0, none⟩ 1 1 [⟨f.a + vs.length, f.b + vs.length, f.c + vs.length⟩] rfl rfl (by exact (sl_oneAt _ 0 _ _ _ _ (by first | rfl | simp) (Nat.zero_le _) rfl)) ?c2 ?c3 ?c4 ?_)
              case c1 => rfl
              case c2 => first | omega | (simp; omega)
              case c3 => first | (simp [maxLen]; omega) | (unfold maxLen; omega)
              case c4 => first | omega | (simp; omega)
              intro B5 d5 w9 hown5 hG5
              obtain ⟨F5, hF5⟩ : ∃ F5, F5 = fs' ++ [(⟨f.a + vs.length, f.b + vs.length, f.c + vs.length⟩ : Fc)] := ⟨_, rfl⟩
              have hF5l : F5.length = fs'.length + 1 := by rw [hF5]; simp
              have hF5i : ∀ f ∈ F5, inF V5.length f = true := by
                rw [hF5]
                intro f' hf'
                rcases List.mem_append.1 hf' with hf' | hf'
                · exact hA.out.2.2.2.2 f' hf'
                · rw [List.mem_singleton.1 hf']; exact hnew.out
              rw [← hF5] at hown5
              rw [← hF5l]
              clear hF5 hnew
              have hgm := gr_alloc (gr_alloc (World.grownBy.refl wr none) (.cells #[.int .i64 f.a, .int .i64 f.b, .int .i64 f.c] 67)) (.cells #[.int .i64 (f.a + vs.length), .int .i64 (f.b + vs.length), .int .i64 (f.c + vs.length)] 67)
              have hA := hA.out.pure hgm
              have hNm := hNm.out.pure hgm
              obtain ⟨p1, g1⟩ := hA.2.2.1.grew hG5 hA.2.2.2.1.2.1 hc.2.2
              have hA2 := hide (hA.setF hc hG5 hown5 hF5i)
              have hN2 := hNm.grew hG5 hDX.out
              have hD2 := hide (hDX.out.grew hG5 hNm)
              have hN3 := hide (hN2.other (gr_set (World.grownBy.refl w9 (some (w.heap.size + 1))) (p := ⟨w.heap.size + 1, 1, none⟩) (.inl rfl) (.slice B5 F5.length d5)) (by omega) (fun e => by have := (hN2.2.2.1.blk_lt e).1; omega) (fun e => by have := (hN2.2.2.2.1.blk_lt e).1; omega))
              have hF5l' : Hid (F5.length = fs.length + (j + 1)) := by have := hfl'.out; simp only [Hid]; omega
              clear hA hNm hN2 hgm hown5 hG5 hF5i hF x0 x1 x2 y1 y2 y3 hF5l
              go_wp2_with fail
              (go_roundw; (case rel => exact ⟨j + 1, B5, d5, F5, by omega, by go_num, hA2.out, hN3.out, hD2, hF5l'⟩); (case measure => simp [intOf]; omega))
            · have hj2 : j = (fs1).length := by omega
              subst hj2
              clear hNm
              replace hA := hide hA
              go_wp2_with fail
              (go_roundw; (case rel => exact ⟨k + 1, A5, c5, V5, B', d', fs', by omega, by go_num, hA.out.mono (by omega), fun h => by omega, fun _ => ⟨by have := hV5l.out; omega, by have := hfl'.out; omega⟩, by have := hV5l.out; omega, by have := hfl'.out; omega⟩); (case measure => simp [intOf]; omega))
      | true =>
        go_wp2_with fail
        refine (aVec_any b (N + 1 + 17 * k + 6 + 1 + 1) _ hA.1.2 (by omega)).mono ?_
        rintro e w7 ⟨v2, rfl, hv2, ho7⟩
        replace hA := hA.st hc ho7
        replace hNm := hNm.st ho7 hb5 hb4
        clear ho7 hv2
        go_wp2_with fail
        refine (pick_any b (N + 1 + 17 * k + 6 + 1 + 1 + 6) _ _ _ [1, 5] _ (hA.1.2.pure (gr_alloc (World.grownBy.refl _ _) _)) (by omega) (sl_intsAt _ _ _ _ _ (by first | rfl | simp) (by have := hA.1.2.lt; omega) (by simp [maxLen])) rfl (by simp)).mono ?_
        rintro e w8 ⟨r2, rfl, hr, ho8⟩
        replace hA := (hA.pure (gr_alloc (World.grownBy.refl _ _) _)).st hc ho8
        replace hNm := (hNm.pure (gr_alloc (World.grownBy.refl _ _) _)).st ho8 hb5 hb4
        clear ho8 hr
        go_wp2_with fail
        refine (pick_any b (N + 1 + 17 * k + 6 + 1 + 1 + 6 + 1) _ _ _ [2, 10] _ (hA.1.2.pure (gr_alloc (World.grownBy.refl _ _) _)) (by omega) (sl_intsAt _ _ _ _ _ (by first | rfl | simp) (by have := hA.1.2.lt; omega) (by simp [maxLen])) rfl (by simp)).mono ?_
        rintro e w9 ⟨r3, rfl, hr, ho9⟩
        replace hA := (hA.pure (gr_alloc (World.grownBy.refl _ _) _)).st hc ho9
        replace hNm := (hNm.pure (gr_alloc (World.grownBy.refl _ _) _)).st ho9 hb5 hb4
        clear ho9 hr
        go_wp2_with fail
        refine (pick_any b (N + 1 + 17 * k + 6 + 1 + 1 + 6 + 1 + 1) _ _ _ [3, 8] _ (hA.1.2.pure (gr_alloc (World.grownBy.refl _ _) _)) (by omega) (sl_intsAt _ _ _ _ _ (by first | rfl | simp) (by have := hA.1.2.lt; omega) (by simp [maxLen])) rfl (by simp)).mono ?_
        rintro e w10 ⟨r4, rfl, hr, ho10⟩
        replace hA := (hA.pure (gr_alloc (World.grownBy.refl _ _) _)).st hc ho10
        replace hNm := (hNm.pure (gr_alloc (World.grownBy.refl _ _) _)).st ho10 hb5 hb4
        clear ho10 hr
        go_wp2_with fail
        refine (block_any v2 r2 r3 r4 _).mono ?_
        rintro e w11 ⟨A2, c2, vs2, B2, d2, fs2, rfl, hl1, hl2, hM, hin2, hg11⟩
        clear hll hin1
        have hll : Hid ((4 ≤ vs2.length ∧ vs2.length ≤ 8) ∧ 4 ≤ fs2.length ∧ fs2.length ≤ 12) := by simp only [Hid]; omega
        rw [← hl1] at hin2
        have hin1 := hide hin2
        clear hl1 hl2 hin2
        have hD2 := hA.dis (gn := w10.heap.size) (Nat.le_refl _) (fun g e => (hM.1.blk_lt e).1) (fun g e => (hM.2.1.blk_lt e).1)
        have hDA : Hid (Dis w5.heap.size A2 B2 A) := fun g e => ⟨(hDA.out g e).1, (hD2.1 g e).2⟩
        have hDB : Hid (Dis w5.heap.size A2 B2 B) := fun g e => ⟨(hDB.out g e).1, (hD2.2 g e).2⟩
        clear hD2
        have h510 := hNm.1.lt
        have hlo1 : W.heap.size ≤ w10.heap.size := by omega
        replace hA := hA.pure hg11
        replace hNm := hNm.pure hg11
        obtain ⟨⟨n0, f0⟩, ⟨n1, f1⟩, -⟩ := id hNm
        have hgm : w.heap.size + 1 < w5.heap.size := by have := hs2.out; omega
        replace hA := hA.oth hc (gr_set (gr_set (World.grownBy.refl w11 (some w5.heap.size)) (p := ⟨w5.heap.size, 0, none⟩) (.inl rfl) (.slice A2 vs2.length c2)) (p := ⟨w5.heap.size, 1, none⟩) (.inl rfl) (.slice B2 fs2.length d2)) (by have := hs1.out; omega) (by omega) (fun e => (hDA.out _ e).1 rfl) (fun e => (hDB.out _ e).1 rfl)
        replace hNm := hNm.set hM h510
        replace hA := hide hA
        replace hNm := hide hNm
        clear hM hg11
        go_upto_region 7 with fail
        replace hA := hA.out.mono (show _ ≤ N + 1 + 17 * k + 17 by omega)
        replace hNm := hNm.out
        clear n0 f0 n1 f1
        generalize ((w11.setCell ⟨w5.heap.size, 0, none⟩ (.slice A2 vs2.length c2)).setCell ⟨w5.heap.size, 1, none⟩ (.slice B2 fs2.length d2)) = wy at *
        have hgmn : w.heap.size + 1 < w5.heap.size := by have := hs2.out; omega
        have hgmn2 : ¬ w5.heap.size = w.heap.size + 1 := by omega
        have hgmn3 : ¬ w.heap.size + 1 = w5.heap.size := by omega
        have hgml : w.heap.size + 1 < w10.heap.size := by have := hs2.out; omega
        rcases Nat.eq_zero_or_pos k with hk0 | hk0
        · have hf0 : fs = [] := h0.out hk0
          subst hf0
          obtain ⟨-, ⟨p0, g0⟩, ⟨p1, g1⟩, -⟩ := id hA
          obtain ⟨⟨n0, -⟩, ⟨n1, -⟩, -⟩ := id hNm
          have hA2 := hide ((hA.take_ hc ⟨hNm.2.2.1.lower hlo1, hNm.2.2.2.1.lower hlo1, hNm.2.2.2.2⟩ hin1.out).mono (show _ ≤ N + 1 + 17 * ((k + 1 : Nat) : Int) by omega))
          clear hA hNm
          go_wp2_with fail
          (go_roundw; (case rel => exact ⟨k + 1, A2, c2, vs2, B2, d2, fs2, by omega, by go_num, hA2.out, fun h => by omega, fun _ => ⟨hll.out.1.1, hll.out.2.1⟩, by have := hll.out; omega, by have := hll.out; omega⟩); (case measure => simp [intOf]; omega))
        · have hk1 := h1.out hk0
          have hll1 := hll.out
          obtain ⟨gA1, rfl, -⟩ := hNm.2.2.1.shape (by omega)
          obtain ⟨gB1, rfl, -⟩ := hNm.2.2.2.1.shape (by omega)
          obtain ⟨-, ⟨p0, g0⟩, ⟨p1, g1⟩, -⟩ := id hA
          obtain ⟨⟨n0, -⟩, ⟨n1, -⟩, -⟩ := id hNm
          have hV := hA.2.2.2.1.1
          have hV1 := hNm.2.2.1.sl.mono (Nat.zero_le _)
          have hlo2 := hA.2.2.1.lt
          have hWsz : W.heap.size ≤ wy.heap.size := by have := hs2.out; omega
          have hfs0 : ¬ fs.length = 0 := by omega
          have hfs1 : 0 < fs.length := by omega
          replace hA := hide hA
          replace hNm := hide hNm
          go_wp2_with (at_builtin; obtain ⟨i0, hi, hz, q1, q2⟩ := info_parts info_v3; refine wpList_pushAt (α := V3) _ rfl (.tmp 42) (.tmp 44) _ rfl W.heap.size 49 i0 _ 24 Try.underlying26 hi hz q1 q2 rfl _ _ _ vs rfl ?c1 (by exact hV) 0 ⟨gA1, 0, none⟩ (vs2).length c2 vs2 rfl ?c5 (by exact hV1) ?c2 ?c3 ?c4 ?_)
          case c1 => rfl
          case c5 => rfl
          case c2 => omega
          case c3 => unfold maxLen; omega
          case c4 => omega
          intro A5 c5 w8' hown5 hG5
          obtain ⟨V5, hV5⟩ : ∃ V5, V5 = vs ++ vs2 := ⟨_, rfl⟩
          have hV5l : V5.length = vs.length + (vs2).length := by rw [hV5, List.length_append]
          rw [← hV5] at hown5
          rw [← hV5l]
          clear hV5
          have hA := hA.out
          have hNm := hNm.out
          obtain ⟨p0, g0⟩ := hA.2.1.grew hG5 hV hc.2.2
          obtain ⟨p1, g1⟩ := hA.2.2.1.grew hG5 hV hc.2.2
          have hA5 := hide (hA.setV hc hG5 hown5 (by omega))
          have hN5 := hNm.grew hG5 hDA.out
          obtain ⟨⟨n0, -⟩, ⟨n1, -⟩, -⟩ := id hN5
          have hN6 := hide (hN5.other (gr_set (World.grownBy.refl w8' (some (w.heap.size + 1))) (p := ⟨w.heap.size + 1, 0, none⟩) (.inl rfl) (.slice A5 V5.length c5)) (by omega) (fun e => by have := (hNm.2.2.1.blk_lt e).1; omega) (fun e => by have := (hNm.2.2.2.1.blk_lt e).1; omega))
          replace hV5l := hide hV5l
          clear hA hNm hN5 hown5 hG5 hV hV1
          go_upto_region 11 with fail
          generalize (w8'.setCell ⟨w.heap.size + 1, 0, none⟩ (.slice A5 V5.length c5)) = wz at *
          clear p0 g0 p1 g1 n0 n1
          obtain ⟨⟨n0, -⟩, ⟨n1, -⟩, -⟩ := id hN6.out
          obtain ⟨wp, rfl⟩ : ∃ x, x = wr := ⟨wr, rfl⟩
          go_wp2_with fail
          go_loopw [50] (fun i wr => ∃ (j : Nat) (B' : Option Addr) (d' : Nat) (fs' : List Fc), j ≤ (fs2).length ∧ i = .int .i64 j ∧ AMs b (w.heap.size + 1) W.heap.size W1 (N + 1 + 17 * k + 17) A5 c5 V5 B' d' fs' wr ∧ NMs w5.heap.size w10.heap.size (some ⟨gA1, 0, none⟩) c2 vs2 (some ⟨gB1, 0, none⟩) d2 fs2 wr ∧ Hid (Dis w5.heap.size (some ⟨gA1, 0, none⟩) (some ⟨gB1, 0, none⟩) B') ∧ Hid (fs'.length = fs.length + j)) (fun i _ => (fs2).length - (intOf i).toNat)
          case atStart => exact ⟨0, B, d, fs, by omega, rfl, hA5.out, hN6.out, hDB, rfl⟩
          case round =>
            obtain ⟨j, B', d', fs', hj, rfl, hA, hNm, hDX, hfl'⟩ := hrel
            by_cases hlj : j < (fs2).length
            · obtain ⟨-, -, ⟨p1, g1⟩, -⟩ := id hA
              have hfin := hin1.out _ (List.getElem_mem hlj)
              obtain ⟨c9, rfl, hcell⟩ := hNm.2.2.2.1.cell_at (by decide) hlj
              have x0 : wr.cell? ⟨gB1, j * 3, none⟩ = some (.int .i64 (fs2)[j].a) := hcell 0 _ rfl
              have x1 : wr.cell? ⟨gB1, j * 3 + 1, none⟩ = some (.int .i64 (fs2)[j].b) := hcell 1 _ rfl
              have x2 : wr.cell? ⟨gB1, j * 3 + 2, none⟩ = some (.int .i64 (fs2)[j].c) := hcell 2 _ rfl
              clear hcell
              generalize (fs2)[j] = f at *
              obtain ⟨b1, b2, b3⟩ := inF_bd hfin
              have hnew : Hid (inF V5.length ⟨f.a + vs.length, f.b + vs.length, f.c + vs.length⟩ = true) := by
                have := hV5l.out
                simp only [Hid, inF, inI, Bool.and_eq_true, decide_eq_true_eq]
                omega
              have y1 : 0 ≤ f.a ∧ f.a ≤ 8 := by omega
              have y2 : 0 ≤ f.b ∧ f.b ≤ 8 := by omega
              have y3 : 0 ≤ f.c ∧ f.c ≤ 8 := by omega
              clear b1 b2 b3 hfin
              have hF := hA.2.2.2.1.2.1
              have hWsz2 : W.heap.size ≤ wr.heap.size := by have := hA.2.2.1.lt; have := hs2.out; omega
              have hfl2 : fs'.length ≤ 40 := by have := hfl'.out; omega
              have hgB1 : gB1 < wr.heap.size := (hNm.2.2.2.1.blk_lt rfl).2
              have hgmr : w.heap.size + 1 < wr.heap.size := hA.2.2.1.lt
              replace hA := hide hA
              replace hNm := hide hNm
              go_wp2_with (at_builtin; obtain ⟨i0, hi, hz, h1, h2⟩ := info_parts info_face; refine wpList_pushAt (α := Fc) _ rfl (.tmp 55) (.tmp 69) _ rfl W.heap.size 67 i0 _ 24 Try.underlying27 hi hz h1 h2 rfl _ _ _ fs' rfl ?c1 (by exact (hF.pure (by repeat (first | exact World.grownBy.refl _ _ | assumption | refine gr_alloc ?_ _ | refine gr_drewN ?_ _ | refine gr_drew ?_)))) 0 ⟨_, 0, none⟩ 1 1 [⟨f.a + vs.length, f.b + vs.length, f.c + vs.length⟩] rfl rfl (by exact (sl_oneAt _ 0 _ _ _ _ (by first | rfl | simp) (Nat.zero_le _) rfl)) ?c2 ?c3 ?c4 ?_)
              case c1 => rfl
              case c2 => first | omega | (simp; omega)
              case c3 => first | (simp [maxLen]; omega) | (unfold maxLen; omega)
              case c4 => first | omega | (simp; omega)
              intro B5 d5 w9 hown5 hG5
              obtain ⟨F5, hF5⟩ : ∃ F5, F5 = fs' ++ [(⟨f.a + vs.length, f.b + vs.length, f.c + vs.length⟩ : Fc)] := ⟨_, rfl⟩
              have hF5l : F5.length = fs'.length + 1 := by rw [hF5]; simp
              have hF5i : ∀ f ∈ F5, inF V5.length f = true := by
                rw [hF5]
                intro f' hf'
                rcases List.mem_append.1 hf' with hf' | hf'
                · exact hA.out.2.2.2.2 f' hf'
                · rw [List.mem_singleton.1 hf']; exact hnew.out
              rw [← hF5] at hown5
              rw [← hF5l]
              clear hF5 hnew
              have hgm := gr_alloc (gr_alloc (World.grownBy.refl wr none) (.cells #[.int .i64 f.a, .int .i64 f.b, .int .i64 f.c] 67)) (.cells #[.int .i64 (f.a + vs.length), .int .i64 (f.b + vs.length), .int .i64 (f.c + vs.length)] 67)
              have hA := hA.out.pure hgm
              have hNm := hNm.out.pure hgm
              obtain ⟨p1, g1⟩ := hA.2.2.1.grew hG5 hA.2.2.2.1.2.1 hc.2.2
              have hA2 := hide (hA.setF hc hG5 hown5 hF5i)
              have hN2 := hNm.grew hG5 hDX.out
              have hD2 := hide (hDX.out.grew hG5 hNm)
              have hN3 := hide (hN2.other (gr_set (World.grownBy.refl w9 (some (w.heap.size + 1))) (p := ⟨w.heap.size + 1, 1, none⟩) (.inl rfl) (.slice B5 F5.length d5)) (by omega) (fun e => by have := (hN2.2.2.1.blk_lt e).1; omega) (fun e => by have := (hN2.2.2.2.1.blk_lt e).1; omega))
              have hF5l' : Hid (F5.length = fs.length + (j + 1)) := by have := hfl'.out; simp only [Hid]; omega
              clear hA hNm hN2 hgm hown5 hG5 hF5i hF x0 x1 x2 y1 y2 y3 hF5l
              go_wp2_with fail
              (go_roundw; (case rel => exact ⟨j + 1, B5, d5, F5, by omega, by go_num, hA2.out, hN3.out, hD2, hF5l'⟩); (case measure => simp [intOf]; omega))
            · have hj2 : j = (fs2).length := by omega
              subst hj2
              clear hNm
              replace hA := hide hA
              go_wp2_with fail
              (go_roundw; (case rel => exact ⟨k + 1, A5, c5, V5, B', d', fs', by omega, by go_num, hA.out.mono (by omega), fun h => by omega, fun _ => ⟨by have := hV5l.out; omega, by have := hfl'.out; omega⟩, by have := hV5l.out; omega, by have := hfl'.out; omega⟩); (case measure => simp [intOf]; omega))
    · have hk1 := h1.out (by omega)
      have hvl2 : vs.length ≤ 16 := by omega
      have hfl2 : fs.length ≤ 24 := by omega
      obtain ⟨gA, rfl, -⟩ := hA.2.2.2.1.1.shape (by omega)
      obtain ⟨gB, rfl, -⟩ := hA.2.2.2.1.2.1.shape (by omega)
      replace hA := hA.mono (show _ ≤ N + 40 by omega)
      obtain ⟨wp, rfl⟩ : ∃ x, x = wr := ⟨wr, rfl⟩
      go_wp2_with fail
      refine (flip_any b (N + 40) _ _ hA.1.2 (by omega) (by omega)).mono ?_
      rintro e w3 ⟨f1, rfl, ho3⟩
      replace hA := hA.st hc ho3
      cases f1 with
      | false =>
        go_wp2_with fail
        replace hA := hA.mono (show _ ≤ N + 50 by omega)
        refine (flip_any b (N + 50) _ _ hA.1.2 (by omega) (by omega)).mono ?_
        rintro e w6 ⟨f2, rfl, ho6⟩
        replace hA := hA.st hc ho6
        cases f2 with
        | false =>
          obtain ⟨ho, q0, q1, ⟨o1, o2, -⟩, -⟩ := hA
          obtain ⟨a0, -⟩ := q0
          obtain ⟨a1, -⟩ := q1
          obtain ⟨x0, y0⟩ := r0.out.gr ho.1 (fun e => by injection e; omega)
          obtain ⟨x1, y1⟩ := r1.out.gr ho.1 (fun e => by injection e; omega)
          have hne1 : ¬ w.heap.size + 1 = w.heap.size := by omega
          have hne2 : ¬ w.heap.size = w.heap.size + 1 := by omega
          go_wp2_with fail
          have hgs := fun (u : World) (v1 v2 : Value) => gr_set (gr_set (World.grownBy.refl u (some w.heap.size)) (p := ⟨w.heap.size, 0, none⟩) (.inl rfl) v1) (p := ⟨w.heap.size, 1, none⟩) (.inl rfl) v2
          have hWl := hs2.out
          refine bodyPost_ret (v := .agg #[.slice (some ⟨gA, 0, none⟩) (vs).length c, .slice (some ⟨gB, 0, none⟩) (fs).length d]) (by simp [results, Try.results6, go_sem, x0, x1, y0, y1]) rfl ⟨(some ⟨gA, 0, none⟩), c, vs, (some ⟨gB, 0, none⟩), d, fs, rfl, ?_, ?_, ?_⟩
          · exact (o1.ne (hgs _ _ _) (fun g e1 e2 => by have := (o1.blk_lt e1).1; injection e2; omega)).sl.mono (by omega)
          · exact (o2.ne (hgs _ _ _) (fun g e1 e2 => by have := (o2.blk_lt e1).1; injection e2; omega)).sl.mono (by omega)
          · exact (((ho1.trans ho).mono (by omega)).set hbw (Nat.le_refl _) _).set hbw (Nat.le_refl _) _
        | true =>
          obtain ⟨hoX, hq0, hq1, ⟨hv1, hv2, hv3⟩, hv4⟩ := hA
          have hgA2 := hv1.blk_lt (g := gA) rfl
          have hgB2 := hv2.blk_lt (g := gB) rfl
          have hgAB : gA ≠ gB := fun e => hv3 gA rfl (by rw [e]; rfl)
          have hWl := hs2.out
          have hW1l := hs1.out
          have hp : (⟨b, w.heap.size + 1, gA, gB, c, vs.length, d, (fs).length, W.heap.size, w6.heap.size⟩ : Pl).ok W1 := ⟨by simp only; omega, by simp only; omega, by simp only; omega, hgA2.1, hgB2.1, hgAB, hgA2.2, hgB2.2, by simp only; omega, by simp only; omega⟩
          have hS : SpI ⟨b, w.heap.size + 1, gA, gB, c, vs.length, d, (fs).length, W.heap.size, w6.heap.size⟩ (fun f => inF vs.length f = true) W1 (N + 50 + 1) w6 := ⟨hoX, Nat.le_refl _, hq0, hq1, ⟨vs, rfl, hv1⟩, fs, rfl, hv4, hv2⟩
          have hSP := hide (spoil_any ⟨b, w.heap.size + 1, gA, gB, c, vs.length, d, (fs).length, W.heap.size, w6.heap.size⟩ (N + 50 + 1) W1 w6 hp hS (by omega) (by simp only; omega) (by simp only; omega))
          clear hp hS hoX hv1 hv2 hv3 hv4
          obtain ⟨p1, g1⟩ := hq1
          clear hq0
          go_wp2_with fail
          refine hSP.out.mono ?_
          rintro e w7 ⟨rfl, A9, c9, vs9, B9, d9, fs9, q0, q1, o1, o2, ho⟩
          simp only at q0 q1 o1 o2 ho
          clear hSP
          obtain ⟨a0, -⟩ := q0
          obtain ⟨a1, -⟩ := q1
          obtain ⟨x0, y0⟩ := r0.out.gr ho.1 (fun e => by injection e; omega)
          obtain ⟨x1, y1⟩ := r1.out.gr ho.1 (fun e => by injection e; omega)
          have hne1 : ¬ w.heap.size + 1 = w.heap.size := by omega
          have hne2 : ¬ w.heap.size = w.heap.size + 1 := by omega
          go_wp2_with fail
          have hgs := fun (u : World) (v1 v2 : Value) => gr_set (gr_set (World.grownBy.refl u (some w.heap.size)) (p := ⟨w.heap.size, 0, none⟩) (.inl rfl) v1) (p := ⟨w.heap.size, 1, none⟩) (.inl rfl) v2
          have hWl := hs2.out
          refine bodyPost_ret (v := .agg #[.slice A9 (vs9).length c9, .slice B9 (fs9).length d9]) (by simp [results, Try.results6, go_sem, x0, x1, y0, y1]) rfl ⟨A9, c9, vs9, B9, d9, fs9, rfl, ?_, ?_, ?_⟩
          · exact (o1.ne (hgs _ _ _) (fun g e1 e2 => by have := (o1.blk_lt e1).1; injection e2; omega)).sl.mono (by omega)
          · exact (o2.ne (hgs _ _ _) (fun g e1 e2 => by have := (o2.blk_lt e1).1; injection e2; omega)).sl.mono (by omega)
          · exact (((ho1.trans ho).mono (by omega)).set hbw (Nat.le_refl _) _).set hbw (Nat.le_refl _) _
      | true =>
        obtain ⟨-, -, ⟨p1, g1⟩, -⟩ := id hA
        go_wp2_with fail
        refine (next_any b (N + 40 + 1) _ _ hA.1.2 (by omega) (by omega)).mono ?_
        rintro e w4 ⟨r, rfl, ⟨hr0, hr1⟩, ho4⟩
        obtain ⟨r, rfl⟩ := Int.eq_ofNat_of_zero_le hr0
        replace hA := hA.st hc ho4
        clear p1 g1
        obtain ⟨-, -, ⟨p1, g1⟩, -⟩ := id hA
        have hrl : r < fs.length := by omega
        have hD := deleteF_any gB W.heap.size d r fs w4 hA.2.2.2.1.2.1 hrl (by omega)
        obtain ⟨F5, hF5⟩ : ∃ F5, F5 = fs.take r ++ fs.drop (r + 1) := ⟨_, rfl⟩
        have hF5l : 1 ≤ F5.length ∧ F5.length ≤ 24 := by rw [hF5, List.length_append, List.length_take, List.length_drop]; omega
        have hF5i : ∀ f ∈ F5, inF vs.length f = true := by
          rw [hF5]
          intro f' hf'
          rcases List.mem_append.1 hf' with hf' | hf'
          · exact hA.2.2.2.2 f' (List.mem_of_mem_take hf')
          · exact hA.2.2.2.2 f' (List.mem_of_mem_drop hf')
        rw [← hF5] at hD
        clear hF5 hr0 hr1
        replace hD := hide hD
        go_wp2_with fail
        refine hD.out.mono ?_
        rintro e w5 ⟨rfl, hownD, hgD⟩
        clear hD
        have hG : Grew (some ⟨gB, 0, none⟩) (some ⟨gB, 0, none⟩) w4 w5 := ⟨hgD, .inl rfl⟩
        obtain ⟨p1, g1⟩ := hA.2.2.1.grew hG hA.2.2.2.1.2.1 hc.2.2
        replace hA := hide ((hA.setF hc hG hownD hF5i).mono (show _ ≤ N + 50 by omega))
        clear hownD hgD hG hF5i
        go_upto_region 20 with fail
        generalize (w5.setCell ⟨w.heap.size + 1, 1, none⟩ (.slice (some ⟨gB, 0, none⟩) F5.length d)) = wz at *
        clear p1 g1
        replace hA := hA.out
        go_wp2_with fail
        refine (flip_any b (N + 50) _ _ hA.1.2 (by omega) (by omega)).mono ?_
        rintro e w6 ⟨f2, rfl, ho6⟩
        replace hA := hA.st hc ho6
        cases f2 with
        | false =>
          obtain ⟨ho, q0, q1, ⟨o1, o2, -⟩, -⟩ := hA
          obtain ⟨a0, -⟩ := q0
          obtain ⟨a1, -⟩ := q1
          obtain ⟨x0, y0⟩ := r0.out.gr ho.1 (fun e => by injection e; omega)
          obtain ⟨x1, y1⟩ := r1.out.gr ho.1 (fun e => by injection e; omega)
          have hne1 : ¬ w.heap.size + 1 = w.heap.size := by omega
          have hne2 : ¬ w.heap.size = w.heap.size + 1 := by omega
          go_wp2_with fail
          have hgs := fun (u : World) (v1 v2 : Value) => gr_set (gr_set (World.grownBy.refl u (some w.heap.size)) (p := ⟨w.heap.size, 0, none⟩) (.inl rfl) v1) (p := ⟨w.heap.size, 1, none⟩) (.inl rfl) v2
          have hWl := hs2.out
          refine bodyPost_ret (v := .agg #[.slice (some ⟨gA, 0, none⟩) (vs).length c, .slice (some ⟨gB, 0, none⟩) (F5).length d]) (by simp [results, Try.results6, go_sem, x0, x1, y0, y1]) rfl ⟨(some ⟨gA, 0, none⟩), c, vs, (some ⟨gB, 0, none⟩), d, F5, rfl, ?_, ?_, ?_⟩
          · exact (o1.ne (hgs _ _ _) (fun g e1 e2 => by have := (o1.blk_lt e1).1; injection e2; omega)).sl.mono (by omega)
          · exact (o2.ne (hgs _ _ _) (fun g e1 e2 => by have := (o2.blk_lt e1).1; injection e2; omega)).sl.mono (by omega)
          · exact (((ho1.trans ho).mono (by omega)).set hbw (Nat.le_refl _) _).set hbw (Nat.le_refl _) _
        | true =>
          obtain ⟨hoX, hq0, hq1, ⟨hv1, hv2, hv3⟩, hv4⟩ := hA
          have hgA2 := hv1.blk_lt (g := gA) rfl
          have hgB2 := hv2.blk_lt (g := gB) rfl
          have hgAB : gA ≠ gB := fun e => hv3 gA rfl (by rw [e]; rfl)
          have hWl := hs2.out
          have hW1l := hs1.out
          have hp : (⟨b, w.heap.size + 1, gA, gB, c, vs.length, d, (F5).length, W.heap.size, w6.heap.size⟩ : Pl).ok W1 := ⟨by simp only; omega, by simp only; omega, by simp only; omega, hgA2.1, hgB2.1, hgAB, hgA2.2, hgB2.2, by simp only; omega, by simp only; omega⟩
          have hS : SpI ⟨b, w.heap.size + 1, gA, gB, c, vs.length, d, (F5).length, W.heap.size, w6.heap.size⟩ (fun f => inF vs.length f = true) W1 (N + 50 + 1) w6 := ⟨hoX, Nat.le_refl _, hq0, hq1, ⟨vs, rfl, hv1⟩, F5, rfl, hv4, hv2⟩
          have hSP := hide (spoil_any ⟨b, w.heap.size + 1, gA, gB, c, vs.length, d, (F5).length, W.heap.size, w6.heap.size⟩ (N + 50 + 1) W1 w6 hp hS (by omega) (by simp only; omega) (by simp only; omega))
          clear hp hS hoX hv1 hv2 hv3 hv4
          obtain ⟨p1, g1⟩ := hq1
          clear hq0
          go_wp2_with fail
          refine hSP.out.mono ?_
          rintro e w7 ⟨rfl, A9, c9, vs9, B9, d9, fs9, q0, q1, o1, o2, ho⟩
          simp only at q0 q1 o1 o2 ho
          clear hSP
          obtain ⟨a0, -⟩ := q0
          obtain ⟨a1, -⟩ := q1
          obtain ⟨x0, y0⟩ := r0.out.gr ho.1 (fun e => by injection e; omega)
          obtain ⟨x1, y1⟩ := r1.out.gr ho.1 (fun e => by injection e; omega)
          have hne1 : ¬ w.heap.size + 1 = w.heap.size := by omega
          have hne2 : ¬ w.heap.size = w.heap.size + 1 := by omega
          go_wp2_with fail
          have hgs := fun (u : World) (v1 v2 : Value) => gr_set (gr_set (World.grownBy.refl u (some w.heap.size)) (p := ⟨w.heap.size, 0, none⟩) (.inl rfl) v1) (p := ⟨w.heap.size, 1, none⟩) (.inl rfl) v2
          have hWl := hs2.out
          refine bodyPost_ret (v := .agg #[.slice A9 (vs9).length c9, .slice B9 (fs9).length d9]) (by simp [results, Try.results6, go_sem, x0, x1, y0, y1]) rfl ⟨A9, c9, vs9, B9, d9, fs9, rfl, ?_, ?_, ?_⟩
          · exact (o1.ne (hgs _ _ _) (fun g e1 e2 => by have := (o1.blk_lt e1).1; injection e2; omega)).sl.mono (by omega)
          · exact (o2.ne (hgs _ _ _) (fun g e1 e2 => by have := (o2.blk_lt e1).1; injection e2; omega)).sl.mono (by omega)
          · exact (((ho1.trans ho).mono (by omega)).set hbw (Nat.le_refl _) _).set hbw (Nat.le_refl _) _

end Go.Proofs.Ytjodjdjfagjiaaa

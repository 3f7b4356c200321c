/- Contracts of functions that this seat's laws reach, each: what one call returns and what it leaves in memory; no condition beyond each theorem's own hypotheses. -/
import Derived.Test.YtfeljlokmcoocaaGreatZqRegRev
import Derived.Test.YtfeljlokmcoocaaGreatZqPathA
import Derived.Test.YtfeljlokmcoocaaGreatZqRegRefC
set_option linter.unusedVariables false
set_option linter.unusedSimpArgs false
namespace Go.Proofs.YtfeljlokmcoocaaGreat
open Go Go.RowKit Go.Bl

/-- a ring of new memory -/
def SRing (b : Nat) (N : Int) (w : World) (e : Ending) (w' : World) : Prop := ∃ (g c : Nat) (l : List Pt), e = .returned (.slice (some ⟨g, 0, none⟩) l.length c) ∧ Sl w' w.heap.size (some ⟨g, 0, none⟩) l ∧ l.length ≤ c ∧ l.length ≤ 6 ∧ (w.heap.size ≤ g ∧ g < w'.heap.size) ∧ SOut b N w w'

theorem own_litP {α : Type} [Enc α] [Flat α] (w : World) (lo : Nat) (cs : List Value) (t : TypeId) (l : List α) (g : Nat) (hg : g = w.heap.size) (hlo : lo ≤ w.heap.size) (hm : l.length ≤ maxLen) (hr : Row w lo l cs) :
    Own (w.alloc (.cells cs.toArray t)) lo t (some ⟨g, 0, none⟩) l.length l := by
  subst hg
  have hlen := hr.len
  exact ⟨hm, cs, hr.flat, hlen, .inr ⟨w.heap.size, l.length, cs.toArray, rfl, hlo, heap_alloc_new w _, Nat.le_refl _, hm, by simpa using hlen, by rw [← hlen]; simp⟩⟩

theorem reverseN_any (n lo g c : Nat) (l : List Pt) (w : World) (hn' : l.length = n) (ho : Own w lo 27 (some ⟨g, 0, none⟩) c l) (hn : 0 < n) (hs : n ≤ 1000000) :
    Calls Tryz.prog 15 #[.slice (some ⟨g, 0, none⟩) n c] w fun e w' => (∃ v, e = .returned v) ∧ Own w' lo 27 (some ⟨g, 0, none⟩) c l.reverse ∧ w.grownBy w' (some g) := by
  subst hn'
  exact reverseRing_any lo g c l w ho hn hs

set_option maxHeartbeats 8000000 in
set_option maxRecDepth 100000 in
theorem aRing_any (b : Nat) (N : Int) (w : World) (hs : Strm w b N) (hN : N ≤ 900000000) :
    Calls Tryz.prog 4 #[.pointer (some ⟨b, 0, none⟩)] w (SRing b (N + 20) w) := by
  have hbw := hs.lt
  go_enter Tryz.func4, Tryz.ntmps4
  go_wp2_with fail
  refine (range_any b N _ _ _ hs (by omega) (by omega) (by omega) (by omega)).mono ?_
  rintro e w1 ⟨x, rfl, hx, ho1⟩
  go_wp2_with fail
  refine (range_any b (N + 1) _ _ _ ho1.2 (by omega) (by omega) (by omega) (by omega)).mono ?_
  rintro e w2 ⟨y, rfl, hy, ho2⟩
  replace ho2 := ho1.trans ho2
  go_wp2_with fail
  refine (range_any b (N + 1 + 1) _ _ _ ho2.2 (by omega) (by omega) (by omega) (by omega)).mono ?_
  rintro e w3 ⟨n, rfl, hn, ho3⟩
  replace ho3 := ho2.trans ho3
  go_wp2_with fail
  refine (range_any b (N + 1 + 1 + 1) _ _ _ ho3.2 (by omega) (by omega) (by omega) (by omega)).mono ?_
  rintro e w4 ⟨k, rfl, hk, ho4⟩
  replace ho4 := ho3.trans ho4
  clear ho1 ho2 ho3
  go_wp2_with fail
  have hsz4 := ho4.size
  obtain ⟨W, hW⟩ : ∃ W, W = (((((w4.alloc (.cells #[.int .i64 x, .int .i64 y, .int .i64 (x + n), .int .i64 y, .int .i64 (x + n), .int .i64 (y + k), .int .i64 x, .int .i64 (y + k)] 27)).alloc (.cells #[.int .i64 x, .int .i64 y, .int .i64 (x + n), .int .i64 (y + 1), .int .i64 (x + 1), .int .i64 (y + k)] 27)).alloc (.cells #[.int .i64 x, .int .i64 y, .int .i64 (x + 2 * n), .int .i64 y, .int .i64 (x + 2 * n), .int .i64 (y + k), .int .i64 (x + n), .int .i64 (y + k), .int .i64 (x + n), .int .i64 (y + 2 * k), .int .i64 x, .int .i64 (y + 2 * k)] 27)).alloc (.cells #[.int .i64 x, .int .i64 y, .int .i64 (x + n), .int .i64 y, .int .i64 (x + 2 * n), .int .i64 y, .int .i64 (x + n), .int .i64 (y + k)] 27)).alloc (.cells #[.slice (some ⟨w4.heap.size, 0, none⟩) 4 4, .slice (some ⟨w4.heap.size + 1, 0, none⟩) 3 3, .slice (some ⟨w4.heap.size + 1 + 1, 0, none⟩) 6 6, .slice (some ⟨w4.heap.size + 1 + 1 + 1, 0, none⟩) 4 4] 29)) := ⟨_, rfl⟩
  have hgW : w4.grownBy W none := by rw [hW]; exact (by repeat (first | exact World.grownBy.refl _ _ | assumption | refine gr_alloc ?_ _ | (apply gr_tail; assumption) | refine gr_drewN ?_ _ | refine gr_drew ?_))
  have R1 : Own W w.heap.size 27 (some ⟨w4.heap.size, 0, none⟩) 4 [(⟨x, y⟩ : Pt), ⟨x + n, y⟩, ⟨x + n, y + k⟩, ⟨x, y + k⟩] := by
    rw [hW]
    exact ((((own_litP w4 w.heap.size _ 27 [(⟨x, y⟩ : Pt), ⟨x + n, y⟩, ⟨x + n, y + k⟩, ⟨x, y + k⟩] _ rfl (by omega) (by simp [maxLen]) ⟨_, _, rfl, rfl, _, _, rfl, rfl, _, _, rfl, rfl, _, _, rfl, rfl, rfl⟩).pure (gr_alloc (World.grownBy.refl _ _) _)).pure (gr_alloc (World.grownBy.refl _ _) _)).pure (gr_alloc (World.grownBy.refl _ _) _)).pure (gr_alloc (World.grownBy.refl _ _) _)
  have R2 : Own W w.heap.size 27 (some ⟨w4.heap.size + 1, 0, none⟩) 3 [(⟨x, y⟩ : Pt), ⟨x + n, y + 1⟩, ⟨x + 1, y + k⟩] := by
    rw [hW]
    exact (((own_litP _ w.heap.size _ 27 [(⟨x, y⟩ : Pt), ⟨x + n, y + 1⟩, ⟨x + 1, y + k⟩] _ (by simp) (by simp; omega) (by simp [maxLen]) ⟨_, _, rfl, rfl, _, _, rfl, rfl, _, _, rfl, rfl, rfl⟩).pure (gr_alloc (World.grownBy.refl _ _) _)).pure (gr_alloc (World.grownBy.refl _ _) _)).pure (gr_alloc (World.grownBy.refl _ _) _)
  have R3 : Own W w.heap.size 27 (some ⟨w4.heap.size + 1 + 1, 0, none⟩) 6 [(⟨x, y⟩ : Pt), ⟨x + 2 * n, y⟩, ⟨x + 2 * n, y + k⟩, ⟨x + n, y + k⟩, ⟨x + n, y + 2 * k⟩, ⟨x, y + 2 * k⟩] := by
    rw [hW]
    exact ((own_litP _ w.heap.size _ 27 [(⟨x, y⟩ : Pt), ⟨x + 2 * n, y⟩, ⟨x + 2 * n, y + k⟩, ⟨x + n, y + k⟩, ⟨x + n, y + 2 * k⟩, ⟨x, y + 2 * k⟩] _ (by simp) (by simp; omega) (by simp [maxLen]) ⟨_, _, rfl, rfl, _, _, rfl, rfl, _, _, rfl, rfl, _, _, rfl, rfl, _, _, rfl, rfl, _, _, rfl, rfl, rfl⟩).pure (gr_alloc (World.grownBy.refl _ _) _)).pure (gr_alloc (World.grownBy.refl _ _) _)
  have R4 : Own W w.heap.size 27 (some ⟨w4.heap.size + 1 + 1 + 1, 0, none⟩) 4 [(⟨x, y⟩ : Pt), ⟨x + n, y⟩, ⟨x + 2 * n, y⟩, ⟨x + n, y + k⟩] := by
    rw [hW]
    exact (own_litP _ w.heap.size _ 27 [(⟨x, y⟩ : Pt), ⟨x + n, y⟩, ⟨x + 2 * n, y⟩, ⟨x + n, y + k⟩] _ (by simp) (by simp; omega) (by simp [maxLen]) ⟨_, _, rfl, rfl, _, _, rfl, rfl, _, _, rfl, rfl, _, _, rfl, rfl, rfl⟩).pure (gr_alloc (World.grownBy.refl _ _) _)
  have c0 : W.cell? ⟨w4.heap.size + 1 + 1 + 1 + 1, 0, none⟩ = some (.slice (some ⟨w4.heap.size, 0, none⟩) 4 4) := by rw [hW]; go_simp
  have c1 : W.cell? ⟨w4.heap.size + 1 + 1 + 1 + 1, 1, none⟩ = some (.slice (some ⟨w4.heap.size + 1, 0, none⟩) 3 3) := by rw [hW]; go_simp
  have c2 : W.cell? ⟨w4.heap.size + 1 + 1 + 1 + 1, 2, none⟩ = some (.slice (some ⟨w4.heap.size + 1 + 1, 0, none⟩) 6 6) := by rw [hW]; go_simp
  have c3 : W.cell? ⟨w4.heap.size + 1 + 1 + 1 + 1, 3, none⟩ = some (.slice (some ⟨w4.heap.size + 1 + 1 + 1, 0, none⟩) 4 4) := by rw [hW]; go_simp
  rw [← hW]
  clear hW
  have hoW := ho4.pure hgW
  have hNx := next_any b (N + 1 + 1 + 1 + 1) 4 W hoW.2 (by omega) (by omega)
  refine hNx.mono ?_
  rintro e w5 ⟨i, rfl, ⟨hi0, hi1⟩, ho5'⟩
  clear hNx
  have hne : ∀ (g : Nat), w4.heap.size ≤ g → some b ≠ some g := fun g hg e => by injection e; omega
  replace c0 := gr_cell ho5'.1 c0 (hne _ (by simp only; omega))
  replace c1 := gr_cell ho5'.1 c1 (hne _ (by simp only; omega))
  replace c2 := gr_cell ho5'.1 c2 (hne _ (by simp only; omega))
  replace c3 := gr_cell ho5'.1 c3 (hne _ (by simp only; omega))
  replace R1 := R1.s ho5' hbw
  replace R2 := R2.s ho5' hbw
  replace R3 := R3.s ho5' hbw
  replace R4 := R4.s ho5' hbw
  have ho5 := (hoW.trans ho5').mono (show N + 1 + 1 + 1 + 1 + 1 ≤ N + 6 by omega)
  clear ho5' hoW hgW hne ho4
  rcases (by omega : i = 0 ∨ i = 1 ∨ i = 2 ∨ i = 3) with rfl | rfl | rfl | rfl
  · obtain ⟨l5, hl⟩ : ∃ l, l = [(⟨x, y⟩ : Pt), ⟨x + n, y⟩, ⟨x + n, y + k⟩, ⟨x, y + k⟩] := ⟨_, rfl⟩
    rw [← hl] at R1
    have hl5 : Hid (l5.length = 4) := by rw [Hid, hl]; rfl
    have hR5 := R1
    clear hl R1 R2 R3 R4 hi0 hi1
    have hFa := flip_any b (N + 6) 2 w5 (ho5.2.mono (by omega)) (by omega) (by omega)
    go_wp2_with fail
    refine hFa.mono ?_
    rintro e wc ⟨f1, rfl, hoc⟩
    clear hFa
    have hRc := hR5.s hoc hbw
    replace hoc := ho5.trans hoc
    cases f1 with
    | true =>
      have hRv := reverseN_any 4 w.heap.size w4.heap.size 4 l5 wc hl5.out hRc (by omega) (by omega)
      go_wp2_with fail
      refine hRv.mono ?_
      rintro e w6 ⟨⟨v, rfl⟩, hR6, hg6⟩
      clear hRv
      have ho6 := (hoc.mono (show N + 6 + 1 ≤ N + 8 by omega)).upd (Nat.le_refl _) hbw ⟨_, hg6, fun g' e => by injection e; omega⟩
      have hl6 : Hid (l5.reverse.length = 4) := by rw [Hid, List.length_reverse]; exact hl5.out
      generalize l5.reverse = l6 at *
      clear hoc hRc
      have hFb := flip_any b (N + 8) 8 w6 (ho6.2.mono (by omega)) (by omega) (by omega)
      go_wp2_with fail
      refine hFb.mono ?_
      rintro e w7 ⟨f2, rfl, ho7⟩
      clear hFb
      have hR7 := hR6.s ho7 hbw
      replace ho7 := ho6.trans ho7
      cases f2 with
      | true =>
        have hNx := next_any b (N + 9) 4 w7 (ho7.2.mono (by omega)) (by omega) (by omega)
        go_wp2_with fail
        refine hNx.mono ?_
        rintro e wa ⟨i, rfl, ⟨hi0, hi1⟩, hoa⟩
        clear hNx
        obtain ⟨i, rfl⟩ := Int.eq_ofNat_of_zero_le hi0
        have hRa := hR7.s hoa hbw
        replace hoa := ho7.trans hoa
        have hAp := aPoint_any b (N + 10) wa (hoa.2.mono (by omega)) (by omega)
        go_wp2_with fail
        refine hAp.mono ?_
        rintro e wb ⟨p, rfl, hob⟩
        clear hAp
        have hRb := hRa.s hob hbw
        replace hob := hoa.trans hob
        have hil : i < l6.length := by rw [hl6.out]; omega
        have k0 := (hRb.cell_pt hil).1
        have k1 := (hRb.cell_pt hil).2
        have z0 := hRb.frozen (i * 2)
        have z1 := hRb.frozen (i * 2 + 1)
        have hR8' := hRb.set_pt hil p
        have ho8' := ((hob.mono (show N + 10 + 5 ≤ N + 16 by omega)).set (p := ⟨w4.heap.size, i * 2, none⟩) hbw (by simp only; omega) (.int .i64 p.x)).set (p := ⟨w4.heap.size, i * 2 + 1, none⟩) hbw (by simp only; omega) (.int .i64 p.y)
        have hl8 : Hid ((l6.set i p).length = 4) := by rw [Hid, List.length_set]; exact hl6.out
        go_upto_region 7 with fail
        generalize l6.set i p = l8 at *
        obtain ⟨w8, hw8⟩ : ∃ v, v = (wb.setCell ⟨w4.heap.size, i * 2, none⟩ (.int .i64 p.x)).setCell ⟨w4.heap.size, i * 2 + 1, none⟩ (.int .i64 p.y) := ⟨_, rfl⟩
        rw [← hw8] at hR8' ho8' ⊢
        have hR8 := hR8'
        have ho8 := ho8'
        clear hw8 hR8' ho8' k0 k1 z0 z1 hRb hob hRa hoa
        have hFc := flip_any b (N + 16) 30 w8 (ho8.2.mono (by omega)) (by omega) (by omega)
        go_wp2_with fail
        refine hFc.mono ?_
        rintro e w9 ⟨f3, rfl, ho9⟩
        clear hFc
        have hR9 := hR8.s ho9 hbw
        replace ho9 := ho8.trans ho9
        have hgl := (hR9.blk_lt (show blk (some ⟨w4.heap.size, 0, none⟩) = some w4.heap.size from rfl)).2
        cases f3 with
        | true =>
          go_wp2_with fail
          go_ret
          exact ⟨w4.heap.size, 4, l8.take 2, by rw [List.length_take, hl8.out]; rfl, hR9.sl.take 2, by rw [List.length_take, hl8.out]; decide, by rw [List.length_take, hl8.out]; decide, ⟨by omega, hgl⟩, ho9.mono (by omega)⟩
        | false =>
          go_wp2_with fail
          go_ret
          exact ⟨w4.heap.size, 4, l8, by rw [hl8.out]; rfl, hR9.sl, by rw [hl8.out]; decide, by rw [hl8.out]; decide, ⟨by omega, hgl⟩, ho9.mono (by omega)⟩
      | false =>
        obtain ⟨w8, rfl⟩ : ∃ v, v = w7 := ⟨w7, rfl⟩
        have hR8 := hR7
        have ho8 := ho7.mono (show N + 8 + 1 ≤ N + 16 by omega)
        have hl8 := hl6
        generalize l6 = l8 at *
        clear hR7 ho7
        have hFc := flip_any b (N + 16) 30 w8 (ho8.2.mono (by omega)) (by omega) (by omega)
        go_wp2_with fail
        refine hFc.mono ?_
        rintro e w9 ⟨f3, rfl, ho9⟩
        clear hFc
        have hR9 := hR8.s ho9 hbw
        replace ho9 := ho8.trans ho9
        have hgl := (hR9.blk_lt (show blk (some ⟨w4.heap.size, 0, none⟩) = some w4.heap.size from rfl)).2
        cases f3 with
        | true =>
          go_wp2_with fail
          go_ret
          exact ⟨w4.heap.size, 4, l8.take 2, by rw [List.length_take, hl8.out]; rfl, hR9.sl.take 2, by rw [List.length_take, hl8.out]; decide, by rw [List.length_take, hl8.out]; decide, ⟨by omega, hgl⟩, ho9.mono (by omega)⟩
        | false =>
          go_wp2_with fail
          go_ret
          exact ⟨w4.heap.size, 4, l8, by rw [hl8.out]; rfl, hR9.sl, by rw [hl8.out]; decide, by rw [hl8.out]; decide, ⟨by omega, hgl⟩, ho9.mono (by omega)⟩
    | false =>
      obtain ⟨w6, rfl⟩ : ∃ v, v = wc := ⟨wc, rfl⟩
      have hR6 := hRc
      have ho6 := hoc.mono (show N + 6 + 1 ≤ N + 8 by omega)
      have hl6 := hl5
      generalize l5 = l6 at *
      clear hRc hoc
      have hFb := flip_any b (N + 8) 8 w6 (ho6.2.mono (by omega)) (by omega) (by omega)
      go_wp2_with fail
      refine hFb.mono ?_
      rintro e w7 ⟨f2, rfl, ho7⟩
      clear hFb
      have hR7 := hR6.s ho7 hbw
      replace ho7 := ho6.trans ho7
      cases f2 with
      | true =>
        have hNx := next_any b (N + 9) 4 w7 (ho7.2.mono (by omega)) (by omega) (by omega)
        go_wp2_with fail
        refine hNx.mono ?_
        rintro e wa ⟨i, rfl, ⟨hi0, hi1⟩, hoa⟩
        clear hNx
        obtain ⟨i, rfl⟩ := Int.eq_ofNat_of_zero_le hi0
        have hRa := hR7.s hoa hbw
        replace hoa := ho7.trans hoa
        have hAp := aPoint_any b (N + 10) wa (hoa.2.mono (by omega)) (by omega)
        go_wp2_with fail
        refine hAp.mono ?_
        rintro e wb ⟨p, rfl, hob⟩
        clear hAp
        have hRb := hRa.s hob hbw
        replace hob := hoa.trans hob
        have hil : i < l6.length := by rw [hl6.out]; omega
        have k0 := (hRb.cell_pt hil).1
        have k1 := (hRb.cell_pt hil).2
        have z0 := hRb.frozen (i * 2)
        have z1 := hRb.frozen (i * 2 + 1)
        have hR8' := hRb.set_pt hil p
        have ho8' := ((hob.mono (show N + 10 + 5 ≤ N + 16 by omega)).set (p := ⟨w4.heap.size, i * 2, none⟩) hbw (by simp only; omega) (.int .i64 p.x)).set (p := ⟨w4.heap.size, i * 2 + 1, none⟩) hbw (by simp only; omega) (.int .i64 p.y)
        have hl8 : Hid ((l6.set i p).length = 4) := by rw [Hid, List.length_set]; exact hl6.out
        go_upto_region 7 with fail
        generalize l6.set i p = l8 at *
        obtain ⟨w8, hw8⟩ : ∃ v, v = (wb.setCell ⟨w4.heap.size, i * 2, none⟩ (.int .i64 p.x)).setCell ⟨w4.heap.size, i * 2 + 1, none⟩ (.int .i64 p.y) := ⟨_, rfl⟩
        rw [← hw8] at hR8' ho8' ⊢
        have hR8 := hR8'
        have ho8 := ho8'
        clear hw8 hR8' ho8' k0 k1 z0 z1 hRb hob hRa hoa
        have hFc := flip_any b (N + 16) 30 w8 (ho8.2.mono (by omega)) (by omega) (by omega)
        go_wp2_with fail
        refine hFc.mono ?_
        rintro e w9 ⟨f3, rfl, ho9⟩
        clear hFc
        have hR9 := hR8.s ho9 hbw
        replace ho9 := ho8.trans ho9
        have hgl := (hR9.blk_lt (show blk (some ⟨w4.heap.size, 0, none⟩) = some w4.heap.size from rfl)).2
        cases f3 with
        | true =>
          go_wp2_with fail
          go_ret
          exact ⟨w4.heap.size, 4, l8.take 2, by rw [List.length_take, hl8.out]; rfl, hR9.sl.take 2, by rw [List.length_take, hl8.out]; decide, by rw [List.length_take, hl8.out]; decide, ⟨by omega, hgl⟩, ho9.mono (by omega)⟩
        | false =>
          go_wp2_with fail
          go_ret
          exact ⟨w4.heap.size, 4, l8, by rw [hl8.out]; rfl, hR9.sl, by rw [hl8.out]; decide, by rw [hl8.out]; decide, ⟨by omega, hgl⟩, ho9.mono (by omega)⟩
      | false =>
        obtain ⟨w8, rfl⟩ : ∃ v, v = w7 := ⟨w7, rfl⟩
        have hR8 := hR7
        have ho8 := ho7.mono (show N + 8 + 1 ≤ N + 16 by omega)
        have hl8 := hl6
        generalize l6 = l8 at *
        clear hR7 ho7
        have hFc := flip_any b (N + 16) 30 w8 (ho8.2.mono (by omega)) (by omega) (by omega)
        go_wp2_with fail
        refine hFc.mono ?_
        rintro e w9 ⟨f3, rfl, ho9⟩
        clear hFc
        have hR9 := hR8.s ho9 hbw
        replace ho9 := ho8.trans ho9
        have hgl := (hR9.blk_lt (show blk (some ⟨w4.heap.size, 0, none⟩) = some w4.heap.size from rfl)).2
        cases f3 with
        | true =>
          go_wp2_with fail
          go_ret
          exact ⟨w4.heap.size, 4, l8.take 2, by rw [List.length_take, hl8.out]; rfl, hR9.sl.take 2, by rw [List.length_take, hl8.out]; decide, by rw [List.length_take, hl8.out]; decide, ⟨by omega, hgl⟩, ho9.mono (by omega)⟩
        | false =>
          go_wp2_with fail
          go_ret
          exact ⟨w4.heap.size, 4, l8, by rw [hl8.out]; rfl, hR9.sl, by rw [hl8.out]; decide, by rw [hl8.out]; decide, ⟨by omega, hgl⟩, ho9.mono (by omega)⟩
  · obtain ⟨l5, hl⟩ : ∃ l, l = [(⟨x, y⟩ : Pt), ⟨x + n, y + 1⟩, ⟨x + 1, y + k⟩] := ⟨_, rfl⟩
    rw [← hl] at R2
    have hl5 : Hid (l5.length = 3) := by rw [Hid, hl]; rfl
    have hR5 := R2
    clear hl R1 R2 R3 R4 hi0 hi1
    have hFa := flip_any b (N + 6) 2 w5 (ho5.2.mono (by omega)) (by omega) (by omega)
    go_wp2_with fail
    refine hFa.mono ?_
    rintro e wc ⟨f1, rfl, hoc⟩
    clear hFa
    have hRc := hR5.s hoc hbw
    replace hoc := ho5.trans hoc
    cases f1 with
    | true =>
      have hRv := reverseN_any 3 w.heap.size (w4.heap.size + 1) 3 l5 wc hl5.out hRc (by omega) (by omega)
      go_wp2_with fail
      refine hRv.mono ?_
      rintro e w6 ⟨⟨v, rfl⟩, hR6, hg6⟩
      clear hRv
      have ho6 := (hoc.mono (show N + 6 + 1 ≤ N + 8 by omega)).upd (Nat.le_refl _) hbw ⟨_, hg6, fun g' e => by injection e; omega⟩
      have hl6 : Hid (l5.reverse.length = 3) := by rw [Hid, List.length_reverse]; exact hl5.out
      generalize l5.reverse = l6 at *
      clear hoc hRc
      have hFb := flip_any b (N + 8) 8 w6 (ho6.2.mono (by omega)) (by omega) (by omega)
      go_wp2_with fail
      refine hFb.mono ?_
      rintro e w7 ⟨f2, rfl, ho7⟩
      clear hFb
      have hR7 := hR6.s ho7 hbw
      replace ho7 := ho6.trans ho7
      cases f2 with
      | true =>
        have hNx := next_any b (N + 9) 3 w7 (ho7.2.mono (by omega)) (by omega) (by omega)
        go_wp2_with fail
        refine hNx.mono ?_
        rintro e wa ⟨i, rfl, ⟨hi0, hi1⟩, hoa⟩
        clear hNx
        obtain ⟨i, rfl⟩ := Int.eq_ofNat_of_zero_le hi0
        have hRa := hR7.s hoa hbw
        replace hoa := ho7.trans hoa
        have hAp := aPoint_any b (N + 10) wa (hoa.2.mono (by omega)) (by omega)
        go_wp2_with fail
        refine hAp.mono ?_
        rintro e wb ⟨p, rfl, hob⟩
        clear hAp
        have hRb := hRa.s hob hbw
        replace hob := hoa.trans hob
        have hil : i < l6.length := by rw [hl6.out]; omega
        have k0 := (hRb.cell_pt hil).1
        have k1 := (hRb.cell_pt hil).2
        have z0 := hRb.frozen (i * 2)
        have z1 := hRb.frozen (i * 2 + 1)
        have hR8' := hRb.set_pt hil p
        have ho8' := ((hob.mono (show N + 10 + 5 ≤ N + 16 by omega)).set (p := ⟨(w4.heap.size + 1), i * 2, none⟩) hbw (by simp only; omega) (.int .i64 p.x)).set (p := ⟨(w4.heap.size + 1), i * 2 + 1, none⟩) hbw (by simp only; omega) (.int .i64 p.y)
        have hl8 : Hid ((l6.set i p).length = 3) := by rw [Hid, List.length_set]; exact hl6.out
        go_upto_region 7 with fail
        generalize l6.set i p = l8 at *
        obtain ⟨w8, hw8⟩ : ∃ v, v = (wb.setCell ⟨(w4.heap.size + 1), i * 2, none⟩ (.int .i64 p.x)).setCell ⟨(w4.heap.size + 1), i * 2 + 1, none⟩ (.int .i64 p.y) := ⟨_, rfl⟩
        rw [← hw8] at hR8' ho8' ⊢
        have hR8 := hR8'
        have ho8 := ho8'
        clear hw8 hR8' ho8' k0 k1 z0 z1 hRb hob hRa hoa
        have hFc := flip_any b (N + 16) 30 w8 (ho8.2.mono (by omega)) (by omega) (by omega)
        go_wp2_with fail
        refine hFc.mono ?_
        rintro e w9 ⟨f3, rfl, ho9⟩
        clear hFc
        have hR9 := hR8.s ho9 hbw
        replace ho9 := ho8.trans ho9
        have hgl := (hR9.blk_lt (show blk (some ⟨(w4.heap.size + 1), 0, none⟩) = some (w4.heap.size + 1) from rfl)).2
        cases f3 with
        | true =>
          go_wp2_with fail
          go_ret
          exact ⟨(w4.heap.size + 1), 3, l8.take 2, by rw [List.length_take, hl8.out]; rfl, hR9.sl.take 2, by rw [List.length_take, hl8.out]; decide, by rw [List.length_take, hl8.out]; decide, ⟨by omega, hgl⟩, ho9.mono (by omega)⟩
        | false =>
          go_wp2_with fail
          go_ret
          exact ⟨(w4.heap.size + 1), 3, l8, by rw [hl8.out]; rfl, hR9.sl, by rw [hl8.out]; decide, by rw [hl8.out]; decide, ⟨by omega, hgl⟩, ho9.mono (by omega)⟩
      | false =>
        obtain ⟨w8, rfl⟩ : ∃ v, v = w7 := ⟨w7, rfl⟩
        have hR8 := hR7
        have ho8 := ho7.mono (show N + 8 + 1 ≤ N + 16 by omega)
        have hl8 := hl6
        generalize l6 = l8 at *
        clear hR7 ho7
        have hFc := flip_any b (N + 16) 30 w8 (ho8.2.mono (by omega)) (by omega) (by omega)
        go_wp2_with fail
        refine hFc.mono ?_
        rintro e w9 ⟨f3, rfl, ho9⟩
        clear hFc
        have hR9 := hR8.s ho9 hbw
        replace ho9 := ho8.trans ho9
        have hgl := (hR9.blk_lt (show blk (some ⟨(w4.heap.size + 1), 0, none⟩) = some (w4.heap.size + 1) from rfl)).2
        cases f3 with
        | true =>
          go_wp2_with fail
          go_ret
          exact ⟨(w4.heap.size + 1), 3, l8.take 2, by rw [List.length_take, hl8.out]; rfl, hR9.sl.take 2, by rw [List.length_take, hl8.out]; decide, by rw [List.length_take, hl8.out]; decide, ⟨by omega, hgl⟩, ho9.mono (by omega)⟩
        | false =>
          go_wp2_with fail
          go_ret
          exact ⟨(w4.heap.size + 1), 3, l8, by rw [hl8.out]; rfl, hR9.sl, by rw [hl8.out]; decide, by rw [hl8.out]; decide, ⟨by omega, hgl⟩, ho9.mono (by omega)⟩
    | false =>
      obtain ⟨w6, rfl⟩ : ∃ v, v = wc := ⟨wc, rfl⟩
      have hR6 := hRc
      have ho6 := hoc.mono (show N + 6 + 1 ≤ N + 8 by omega)
      have hl6 := hl5
      generalize l5 = l6 at *
      clear hRc hoc
      have hFb := flip_any b (N + 8) 8 w6 (ho6.2.mono (by omega)) (by omega) (by omega)
      go_wp2_with fail
      refine hFb.mono ?_
      rintro e w7 ⟨f2, rfl, ho7⟩
      clear hFb
      have hR7 := hR6.s ho7 hbw
      replace ho7 := ho6.trans ho7
      cases f2 with
      | true =>
        have hNx := next_any b (N + 9) 3 w7 (ho7.2.mono (by omega)) (by omega) (by omega)
        go_wp2_with fail
        refine hNx.mono ?_
        rintro e wa ⟨i, rfl, ⟨hi0, hi1⟩, hoa⟩
        clear hNx
        obtain ⟨i, rfl⟩ := Int.eq_ofNat_of_zero_le hi0
        have hRa := hR7.s hoa hbw
        replace hoa := ho7.trans hoa
        have hAp := aPoint_any b (N + 10) wa (hoa.2.mono (by omega)) (by omega)
        go_wp2_with fail
        refine hAp.mono ?_
        rintro e wb ⟨p, rfl, hob⟩
        clear hAp
        have hRb := hRa.s hob hbw
        replace hob := hoa.trans hob
        have hil : i < l6.length := by rw [hl6.out]; omega
        have k0 := (hRb.cell_pt hil).1
        have k1 := (hRb.cell_pt hil).2
        have z0 := hRb.frozen (i * 2)
        have z1 := hRb.frozen (i * 2 + 1)
        have hR8' := hRb.set_pt hil p
        have ho8' := ((hob.mono (show N + 10 + 5 ≤ N + 16 by omega)).set (p := ⟨(w4.heap.size + 1), i * 2, none⟩) hbw (by simp only; omega) (.int .i64 p.x)).set (p := ⟨(w4.heap.size + 1), i * 2 + 1, none⟩) hbw (by simp only; omega) (.int .i64 p.y)
        have hl8 : Hid ((l6.set i p).length = 3) := by rw [Hid, List.length_set]; exact hl6.out
        go_upto_region 7 with fail
        generalize l6.set i p = l8 at *
        obtain ⟨w8, hw8⟩ : ∃ v, v = (wb.setCell ⟨(w4.heap.size + 1), i * 2, none⟩ (.int .i64 p.x)).setCell ⟨(w4.heap.size + 1), i * 2 + 1, none⟩ (.int .i64 p.y) := ⟨_, rfl⟩
        rw [← hw8] at hR8' ho8' ⊢
        have hR8 := hR8'
        have ho8 := ho8'
        clear hw8 hR8' ho8' k0 k1 z0 z1 hRb hob hRa hoa
        have hFc := flip_any b (N + 16) 30 w8 (ho8.2.mono (by omega)) (by omega) (by omega)
        go_wp2_with fail
        refine hFc.mono ?_
        rintro e w9 ⟨f3, rfl, ho9⟩
        clear hFc
        have hR9 := hR8.s ho9 hbw
        replace ho9 := ho8.trans ho9
        have hgl := (hR9.blk_lt (show blk (some ⟨(w4.heap.size + 1), 0, none⟩) = some (w4.heap.size + 1) from rfl)).2
        cases f3 with
        | true =>
          go_wp2_with fail
          go_ret
          exact ⟨(w4.heap.size + 1), 3, l8.take 2, by rw [List.length_take, hl8.out]; rfl, hR9.sl.take 2, by rw [List.length_take, hl8.out]; decide, by rw [List.length_take, hl8.out]; decide, ⟨by omega, hgl⟩, ho9.mono (by omega)⟩
        | false =>
          go_wp2_with fail
          go_ret
          exact ⟨(w4.heap.size + 1), 3, l8, by rw [hl8.out]; rfl, hR9.sl, by rw [hl8.out]; decide, by rw [hl8.out]; decide, ⟨by omega, hgl⟩, ho9.mono (by omega)⟩
      | false =>
        obtain ⟨w8, rfl⟩ : ∃ v, v = w7 := ⟨w7, rfl⟩
        have hR8 := hR7
        have ho8 := ho7.mono (show N + 8 + 1 ≤ N + 16 by omega)
        have hl8 := hl6
        generalize l6 = l8 at *
        clear hR7 ho7
        have hFc := flip_any b (N + 16) 30 w8 (ho8.2.mono (by omega)) (by omega) (by omega)
        go_wp2_with fail
        refine hFc.mono ?_
        rintro e w9 ⟨f3, rfl, ho9⟩
        clear hFc
        have hR9 := hR8.s ho9 hbw
        replace ho9 := ho8.trans ho9
        have hgl := (hR9.blk_lt (show blk (some ⟨(w4.heap.size + 1), 0, none⟩) = some (w4.heap.size + 1) from rfl)).2
        cases f3 with
        | true =>
          go_wp2_with fail
          go_ret
          exact ⟨(w4.heap.size + 1), 3, l8.take 2, by rw [List.length_take, hl8.out]; rfl, hR9.sl.take 2, by rw [List.length_take, hl8.out]; decide, by rw [List.length_take, hl8.out]; decide, ⟨by omega, hgl⟩, ho9.mono (by omega)⟩
        | false =>
          go_wp2_with fail
          go_ret
          exact ⟨(w4.heap.size + 1), 3, l8, by rw [hl8.out]; rfl, hR9.sl, by rw [hl8.out]; decide, by rw [hl8.out]; decide, ⟨by omega, hgl⟩, ho9.mono (by omega)⟩
  · obtain ⟨l5, hl⟩ : ∃ l, l = [(⟨x, y⟩ : Pt), ⟨x + 2 * n, y⟩, ⟨x + 2 * n, y + k⟩, ⟨x + n, y + k⟩, ⟨x + n, y + 2 * k⟩, ⟨x, y + 2 * k⟩] := ⟨_, rfl⟩
    rw [← hl] at R3
    have hl5 : Hid (l5.length = 6) := by rw [Hid, hl]; rfl
    have hR5 := R3
    clear hl R1 R2 R3 R4 hi0 hi1
    have hFa := flip_any b (N + 6) 2 w5 (ho5.2.mono (by omega)) (by omega) (by omega)
    go_wp2_with fail
    refine hFa.mono ?_
    rintro e wc ⟨f1, rfl, hoc⟩
    clear hFa
    have hRc := hR5.s hoc hbw
    replace hoc := ho5.trans hoc
    cases f1 with
    | true =>
      have hRv := reverseN_any 6 w.heap.size (w4.heap.size + 1 + 1) 6 l5 wc hl5.out hRc (by omega) (by omega)
      go_wp2_with fail
      refine hRv.mono ?_
      rintro e w6 ⟨⟨v, rfl⟩, hR6, hg6⟩
      clear hRv
      have ho6 := (hoc.mono (show N + 6 + 1 ≤ N + 8 by omega)).upd (Nat.le_refl _) hbw ⟨_, hg6, fun g' e => by injection e; omega⟩
      have hl6 : Hid (l5.reverse.length = 6) := by rw [Hid, List.length_reverse]; exact hl5.out
      generalize l5.reverse = l6 at *
      clear hoc hRc
      have hFb := flip_any b (N + 8) 8 w6 (ho6.2.mono (by omega)) (by omega) (by omega)
      go_wp2_with fail
      refine hFb.mono ?_
      rintro e w7 ⟨f2, rfl, ho7⟩
      clear hFb
      have hR7 := hR6.s ho7 hbw
      replace ho7 := ho6.trans ho7
      cases f2 with
      | true =>
        have hNx := next_any b (N + 9) 6 w7 (ho7.2.mono (by omega)) (by omega) (by omega)
        go_wp2_with fail
        refine hNx.mono ?_
        rintro e wa ⟨i, rfl, ⟨hi0, hi1⟩, hoa⟩
        clear hNx
        obtain ⟨i, rfl⟩ := Int.eq_ofNat_of_zero_le hi0
        have hRa := hR7.s hoa hbw
        replace hoa := ho7.trans hoa
        have hAp := aPoint_any b (N + 10) wa (hoa.2.mono (by omega)) (by omega)
        go_wp2_with fail
        refine hAp.mono ?_
        rintro e wb ⟨p, rfl, hob⟩
        clear hAp
        have hRb := hRa.s hob hbw
        replace hob := hoa.trans hob
        have hil : i < l6.length := by rw [hl6.out]; omega
        have k0 := (hRb.cell_pt hil).1
        have k1 := (hRb.cell_pt hil).2
        have z0 := hRb.frozen (i * 2)
        have z1 := hRb.frozen (i * 2 + 1)
        have hR8' := hRb.set_pt hil p
        have ho8' := ((hob.mono (show N + 10 + 5 ≤ N + 16 by omega)).set (p := ⟨(w4.heap.size + 1 + 1), i * 2, none⟩) hbw (by simp only; omega) (.int .i64 p.x)).set (p := ⟨(w4.heap.size + 1 + 1), i * 2 + 1, none⟩) hbw (by simp only; omega) (.int .i64 p.y)
        have hl8 : Hid ((l6.set i p).length = 6) := by rw [Hid, List.length_set]; exact hl6.out
        go_upto_region 7 with fail
        generalize l6.set i p = l8 at *
        obtain ⟨w8, hw8⟩ : ∃ v, v = (wb.setCell ⟨(w4.heap.size + 1 + 1), i * 2, none⟩ (.int .i64 p.x)).setCell ⟨(w4.heap.size + 1 + 1), i * 2 + 1, none⟩ (.int .i64 p.y) := ⟨_, rfl⟩
        rw [← hw8] at hR8' ho8' ⊢
        have hR8 := hR8'
        have ho8 := ho8'
        clear hw8 hR8' ho8' k0 k1 z0 z1 hRb hob hRa hoa
        have hFc := flip_any b (N + 16) 30 w8 (ho8.2.mono (by omega)) (by omega) (by omega)
        go_wp2_with fail
        refine hFc.mono ?_
        rintro e w9 ⟨f3, rfl, ho9⟩
        clear hFc
        have hR9 := hR8.s ho9 hbw
        replace ho9 := ho8.trans ho9
        have hgl := (hR9.blk_lt (show blk (some ⟨(w4.heap.size + 1 + 1), 0, none⟩) = some (w4.heap.size + 1 + 1) from rfl)).2
        cases f3 with
        | true =>
          go_wp2_with fail
          go_ret
          exact ⟨(w4.heap.size + 1 + 1), 6, l8.take 2, by rw [List.length_take, hl8.out]; rfl, hR9.sl.take 2, by rw [List.length_take, hl8.out]; decide, by rw [List.length_take, hl8.out]; decide, ⟨by omega, hgl⟩, ho9.mono (by omega)⟩
        | false =>
          go_wp2_with fail
          go_ret
          exact ⟨(w4.heap.size + 1 + 1), 6, l8, by rw [hl8.out]; rfl, hR9.sl, by rw [hl8.out]; decide, by rw [hl8.out]; decide, ⟨by omega, hgl⟩, ho9.mono (by omega)⟩
      | false =>
        obtain ⟨w8, rfl⟩ : ∃ v, v = w7 := ⟨w7, rfl⟩
        have hR8 := hR7
        have ho8 := ho7.mono (show N + 8 + 1 ≤ N + 16 by omega)
        have hl8 := hl6
        generalize l6 = l8 at *
        clear hR7 ho7
        have hFc := flip_any b (N + 16) 30 w8 (ho8.2.mono (by omega)) (by omega) (by omega)
        go_wp2_with fail
        refine hFc.mono ?_
        rintro e w9 ⟨f3, rfl, ho9⟩
        clear hFc
        have hR9 := hR8.s ho9 hbw
        replace ho9 := ho8.trans ho9
        have hgl := (hR9.blk_lt (show blk (some ⟨(w4.heap.size + 1 + 1), 0, none⟩) = some (w4.heap.size + 1 + 1) from rfl)).2
        cases f3 with
        | true =>
          go_wp2_with fail
          go_ret
          exact ⟨(w4.heap.size + 1 + 1), 6, l8.take 2, by rw [List.length_take, hl8.out]; rfl, hR9.sl.take 2, by rw [List.length_take, hl8.out]; decide, by rw [List.length_take, hl8.out]; decide, ⟨by omega, hgl⟩, ho9.mono (by omega)⟩
        | false =>
          go_wp2_with fail
          go_ret
          exact ⟨(w4.heap.size + 1 + 1), 6, l8, by rw [hl8.out]; rfl, hR9.sl, by rw [hl8.out]; decide, by rw [hl8.out]; decide, ⟨by omega, hgl⟩, ho9.mono (by omega)⟩
    | false =>
      obtain ⟨w6, rfl⟩ : ∃ v, v = wc := ⟨wc, rfl⟩
      have hR6 := hRc
      have ho6 := hoc.mono (show N + 6 + 1 ≤ N + 8 by omega)
      have hl6 := hl5
      generalize l5 = l6 at *
      clear hRc hoc
      have hFb := flip_any b (N + 8) 8 w6 (ho6.2.mono (by omega)) (by omega) (by omega)
      go_wp2_with fail
      refine hFb.mono ?_
      rintro e w7 ⟨f2, rfl, ho7⟩
      clear hFb
      have hR7 := hR6.s ho7 hbw
      replace ho7 := ho6.trans ho7
      cases f2 with
      | true =>
        have hNx := next_any b (N + 9) 6 w7 (ho7.2.mono (by omega)) (by omega) (by omega)
        go_wp2_with fail
        refine hNx.mono ?_
        rintro e wa ⟨i, rfl, ⟨hi0, hi1⟩, hoa⟩
        clear hNx
        obtain ⟨i, rfl⟩ := Int.eq_ofNat_of_zero_le hi0
        have hRa := hR7.s hoa hbw
        replace hoa := ho7.trans hoa
        have hAp := aPoint_any b (N + 10) wa (hoa.2.mono (by omega)) (by omega)
        go_wp2_with fail
        refine hAp.mono ?_
        rintro e wb ⟨p, rfl, hob⟩
        clear hAp
        have hRb := hRa.s hob hbw
        replace hob := hoa.trans hob
        have hil : i < l6.length := by rw [hl6.out]; omega
        have k0 := (hRb.cell_pt hil).1
        have k1 := (hRb.cell_pt hil).2
        have z0 := hRb.frozen (i * 2)
        have z1 := hRb.frozen (i * 2 + 1)
        have hR8' := hRb.set_pt hil p
        have ho8' := ((hob.mono (show N + 10 + 5 ≤ N + 16 by omega)).set (p := ⟨(w4.heap.size + 1 + 1), i * 2, none⟩) hbw (by simp only; omega) (.int .i64 p.x)).set (p := ⟨(w4.heap.size + 1 + 1), i * 2 + 1, none⟩) hbw (by simp only; omega) (.int .i64 p.y)
        have hl8 : Hid ((l6.set i p).length = 6) := by rw [Hid, List.length_set]; exact hl6.out
        go_upto_region 7 with fail
        generalize l6.set i p = l8 at *
        obtain ⟨w8, hw8⟩ : ∃ v, v = (wb.setCell ⟨(w4.heap.size + 1 + 1), i * 2, none⟩ (.int .i64 p.x)).setCell ⟨(w4.heap.size + 1 + 1), i * 2 + 1, none⟩ (.int .i64 p.y) := ⟨_, rfl⟩
        rw [← hw8] at hR8' ho8' ⊢
        have hR8 := hR8'
        have ho8 := ho8'
        clear hw8 hR8' ho8' k0 k1 z0 z1 hRb hob hRa hoa
        have hFc := flip_any b (N + 16) 30 w8 (ho8.2.mono (by omega)) (by omega) (by omega)
        go_wp2_with fail
        refine hFc.mono ?_
        rintro e w9 ⟨f3, rfl, ho9⟩
        clear hFc
        have hR9 := hR8.s ho9 hbw
        replace ho9 := ho8.trans ho9
        have hgl := (hR9.blk_lt (show blk (some ⟨(w4.heap.size + 1 + 1), 0, none⟩) = some (w4.heap.size + 1 + 1) from rfl)).2
        cases f3 with
        | true =>
          go_wp2_with fail
          go_ret
          exact ⟨(w4.heap.size + 1 + 1), 6, l8.take 2, by rw [List.length_take, hl8.out]; rfl, hR9.sl.take 2, by rw [List.length_take, hl8.out]; decide, by rw [List.length_take, hl8.out]; decide, ⟨by omega, hgl⟩, ho9.mono (by omega)⟩
        | false =>
          go_wp2_with fail
          go_ret
          exact ⟨(w4.heap.size + 1 + 1), 6, l8, by rw [hl8.out]; rfl, hR9.sl, by rw [hl8.out]; decide, by rw [hl8.out]; decide, ⟨by omega, hgl⟩, ho9.mono (by omega)⟩
      | false =>
        obtain ⟨w8, rfl⟩ : ∃ v, v = w7 := ⟨w7, rfl⟩
        have hR8 := hR7
        have ho8 := ho7.mono (show N + 8 + 1 ≤ N + 16 by omega)
        have hl8 := hl6
        generalize l6 = l8 at *
        clear hR7 ho7
        have hFc := flip_any b (N + 16) 30 w8 (ho8.2.mono (by omega)) (by omega) (by omega)
        go_wp2_with fail
        refine hFc.mono ?_
        rintro e w9 ⟨f3, rfl, ho9⟩
        clear hFc
        have hR9 := hR8.s ho9 hbw
        replace ho9 := ho8.trans ho9
        have hgl := (hR9.blk_lt (show blk (some ⟨(w4.heap.size + 1 + 1), 0, none⟩) = some (w4.heap.size + 1 + 1) from rfl)).2
        cases f3 with
        | true =>
          go_wp2_with fail
          go_ret
          exact ⟨(w4.heap.size + 1 + 1), 6, l8.take 2, by rw [List.length_take, hl8.out]; rfl, hR9.sl.take 2, by rw [List.length_take, hl8.out]; decide, by rw [List.length_take, hl8.out]; decide, ⟨by omega, hgl⟩, ho9.mono (by omega)⟩
        | false =>
          go_wp2_with fail
          go_ret
          exact ⟨(w4.heap.size + 1 + 1), 6, l8, by rw [hl8.out]; rfl, hR9.sl, by rw [hl8.out]; decide, by rw [hl8.out]; decide, ⟨by omega, hgl⟩, ho9.mono (by omega)⟩
  · obtain ⟨l5, hl⟩ : ∃ l, l = [(⟨x, y⟩ : Pt), ⟨x + n, y⟩, ⟨x + 2 * n, y⟩, ⟨x + n, y + k⟩] := ⟨_, rfl⟩
    rw [← hl] at R4
    have hl5 : Hid (l5.length = 4) := by rw [Hid, hl]; rfl
    have hR5 := R4
    clear hl R1 R2 R3 R4 hi0 hi1
    have hFa := flip_any b (N + 6) 2 w5 (ho5.2.mono (by omega)) (by omega) (by omega)
    go_wp2_with fail
    refine hFa.mono ?_
    rintro e wc ⟨f1, rfl, hoc⟩
    clear hFa
    have hRc := hR5.s hoc hbw
    replace hoc := ho5.trans hoc
    cases f1 with
    | true =>
      have hRv := reverseN_any 4 w.heap.size (w4.heap.size + 1 + 1 + 1) 4 l5 wc hl5.out hRc (by omega) (by omega)
      go_wp2_with fail
      refine hRv.mono ?_
      rintro e w6 ⟨⟨v, rfl⟩, hR6, hg6⟩
      clear hRv
      have ho6 := (hoc.mono (show N + 6 + 1 ≤ N + 8 by omega)).upd (Nat.le_refl _) hbw ⟨_, hg6, fun g' e => by injection e; omega⟩
      have hl6 : Hid (l5.reverse.length = 4) := by rw [Hid, List.length_reverse]; exact hl5.out
      generalize l5.reverse = l6 at *
      clear hoc hRc
      have hFb := flip_any b (N + 8) 8 w6 (ho6.2.mono (by omega)) (by omega) (by omega)
      go_wp2_with fail
      refine hFb.mono ?_
      rintro e w7 ⟨f2, rfl, ho7⟩
      clear hFb
      have hR7 := hR6.s ho7 hbw
      replace ho7 := ho6.trans ho7
      cases f2 with
      | true =>
        have hNx := next_any b (N + 9) 4 w7 (ho7.2.mono (by omega)) (by omega) (by omega)
        go_wp2_with fail
        refine hNx.mono ?_
        rintro e wa ⟨i, rfl, ⟨hi0, hi1⟩, hoa⟩
        clear hNx
        obtain ⟨i, rfl⟩ := Int.eq_ofNat_of_zero_le hi0
        have hRa := hR7.s hoa hbw
        replace hoa := ho7.trans hoa
        have hAp := aPoint_any b (N + 10) wa (hoa.2.mono (by omega)) (by omega)
        go_wp2_with fail
        refine hAp.mono ?_
        rintro e wb ⟨p, rfl, hob⟩
        clear hAp
        have hRb := hRa.s hob hbw
        replace hob := hoa.trans hob
        have hil : i < l6.length := by rw [hl6.out]; omega
        have k0 := (hRb.cell_pt hil).1
        have k1 := (hRb.cell_pt hil).2
        have z0 := hRb.frozen (i * 2)
        have z1 := hRb.frozen (i * 2 + 1)
        have hR8' := hRb.set_pt hil p
        have ho8' := ((hob.mono (show N + 10 + 5 ≤ N + 16 by omega)).set (p := ⟨(w4.heap.size + 1 + 1 + 1), i * 2, none⟩) hbw (by simp only; omega) (.int .i64 p.x)).set (p := ⟨(w4.heap.size + 1 + 1 + 1), i * 2 + 1, none⟩) hbw (by simp only; omega) (.int .i64 p.y)
        have hl8 : Hid ((l6.set i p).length = 4) := by rw [Hid, List.length_set]; exact hl6.out
        go_upto_region 7 with fail
        generalize l6.set i p = l8 at *
        obtain ⟨w8, hw8⟩ : ∃ v, v = (wb.setCell ⟨(w4.heap.size + 1 + 1 + 1), i * 2, none⟩ (.int .i64 p.x)).setCell ⟨(w4.heap.size + 1 + 1 + 1), i * 2 + 1, none⟩ (.int .i64 p.y) := ⟨_, rfl⟩
        rw [← hw8] at hR8' ho8' ⊢
        have hR8 := hR8'
        have ho8 := ho8'
        clear hw8 hR8' ho8' k0 k1 z0 z1 hRb hob hRa hoa
        have hFc := flip_any b (N + 16) 30 w8 (ho8.2.mono (by omega)) (by omega) (by omega)
        go_wp2_with fail
        refine hFc.mono ?_
        rintro e w9 ⟨f3, rfl, ho9⟩
        clear hFc
        have hR9 := hR8.s ho9 hbw
        replace ho9 := ho8.trans ho9
        have hgl := (hR9.blk_lt (show blk (some ⟨(w4.heap.size + 1 + 1 + 1), 0, none⟩) = some (w4.heap.size + 1 + 1 + 1) from rfl)).2
        cases f3 with
        | true =>
          go_wp2_with fail
          go_ret
          exact ⟨(w4.heap.size + 1 + 1 + 1), 4, l8.take 2, by rw [List.length_take, hl8.out]; rfl, hR9.sl.take 2, by rw [List.length_take, hl8.out]; decide, by rw [List.length_take, hl8.out]; decide, ⟨by omega, hgl⟩, ho9.mono (by omega)⟩
        | false =>
          go_wp2_with fail
          go_ret
          exact ⟨(w4.heap.size + 1 + 1 + 1), 4, l8, by rw [hl8.out]; rfl, hR9.sl, by rw [hl8.out]; decide, by rw [hl8.out]; decide, ⟨by omega, hgl⟩, ho9.mono (by omega)⟩
      | false =>
        obtain ⟨w8, rfl⟩ : ∃ v, v = w7 := ⟨w7, rfl⟩
        have hR8 := hR7
        have ho8 := ho7.mono (show N + 8 + 1 ≤ N + 16 by omega)
        have hl8 := hl6
        generalize l6 = l8 at *
        clear hR7 ho7
        have hFc := flip_any b (N + 16) 30 w8 (ho8.2.mono (by omega)) (by omega) (by omega)
        go_wp2_with fail
        refine hFc.mono ?_
        rintro e w9 ⟨f3, rfl, ho9⟩
        clear hFc
        have hR9 := hR8.s ho9 hbw
        replace ho9 := ho8.trans ho9
        have hgl := (hR9.blk_lt (show blk (some ⟨(w4.heap.size + 1 + 1 + 1), 0, none⟩) = some (w4.heap.size + 1 + 1 + 1) from rfl)).2
        cases f3 with
        | true =>
          go_wp2_with fail
          go_ret
          exact ⟨(w4.heap.size + 1 + 1 + 1), 4, l8.take 2, by rw [List.length_take, hl8.out]; rfl, hR9.sl.take 2, by rw [List.length_take, hl8.out]; decide, by rw [List.length_take, hl8.out]; decide, ⟨by omega, hgl⟩, ho9.mono (by omega)⟩
        | false =>
          go_wp2_with fail
          go_ret
          exact ⟨(w4.heap.size + 1 + 1 + 1), 4, l8, by rw [hl8.out]; rfl, hR9.sl, by rw [hl8.out]; decide, by rw [hl8.out]; decide, ⟨by omega, hgl⟩, ho9.mono (by omega)⟩
    | false =>
      obtain ⟨w6, rfl⟩ : ∃ v, v = wc := ⟨wc, rfl⟩
      have hR6 := hRc
      have ho6 := hoc.mono (show N + 6 + 1 ≤ N + 8 by omega)
      have hl6 := hl5
      generalize l5 = l6 at *
      clear hRc hoc
      have hFb := flip_any b (N + 8) 8 w6 (ho6.2.mono (by omega)) (by omega) (by omega)
      go_wp2_with fail
      refine hFb.mono ?_
      rintro e w7 ⟨f2, rfl, ho7⟩
      clear hFb
      have hR7 := hR6.s ho7 hbw
      replace ho7 := ho6.trans ho7
      cases f2 with
      | true =>
        have hNx := next_any b (N + 9) 4 w7 (ho7.2.mono (by omega)) (by omega) (by omega)
        go_wp2_with fail
        refine hNx.mono ?_
        rintro e wa ⟨i, rfl, ⟨hi0, hi1⟩, hoa⟩
        clear hNx
        obtain ⟨i, rfl⟩ := Int.eq_ofNat_of_zero_le hi0
        have hRa := hR7.s hoa hbw
        replace hoa := ho7.trans hoa
        have hAp := aPoint_any b (N + 10) wa (hoa.2.mono (by omega)) (by omega)
        go_wp2_with fail
        refine hAp.mono ?_
        rintro e wb ⟨p, rfl, hob⟩
        clear hAp
        have hRb := hRa.s hob hbw
        replace hob := hoa.trans hob
        have hil : i < l6.length := by rw [hl6.out]; omega
        have k0 := (hRb.cell_pt hil).1
        have k1 := (hRb.cell_pt hil).2
        have z0 := hRb.frozen (i * 2)
        have z1 := hRb.frozen (i * 2 + 1)
        have hR8' := hRb.set_pt hil p
        have ho8' := ((hob.mono (show N + 10 + 5 ≤ N + 16 by omega)).set (p := ⟨(w4.heap.size + 1 + 1 + 1), i * 2, none⟩) hbw (by simp only; omega) (.int .i64 p.x)).set (p := ⟨(w4.heap.size + 1 + 1 + 1), i * 2 + 1, none⟩) hbw (by simp only; omega) (.int .i64 p.y)
        have hl8 : Hid ((l6.set i p).length = 4) := by rw [Hid, List.length_set]; exact hl6.out
        go_upto_region 7 with fail
        generalize l6.set i p = l8 at *
        obtain ⟨w8, hw8⟩ : ∃ v, v = (wb.setCell ⟨(w4.heap.size + 1 + 1 + 1), i * 2, none⟩ (.int .i64 p.x)).setCell ⟨(w4.heap.size + 1 + 1 + 1), i * 2 + 1, none⟩ (.int .i64 p.y) := ⟨_, rfl⟩
        rw [← hw8] at hR8' ho8' ⊢
        have hR8 := hR8'
        have ho8 := ho8'
        clear hw8 hR8' ho8' k0 k1 z0 z1 hRb hob hRa hoa
        have hFc := flip_any b (N + 16) 30 w8 (ho8.2.mono (by omega)) (by omega) (by omega)
        go_wp2_with fail
        refine hFc.mono ?_
        rintro e w9 ⟨f3, rfl, ho9⟩
        clear hFc
        have hR9 := hR8.s ho9 hbw
        replace ho9 := ho8.trans ho9
        have hgl := (hR9.blk_lt (show blk (some ⟨(w4.heap.size + 1 + 1 + 1), 0, none⟩) = some (w4.heap.size + 1 + 1 + 1) from rfl)).2
        cases f3 with
        | true =>
          go_wp2_with fail
          go_ret
          exact ⟨(w4.heap.size + 1 + 1 + 1), 4, l8.take 2, by rw [List.length_take, hl8.out]; rfl, hR9.sl.take 2, by rw [List.length_take, hl8.out]; decide, by rw [List.length_take, hl8.out]; decide, ⟨by omega, hgl⟩, ho9.mono (by omega)⟩
        | false =>
          go_wp2_with fail
          go_ret
          exact ⟨(w4.heap.size + 1 + 1 + 1), 4, l8, by rw [hl8.out]; rfl, hR9.sl, by rw [hl8.out]; decide, by rw [hl8.out]; decide, ⟨by omega, hgl⟩, ho9.mono (by omega)⟩
      | false =>
        obtain ⟨w8, rfl⟩ : ∃ v, v = w7 := ⟨w7, rfl⟩
        have hR8 := hR7
        have ho8 := ho7.mono (show N + 8 + 1 ≤ N + 16 by omega)
        have hl8 := hl6
        generalize l6 = l8 at *
        clear hR7 ho7
        have hFc := flip_any b (N + 16) 30 w8 (ho8.2.mono (by omega)) (by omega) (by omega)
        go_wp2_with fail
        refine hFc.mono ?_
        rintro e w9 ⟨f3, rfl, ho9⟩
        clear hFc
        have hR9 := hR8.s ho9 hbw
        replace ho9 := ho8.trans ho9
        have hgl := (hR9.blk_lt (show blk (some ⟨(w4.heap.size + 1 + 1 + 1), 0, none⟩) = some (w4.heap.size + 1 + 1 + 1) from rfl)).2
        cases f3 with
        | true =>
          go_wp2_with fail
          go_ret
          exact ⟨(w4.heap.size + 1 + 1 + 1), 4, l8.take 2, by rw [List.length_take, hl8.out]; rfl, hR9.sl.take 2, by rw [List.length_take, hl8.out]; decide, by rw [List.length_take, hl8.out]; decide, ⟨by omega, hgl⟩, ho9.mono (by omega)⟩
        | false =>
          go_wp2_with fail
          go_ret
          exact ⟨(w4.heap.size + 1 + 1 + 1), 4, l8, by rw [hl8.out]; rfl, hR9.sl, by rw [hl8.out]; decide, by rw [hl8.out]; decide, ⟨by omega, hgl⟩, ho9.mono (by omega)⟩

end Go.Proofs.YtfeljlokmcoocaaGreat

namespace Go.Proofs.YtfeljlokmcoocaaGreat
open Go Go.RowKit Go.Bl

/-- a region of new memory -/
def SReg (b : Nat) (N : Int) (w : World) (e : Ending) (w' : World) : Prop := ∃ (A : Option Addr) (c : Nat) (rs : List (List Pt)), e = .returned (.slice A rs.length c) ∧ OwnN RawS w' w.heap.size 29 A c rs ∧ rs.length ≤ c ∧ rs.length ≤ 3 ∧ (∀ r ∈ rs, r.length ≤ 6) ∧ SOut b N w w'

end Go.Proofs.YtfeljlokmcoocaaGreat

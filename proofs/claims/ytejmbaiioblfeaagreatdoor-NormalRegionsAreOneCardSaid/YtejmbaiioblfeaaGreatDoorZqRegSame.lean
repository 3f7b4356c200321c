/- Contracts of functions that this seat's laws reach, each: what one call returns and what it leaves in memory; no condition beyond each theorem's own hypotheses. -/
import Derived.Test.YtejmbaiioblfeaaGreatDoorZqRegRev
import Derived.Test.YtejmbaiioblfeaaGreatDoorZqOrdG
import Derived.Test.YtejmbaiioblfeaaGreatDoorZqRegRefC
import Derived.Test.YtejmbaiioblfeaaGreatDoorZqJm
import Derived.Test.YtejmbaiioblfeaaGreatDoorZqFlowD
set_option linter.unusedVariables false
set_option linter.unusedSimpArgs false
namespace Go.Proofs.YtejmbaiioblfeaaGreatDoor
open Go Go.RowKit Go.Bl

/-- a ring of new memory -/
def SRing (b : Nat) (N : Int) (w : World) (e : Ending) (w' : World) : Prop := ∃ (g c : Nat) (l : List Pt), e = .returned (.slice (some ⟨g, 0, none⟩) l.length c) ∧ Sl w' w.heap.size (some ⟨g, 0, none⟩) l ∧ l.length ≤ c ∧ l.length ≤ 6 ∧ (w.heap.size ≤ g ∧ g < w'.heap.size) ∧ SOut b N w w'

theorem own_litP {α : Type} [Enc α] [Flat α] (w : World) (lo : Nat) (cs : List Value) (t : TypeId) (l : List α) (g : Nat) (hg : g = w.heap.size) (hlo : lo ≤ w.heap.size) (hm : l.length ≤ maxLen) (hr : Row w lo l cs) :
    Own (w.alloc (.cells cs.toArray t)) lo t (some ⟨g, 0, none⟩) l.length l := by
  subst hg
  have hlen := hr.len
  exact ⟨hm, cs, hr.flat, hlen, .inr ⟨w.heap.size, l.length, cs.toArray, rfl, hlo, heap_alloc_new w _, Nat.le_refl _, hm, by simpa using hlen, by rw [← hlen]; simp⟩⟩

theorem reverseN_any (n lo g c : Nat) (l : List Pt) (w : World) (hn' : l.length = n) (ho : Own w lo 29 (some ⟨g, 0, none⟩) c l) (hn : 0 < n) (hs : n ≤ 1000000) :
    Calls Tryz.prog 13 #[.slice (some ⟨g, 0, none⟩) n c] w fun e w' => (∃ v, e = .returned v) ∧ Own w' lo 29 (some ⟨g, 0, none⟩) c l.reverse ∧ w.grownBy w' (some g) := by
  subst hn'
  exact reverseRing_any lo g c l w ho hn hs

set_option maxHeartbeats 8000000 in
set_option maxRecDepth 100000 in
theorem aRing_any (b : Nat) (N : Int) (w : World) (hs : Strm w b N) (hN : N ≤ 900000000) :
    Calls Tryz.prog 63 #[.pointer (some ⟨b, 0, none⟩)] w (SRing b (N + 20) w) := by
  have hbw := hs.lt
  go_enter Tryz.func63, Tryz.ntmps63
  go_wp2_with fail
  refine (range_any b N _ _ _ hs (by omega) (by omega) (by omega) (by omega)).mono ?_
  rintro e w1 ⟨x, rfl, hx, ho1⟩
  go_wp2_with fail
  refine (range_any b (N + 1) _ _ _ ho1.2 (by omega) (by omega) (by omega) (by omega)).mono ?_
  rintro e w2 ⟨y, rfl, hy, ho2⟩
  replace ho2 := ho1.trans ho2
  go_wp2_with fail
  refine (range_any b (N + 1 + 1) _ _ _ ho2.2 (by omega) (by omega) (by omega) (by omega)).mono ?_
  rintro e w3 ⟨n, rfl, hn, ho3⟩
  replace ho3 := ho2.trans ho3
  go_wp2_with fail
  refine (range_any b (N + 1 + 1 + 1) _ _ _ ho3.2 (by omega) (by omega) (by omega) (by omega)).mono ?_
  rintro e w4 ⟨k, rfl, hk, ho4⟩
  replace ho4 := ho3.trans ho4
  clear ho1 ho2 ho3
  go_wp2_with fail
  have hsz4 := ho4.size
  obtain ⟨W, hW⟩ : ∃ W, W = (((((w4.alloc (.cells #[.int .i64 x, .int .i64 y, .int .i64 (x + n), .int .i64 y, .int .i64 (x + n), .int .i64 (y + k), .int .i64 x, .int .i64 (y + k)] 29)).alloc (.cells #[.int .i64 x, .int .i64 y, .int .i64 (x + n), .int .i64 (y + 1), .int .i64 (x + 1), .int .i64 (y + k)] 29)).alloc (.cells #[.int .i64 x, .int .i64 y, .int .i64 (x + 2 * n), .int .i64 y, .int .i64 (x + 2 * n), .int .i64 (y + k), .int .i64 (x + n), .int .i64 (y + k), .int .i64 (x + n), .int .i64 (y + 2 * k), .int .i64 x, .int .i64 (y + 2 * k)] 29)).alloc (.cells #[.int .i64 x, .int .i64 y, .int .i64 (x + n), .int .i64 y, .int .i64 (x + 2 * n), .int .i64 y, .int .i64 (x + n), .int .i64 (y + k)] 29)).alloc (.cells #[.slice (some ⟨w4.heap.size, 0, none⟩) 4 4, .slice (some ⟨w4.heap.size + 1, 0, none⟩) 3 3, .slice (some ⟨w4.heap.size + 1 + 1, 0, none⟩) 6 6, .slice (some ⟨w4.heap.size + 1 + 1 + 1, 0, none⟩) 4 4] 36)) := ⟨_, rfl⟩
  have hgW : w4.grownBy W none := by rw [hW]; exact (by repeat (first | exact World.grownBy.refl _ _ | assumption | refine gr_alloc ?_ _ | (apply gr_tail; assumption) | refine gr_drewN ?_ _ | refine gr_drew ?_))
  have R1 : Own W w.heap.size 29 (some ⟨w4.heap.size, 0, none⟩) 4 [(⟨x, y⟩ : Pt), ⟨x + n, y⟩, ⟨x + n, y + k⟩, ⟨x, y + k⟩] := by
    rw [hW]
    exact ((((own_litP w4 w.heap.size _ 29 [(⟨x, y⟩ : Pt), ⟨x + n, y⟩, ⟨x + n, y + k⟩, ⟨x, y + k⟩] _ rfl (by omega) (by simp [maxLen]) ⟨_, _, rfl, rfl, _, _, rfl, rfl, _, _, rfl, rfl, _, _, rfl, rfl, rfl⟩).pure (gr_alloc (World.grownBy.refl _ _) _)).pure (gr_alloc (World.grownBy.refl _ _) _)).pure (gr_alloc (World.grownBy.refl _ _) _)).pure (gr_alloc (World.grownBy.refl _ _) _)
  have R2 : Own W w.heap.size 29 (some ⟨w4.heap.size + 1, 0, none⟩) 3 [(⟨x, y⟩ : Pt), ⟨x + n, y + 1⟩, ⟨x + 1, y + k⟩] := by
    rw [hW]
    exact (((own_litP _ w.heap.size _ 29 [(⟨x, y⟩ : Pt), ⟨x + n, y + 1⟩, ⟨x + 1, y + k⟩] _ (by simp) (by simp; omega) (by simp [maxLen]) ⟨_, _, rfl, rfl, _, _, rfl, rfl, _, _, rfl, rfl, rfl⟩).pure (gr_alloc (World.grownBy.refl _ _) _)).pure (gr_alloc (World.grownBy.refl _ _) _)).pure (gr_alloc (World.grownBy.refl _ _) _)
  have R3 : Own W w.heap.size 29 (some ⟨w4.heap.size + 1 + 1, 0, none⟩) 6 [(⟨x, y⟩ : Pt), ⟨x + 2 * n, y⟩, ⟨x + 2 * n, y + k⟩, ⟨x + n, y + k⟩, ⟨x + n, y + 2 * k⟩, ⟨x, y + 2 * k⟩] := by
    rw [hW]
    exact ((own_litP _ w.heap.size _ 29 [(⟨x, y⟩ : Pt), ⟨x + 2 * n, y⟩, ⟨x + 2 * n, y + k⟩, ⟨x + n, y + k⟩, ⟨x + n, y + 2 * k⟩, ⟨x, y + 2 * k⟩] _ (by simp) (by simp; omega) (by simp [maxLen]) ⟨_, _, rfl, rfl, _, _, rfl, rfl, _, _, rfl, rfl, _, _, rfl, rfl, _, _, rfl, rfl, _, _, rfl, rfl, rfl⟩).pure (gr_alloc (World.grownBy.refl _ _) _)).pure (gr_alloc (World.grownBy.refl _ _) _)
  have R4 : Own W w.heap.size 29 (some ⟨w4.heap.size + 1 + 1 + 1, 0, none⟩) 4 [(⟨x, y⟩ : Pt), ⟨x + n, y⟩, ⟨x + 2 * n, y⟩, ⟨x + n, y + k⟩] := by
    rw [hW]
    exact (own_litP _ w.heap.size _ 29 [(⟨x, y⟩ : Pt), ⟨x + n, y⟩, ⟨x + 2 * n, y⟩, ⟨x + n, y + k⟩] _ (by simp) (by simp; omega) (by simp [maxLen]) ⟨_, _, rfl, rfl, _, _, rfl, rfl, _, _, rfl, rfl, _, _, rfl, rfl, rfl⟩).pure (gr_alloc (World.grownBy.refl _ _) _)
  have c0 : W.cell? ⟨w4.heap.size + 1 + 1 + 1 + 1, 0, none⟩ = some (.slice (some ⟨w4.heap.size, 0, none⟩) 4 4) := by rw [hW]; go_simp
  have c1 : W.cell? ⟨w4.heap.size + 1 + 1 + 1 + 1, 1, none⟩ = some (.slice (some ⟨w4.heap.size + 1, 0, none⟩) 3 3) := by rw [hW]; go_simp
  have c2 : W.cell? ⟨w4.heap.size + 1 + 1 + 1 + 1, 2, none⟩ = some (.slice (some ⟨w4.heap.size + 1 + 1, 0, none⟩) 6 6) := by rw [hW]; go_simp
  have c3 : W.cell? ⟨w4.heap.size + 1 + 1 + 1 + 1, 3, none⟩ = some (.slice (some ⟨w4.heap.size + 1 + 1 + 1, 0, none⟩) 4 4) := by rw [hW]; go_simp
  rw [← hW]
  clear hW
  have hoW := ho4.pure hgW
  have hNx := next_any b (N + 1 + 1 + 1 + 1) 4 W hoW.2 (by omega) (by omega)
  refine hNx.mono ?_
  rintro e w5 ⟨i, rfl, ⟨hi0, hi1⟩, ho5'⟩
  clear hNx
  have hne : ∀ (g : Nat), w4.heap.size ≤ g → some b ≠ some g := fun g hg e => by injection e; omega
  replace c0 := gr_cell ho5'.1 c0 (hne _ (by simp only; omega))
  replace c1 := gr_cell ho5'.1 c1 (hne _ (by simp only; omega))
  replace c2 := gr_cell ho5'.1 c2 (hne _ (by simp only; omega))
  replace c3 := gr_cell ho5'.1 c3 (hne _ (by simp only; omega))
  replace R1 := R1.s ho5' hbw
  replace R2 := R2.s ho5' hbw
  replace R3 := R3.s ho5' hbw
  replace R4 := R4.s ho5' hbw
  have ho5 := (hoW.trans ho5').mono (show N + 1 + 1 + 1 + 1 + 1 ≤ N + 6 by omega)
  clear ho5' hoW hgW hne ho4
  rcases (by omega : i = 0 ∨ i = 1 ∨ i = 2 ∨ i = 3) with rfl | rfl | rfl | rfl
  · obtain ⟨l5, hl⟩ : ∃ l, l = [(⟨x, y⟩ : Pt), ⟨x + n, y⟩, ⟨x + n, y + k⟩, ⟨x, y + k⟩] := ⟨_, rfl⟩
    rw [← hl] at R1
    have hl5 : Hid (l5.length = 4) := by rw [Hid, hl]; rfl
    have hR5 := R1
    clear hl R1 R2 R3 R4 hi0 hi1
    have hFa := flip_any b (N + 6) 2 w5 (ho5.2.mono (by omega)) (by omega) (by omega)
    go_wp2_with fail
    refine hFa.mono ?_
    rintro e wc ⟨f1, rfl, hoc⟩
    clear hFa
    have hRc := hR5.s hoc hbw
    replace hoc := ho5.trans hoc
    cases f1 with
    | true =>
      have hRv := reverseN_any 4 w.heap.size w4.heap.size 4 l5 wc hl5.out hRc (by omega) (by omega)
      go_wp2_with fail
      refine hRv.mono ?_
      rintro e w6 ⟨⟨v, rfl⟩, hR6, hg6⟩
      clear hRv
      have ho6 := (hoc.mono (show N + 6 + 1 ≤ N + 8 by omega)).upd (Nat.le_refl _) hbw ⟨_, hg6, fun g' e => by injection e; omega⟩
      have hl6 : Hid (l5.reverse.length = 4) := by rw [Hid, List.length_reverse]; exact hl5.out
      generalize l5.reverse = l6 at *
      clear hoc hRc
      have hFb := flip_any b (N + 8) 8 w6 (ho6.2.mono (by omega)) (by omega) (by omega)
      go_wp2_with fail
      refine hFb.mono ?_
      rintro e w7 ⟨f2, rfl, ho7⟩
      clear hFb
      have hR7 := hR6.s ho7 hbw
      replace ho7 := ho6.trans ho7
      cases f2 with
      | true =>
        have hNx := next_any b (N + 9) 4 w7 (ho7.2.mono (by omega)) (by omega) (by omega)
        go_wp2_with fail
        refine hNx.mono ?_
        rintro e wa ⟨i, rfl, ⟨hi0, hi1⟩, hoa⟩
        clear hNx
        obtain ⟨i, rfl⟩ := Int.eq_ofNat_of_zero_le hi0
        have hRa := hR7.s hoa hbw
        replace hoa := ho7.trans hoa
        have hAp := aPoint_any b (N + 10) wa (hoa.2.mono (by omega)) (by omega)
        go_wp2_with fail
        refine hAp.mono ?_
        rintro e wb ⟨p, rfl, hob⟩
        clear hAp
        have hRb := hRa.s hob hbw
        replace hob := hoa.trans hob
        have hil : i < l6.length := by rw [hl6.out]; omega
        have k0 := (hRb.cell_pt hil).1
        have k1 := (hRb.cell_pt hil).2
        have z0 := hRb.frozen (i * 2)
        have z1 := hRb.frozen (i * 2 + 1)
        have hR8' := hRb.set_pt hil p
        have ho8' := ((hob.mono (show N + 10 + 5 ≤ N + 16 by omega)).set (p := ⟨w4.heap.size, i * 2, none⟩) hbw (by simp only; omega) (.int .i64 p.x)).set (p := ⟨w4.heap.size, i * 2 + 1, none⟩) hbw (by simp only; omega) (.int .i64 p.y)
        have hl8 : Hid ((l6.set i p).length = 4) := by rw [Hid, List.length_set]; exact hl6.out
        go_upto_region 7 with fail
        generalize l6.set i p = l8 at *
        obtain ⟨w8, hw8⟩ : ∃ v, v = (wb.setCell ⟨w4.heap.size, i * 2, none⟩ (.int .i64 p.x)).setCell ⟨w4.heap.size, i * 2 + 1, none⟩ (.int .i64 p.y) := ⟨_, rfl⟩
        rw [← hw8] at hR8' ho8' ⊢
        have hR8 := hR8'
        have ho8 := ho8'
        clear hw8 hR8' ho8' k0 k1 z0 z1 hRb hob hRa hoa
        have hFc := flip_any b (N + 16) 30 w8 (ho8.2.mono (by omega)) (by omega) (by omega)
        go_wp2_with fail
        refine hFc.mono ?_
        rintro e w9 ⟨f3, rfl, ho9⟩
        clear hFc
        have hR9 := hR8.s ho9 hbw
        replace ho9 := ho8.trans ho9
        have hgl := (hR9.blk_lt (show blk (some ⟨w4.heap.size, 0, none⟩) = some w4.heap.size from rfl)).2
        cases f3 with
        | true =>
          go_wp2_with fail
          go_ret
          exact ⟨w4.heap.size, 4, l8.take 2, by rw [List.length_take, hl8.out]; rfl, hR9.sl.take 2, by rw [List.length_take, hl8.out]; decide, by rw [List.length_take, hl8.out]; decide, ⟨by omega, hgl⟩, ho9.mono (by omega)⟩
        | false =>
          go_wp2_with fail
          go_ret
          exact ⟨w4.heap.size, 4, l8, by rw [hl8.out]; rfl, hR9.sl, by rw [hl8.out]; decide, by rw [hl8.out]; decide, ⟨by omega, hgl⟩, ho9.mono (by omega)⟩
      | false =>
        obtain ⟨w8, rfl⟩ : ∃ v, v = w7 := ⟨w7, rfl⟩
        have hR8 := hR7
        have ho8 := ho7.mono (show N + 8 + 1 ≤ N + 16 by omega)
        have hl8 := hl6
        generalize l6 = l8 at *
        clear hR7 ho7
        have hFc := flip_any b (N + 16) 30 w8 (ho8.2.mono (by omega)) (by omega) (by omega)
        go_wp2_with fail
        refine hFc.mono ?_
        rintro e w9 ⟨f3, rfl, ho9⟩
        clear hFc
        have hR9 := hR8.s ho9 hbw
        replace ho9 := ho8.trans ho9
        have hgl := (hR9.blk_lt (show blk (some ⟨w4.heap.size, 0, none⟩) = some w4.heap.size from rfl)).2
        cases f3 with
        | true =>
          go_wp2_with fail
          go_ret
          exact ⟨w4.heap.size, 4, l8.take 2, by rw [List.length_take, hl8.out]; rfl, hR9.sl.take 2, by rw [List.length_take, hl8.out]; decide, by rw [List.length_take, hl8.out]; decide, ⟨by omega, hgl⟩, ho9.mono (by omega)⟩
        | false =>
          go_wp2_with fail
          go_ret
          exact ⟨w4.heap.size, 4, l8, by rw [hl8.out]; rfl, hR9.sl, by rw [hl8.out]; decide, by rw [hl8.out]; decide, ⟨by omega, hgl⟩, ho9.mono (by omega)⟩
    | false =>
      obtain ⟨w6, rfl⟩ : ∃ v, v = wc := ⟨wc, rfl⟩
      have hR6 := hRc
      have ho6 := hoc.mono (show N + 6 + 1 ≤ N + 8 by omega)
      have hl6 := hl5
      generalize l5 = l6 at *
      clear hRc hoc
      have hFb := flip_any b (N + 8) 8 w6 (ho6.2.mono (by omega)) (by omega) (by omega)
      go_wp2_with fail
      refine hFb.mono ?_
      rintro e w7 ⟨f2, rfl, ho7⟩
      clear hFb
      have hR7 := hR6.s ho7 hbw
      replace ho7 := ho6.trans ho7
      cases f2 with
      | true =>
        have hNx := next_any b (N + 9) 4 w7 (ho7.2.mono (by omega)) (by omega) (by omega)
        go_wp2_with fail
        refine hNx.mono ?_
        rintro e wa ⟨i, rfl, ⟨hi0, hi1⟩, hoa⟩
        clear hNx
        obtain ⟨i, rfl⟩ := Int.eq_ofNat_of_zero_le hi0
        have hRa := hR7.s hoa hbw
        replace hoa := ho7.trans hoa
        have hAp := aPoint_any b (N + 10) wa (hoa.2.mono (by omega)) (by omega)
        go_wp2_with fail
        refine hAp.mono ?_
        rintro e wb ⟨p, rfl, hob⟩
        clear hAp
        have hRb := hRa.s hob hbw
        replace hob := hoa.trans hob
        have hil : i < l6.length := by rw [hl6.out]; omega
        have k0 := (hRb.cell_pt hil).1
        have k1 := (hRb.cell_pt hil).2
        have z0 := hRb.frozen (i * 2)
        have z1 := hRb.frozen (i * 2 + 1)
        have hR8' := hRb.set_pt hil p
        have ho8' := ((hob.mono (show N + 10 + 5 ≤ N + 16 by omega)).set (p := ⟨w4.heap.size, i * 2, none⟩) hbw (by simp only; omega) (.int .i64 p.x)).set (p := ⟨w4.heap.size, i * 2 + 1, none⟩) hbw (by simp only; omega) (.int .i64 p.y)
        have hl8 : Hid ((l6.set i p).length = 4) := by rw [Hid, List.length_set]; exact hl6.out
        go_upto_region 7 with fail
        generalize l6.set i p = l8 at *
        obtain ⟨w8, hw8⟩ : ∃ v, v = (wb.setCell ⟨w4.heap.size, i * 2, none⟩ (.int .i64 p.x)).setCell ⟨w4.heap.size, i * 2 + 1, none⟩ (.int .i64 p.y) := ⟨_, rfl⟩
        rw [← hw8] at hR8' ho8' ⊢
        have hR8 := hR8'
        have ho8 := ho8'
        clear hw8 hR8' ho8' k0 k1 z0 z1 hRb hob hRa hoa
        have hFc := flip_any b (N + 16) 30 w8 (ho8.2.mono (by omega)) (by omega) (by omega)
        go_wp2_with fail
        refine hFc.mono ?_
        rintro e w9 ⟨f3, rfl, ho9⟩
        clear hFc
        have hR9 := hR8.s ho9 hbw
        replace ho9 := ho8.trans ho9
        have hgl := (hR9.blk_lt (show blk (some ⟨w4.heap.size, 0, none⟩) = some w4.heap.size from rfl)).2
        cases f3 with
        | true =>
          go_wp2_with fail
          go_ret
          exact ⟨w4.heap.size, 4, l8.take 2, by rw [List.length_take, hl8.out]; rfl, hR9.sl.take 2, by rw [List.length_take, hl8.out]; decide, by rw [List.length_take, hl8.out]; decide, ⟨by omega, hgl⟩, ho9.mono (by omega)⟩
        | false =>
          go_wp2_with fail
          go_ret
          exact ⟨w4.heap.size, 4, l8, by rw [hl8.out]; rfl, hR9.sl, by rw [hl8.out]; decide, by rw [hl8.out]; decide, ⟨by omega, hgl⟩, ho9.mono (by omega)⟩
      | false =>
        obtain ⟨w8, rfl⟩ : ∃ v, v = w7 := ⟨w7, rfl⟩
        have hR8 := hR7
        have ho8 := ho7.mono (show N + 8 + 1 ≤ N + 16 by omega)
        have hl8 := hl6
        generalize l6 = l8 at *
        clear hR7 ho7
        have hFc := flip_any b (N + 16) 30 w8 (ho8.2.mono (by omega)) (by omega) (by omega)
        go_wp2_with fail
        refine hFc.mono ?_
        rintro e w9 ⟨f3, rfl, ho9⟩
        clear hFc
        have hR9 := hR8.s ho9 hbw
        replace ho9 := ho8.trans ho9
        have hgl := (hR9.blk_lt (show blk (some ⟨w4.heap.size, 0, none⟩) = some w4.heap.size from rfl)).2
        cases f3 with
        | true =>
          go_wp2_with fail
          go_ret
          exact ⟨w4.heap.size, 4, l8.take 2, by rw [List.length_take, hl8.out]; rfl, hR9.sl.take 2, by rw [List.length_take, hl8.out]; decide, by rw [List.length_take, hl8.out]; decide, ⟨by omega, hgl⟩, ho9.mono (by omega)⟩
        | false =>
          go_wp2_with fail
          go_ret
          exact ⟨w4.heap.size, 4, l8, by rw [hl8.out]; rfl, hR9.sl, by rw [hl8.out]; decide, by rw [hl8.out]; decide, ⟨by omega, hgl⟩, ho9.mono (by omega)⟩
  · obtain ⟨l5, hl⟩ : ∃ l, l = [(⟨x, y⟩ : Pt), ⟨x + n, y + 1⟩, ⟨x + 1, y + k⟩] := ⟨_, rfl⟩
    rw [← hl] at R2
    have hl5 : Hid (l5.length = 3) := by rw [Hid, hl]; rfl
    have hR5 := R2
    clear hl R1 R2 R3 R4 hi0 hi1
    have hFa := flip_any b (N + 6) 2 w5 (ho5.2.mono (by omega)) (by omega) (by omega)
    go_wp2_with fail
    refine hFa.mono ?_
    rintro e wc ⟨f1, rfl, hoc⟩
    clear hFa
    have hRc := hR5.s hoc hbw
    replace hoc := ho5.trans hoc
    cases f1 with
    | true =>
      have hRv := reverseN_any 3 w.heap.size (w4.heap.size + 1) 3 l5 wc hl5.out hRc (by omega) (by omega)
      go_wp2_with fail
      refine hRv.mono ?_
      rintro e w6 ⟨⟨v, rfl⟩, hR6, hg6⟩
      clear hRv
      have ho6 := (hoc.mono (show N + 6 + 1 ≤ N + 8 by omega)).upd (Nat.le_refl _) hbw ⟨_, hg6, fun g' e => by injection e; omega⟩
      have hl6 : Hid (l5.reverse.length = 3) := by rw [Hid, List.length_reverse]; exact hl5.out
      generalize l5.reverse = l6 at *
      clear hoc hRc
      have hFb := flip_any b (N + 8) 8 w6 (ho6.2.mono (by omega)) (by omega) (by omega)
      go_wp2_with fail
      refine hFb.mono ?_
      rintro e w7 ⟨f2, rfl, ho7⟩
      clear hFb
      have hR7 := hR6.s ho7 hbw
      replace ho7 := ho6.trans ho7
      cases f2 with
      | true =>
        have hNx := next_any b (N + 9) 3 w7 (ho7.2.mono (by omega)) (by omega) (by omega)
        go_wp2_with fail
        refine hNx.mono ?_
        rintro e wa ⟨i, rfl, ⟨hi0, hi1⟩, hoa⟩
        clear hNx
        obtain ⟨i, rfl⟩ := Int.eq_ofNat_of_zero_le hi0
        have hRa := hR7.s hoa hbw
        replace hoa := ho7.trans hoa
        have hAp := aPoint_any b (N + 10) wa (hoa.2.mono (by omega)) (by omega)
        go_wp2_with fail
        refine hAp.mono ?_
        rintro e wb ⟨p, rfl, hob⟩
        clear hAp
        have hRb := hRa.s hob hbw
        replace hob := hoa.trans hob
        have hil : i < l6.length := by rw [hl6.out]; omega
        have k0 := (hRb.cell_pt hil).1
        have k1 := (hRb.cell_pt hil).2
        have z0 := hRb.frozen (i * 2)
        have z1 := hRb.frozen (i * 2 + 1)
        have hR8' := hRb.set_pt hil p
        have ho8' := ((hob.mono (show N + 10 + 5 ≤ N + 16 by omega)).set (p := ⟨(w4.heap.size + 1), i * 2, none⟩) hbw (by simp only; omega) (.int .i64 p.x)).set (p := ⟨(w4.heap.size + 1), i * 2 + 1, none⟩) hbw (by simp only; omega) (.int .i64 p.y)
        have hl8 : Hid ((l6.set i p).length = 3) := by rw [Hid, List.length_set]; exact hl6.out
        go_upto_region 7 with fail
        generalize l6.set i p = l8 at *
        obtain ⟨w8, hw8⟩ : ∃ v, v = (wb.setCell ⟨(w4.heap.size + 1), i * 2, none⟩ (.int .i64 p.x)).setCell ⟨(w4.heap.size + 1), i * 2 + 1, none⟩ (.int .i64 p.y) := ⟨_, rfl⟩
        rw [← hw8] at hR8' ho8' ⊢
        have hR8 := hR8'
        have ho8 := ho8'
        clear hw8 hR8' ho8' k0 k1 z0 z1 hRb hob hRa hoa
        have hFc := flip_any b (N + 16) 30 w8 (ho8.2.mono (by omega)) (by omega) (by omega)
        go_wp2_with fail
        refine hFc.mono ?_
        rintro e w9 ⟨f3, rfl, ho9⟩
        clear hFc
        have hR9 := hR8.s ho9 hbw
        replace ho9 := ho8.trans ho9
        have hgl := (hR9.blk_lt (show blk (some ⟨(w4.heap.size + 1), 0, none⟩) = some (w4.heap.size + 1) from rfl)).2
        cases f3 with
        | true =>
          go_wp2_with fail
          go_ret
          exact ⟨(w4.heap.size + 1), 3, l8.take 2, by rw [List.length_take, hl8.out]; rfl, hR9.sl.take 2, by rw [List.length_take, hl8.out]; decide, by rw [List.length_take, hl8.out]; decide, ⟨by omega, hgl⟩, ho9.mono (by omega)⟩
        | false =>
          go_wp2_with fail
          go_ret
          exact ⟨(w4.heap.size + 1), 3, l8, by rw [hl8.out]; rfl, hR9.sl, by rw [hl8.out]; decide, by rw [hl8.out]; decide, ⟨by omega, hgl⟩, ho9.mono (by omega)⟩
      | false =>
        obtain ⟨w8, rfl⟩ : ∃ v, v = w7 := ⟨w7, rfl⟩
        have hR8 := hR7
        have ho8 := ho7.mono (show N + 8 + 1 ≤ N + 16 by omega)
        have hl8 := hl6
        generalize l6 = l8 at *
        clear hR7 ho7
        have hFc := flip_any b (N + 16) 30 w8 (ho8.2.mono (by omega)) (by omega) (by omega)
        go_wp2_with fail
        refine hFc.mono ?_
        rintro e w9 ⟨f3, rfl, ho9⟩
        clear hFc
        have hR9 := hR8.s ho9 hbw
        replace ho9 := ho8.trans ho9
        have hgl := (hR9.blk_lt (show blk (some ⟨(w4.heap.size + 1), 0, none⟩) = some (w4.heap.size + 1) from rfl)).2
        cases f3 with
        | true =>
          go_wp2_with fail
          go_ret
          exact ⟨(w4.heap.size + 1), 3, l8.take 2, by rw [List.length_take, hl8.out]; rfl, hR9.sl.take 2, by rw [List.length_take, hl8.out]; decide, by rw [List.length_take, hl8.out]; decide, ⟨by omega, hgl⟩, ho9.mono (by omega)⟩
        | false =>
          go_wp2_with fail
          go_ret
          exact ⟨(w4.heap.size + 1), 3, l8, by rw [hl8.out]; rfl, hR9.sl, by rw [hl8.out]; decide, by rw [hl8.out]; decide, ⟨by omega, hgl⟩, ho9.mono (by omega)⟩
    | false =>
      obtain ⟨w6, rfl⟩ : ∃ v, v = wc := ⟨wc, rfl⟩
      have hR6 := hRc
      have ho6 := hoc.mono (show N + 6 + 1 ≤ N + 8 by omega)
      have hl6 := hl5
      generalize l5 = l6 at *
      clear hRc hoc
      have hFb := flip_any b (N + 8) 8 w6 (ho6.2.mono (by omega)) (by omega) (by omega)
      go_wp2_with fail
      refine hFb.mono ?_
      rintro e w7 ⟨f2, rfl, ho7⟩
      clear hFb
      have hR7 := hR6.s ho7 hbw
      replace ho7 := ho6.trans ho7
      cases f2 with
      | true =>
        have hNx := next_any b (N + 9) 3 w7 (ho7.2.mono (by omega)) (by omega) (by omega)
        go_wp2_with fail
        refine hNx.mono ?_
        rintro e wa ⟨i, rfl, ⟨hi0, hi1⟩, hoa⟩
        clear hNx
        obtain ⟨i, rfl⟩ := Int.eq_ofNat_of_zero_le hi0
        have hRa := hR7.s hoa hbw
        replace hoa := ho7.trans hoa
        have hAp := aPoint_any b (N + 10) wa (hoa.2.mono (by omega)) (by omega)
        go_wp2_with fail
        refine hAp.mono ?_
        rintro e wb ⟨p, rfl, hob⟩
        clear hAp
        have hRb := hRa.s hob hbw
        replace hob := hoa.trans hob
        have hil : i < l6.length := by rw [hl6.out]; omega
        have k0 := (hRb.cell_pt hil).1
        have k1 := (hRb.cell_pt hil).2
        have z0 := hRb.frozen (i * 2)
        have z1 := hRb.frozen (i * 2 + 1)
        have hR8' := hRb.set_pt hil p
        have ho8' := ((hob.mono (show N + 10 + 5 ≤ N + 16 by omega)).set (p := ⟨(w4.heap.size + 1), i * 2, none⟩) hbw (by simp only; omega) (.int .i64 p.x)).set (p := ⟨(w4.heap.size + 1), i * 2 + 1, none⟩) hbw (by simp only; omega) (.int .i64 p.y)
        have hl8 : Hid ((l6.set i p).length = 3) := by rw [Hid, List.length_set]; exact hl6.out
        go_upto_region 7 with fail
        generalize l6.set i p = l8 at *
        obtain ⟨w8, hw8⟩ : ∃ v, v = (wb.setCell ⟨(w4.heap.size + 1), i * 2, none⟩ (.int .i64 p.x)).setCell ⟨(w4.heap.size + 1), i * 2 + 1, none⟩ (.int .i64 p.y) := ⟨_, rfl⟩
        rw [← hw8] at hR8' ho8' ⊢
        have hR8 := hR8'
        have ho8 := ho8'
        clear hw8 hR8' ho8' k0 k1 z0 z1 hRb hob hRa hoa
        have hFc := flip_any b (N + 16) 30 w8 (ho8.2.mono (by omega)) (by omega) (by omega)
        go_wp2_with fail
        refine hFc.mono ?_
        rintro e w9 ⟨f3, rfl, ho9⟩
        clear hFc
        have hR9 := hR8.s ho9 hbw
        replace ho9 := ho8.trans ho9
        have hgl := (hR9.blk_lt (show blk (some ⟨(w4.heap.size + 1), 0, none⟩) = some (w4.heap.size + 1) from rfl)).2
        cases f3 with
        | true =>
          go_wp2_with fail
          go_ret
          exact ⟨(w4.heap.size + 1), 3, l8.take 2, by rw [List.length_take, hl8.out]; rfl, hR9.sl.take 2, by rw [List.length_take, hl8.out]; decide, by rw [List.length_take, hl8.out]; decide, ⟨by omega, hgl⟩, ho9.mono (by omega)⟩
        | false =>
          go_wp2_with fail
          go_ret
          exact ⟨(w4.heap.size + 1), 3, l8, by rw [hl8.out]; rfl, hR9.sl, by rw [hl8.out]; decide, by rw [hl8.out]; decide, ⟨by omega, hgl⟩, ho9.mono (by omega)⟩
      | false =>
        obtain ⟨w8, rfl⟩ : ∃ v, v = w7 := ⟨w7, rfl⟩
        have hR8 := hR7
        have ho8 := ho7.mono (show N + 8 + 1 ≤ N + 16 by omega)
        have hl8 := hl6
        generalize l6 = l8 at *
        clear hR7 ho7
        have hFc := flip_any b (N + 16) 30 w8 (ho8.2.mono (by omega)) (by omega) (by omega)
        go_wp2_with fail
        refine hFc.mono ?_
        rintro e w9 ⟨f3, rfl, ho9⟩
        clear hFc
        have hR9 := hR8.s ho9 hbw
        replace ho9 := ho8.trans ho9
        have hgl := (hR9.blk_lt (show blk (some ⟨(w4.heap.size + 1), 0, none⟩) = some (w4.heap.size + 1) from rfl)).2
        cases f3 with
        | true =>
          go_wp2_with fail
          go_ret
          exact ⟨(w4.heap.size + 1), 3, l8.take 2, by rw [List.length_take, hl8.out]; rfl, hR9.sl.take 2, by rw [List.length_take, hl8.out]; decide, by rw [List.length_take, hl8.out]; decide, ⟨by omega, hgl⟩, ho9.mono (by omega)⟩
        | false =>
          go_wp2_with fail
          go_ret
          exact ⟨(w4.heap.size + 1), 3, l8, by rw [hl8.out]; rfl, hR9.sl, by rw [hl8.out]; decide, by rw [hl8.out]; decide, ⟨by omega, hgl⟩, ho9.mono (by omega)⟩
  · obtain ⟨l5, hl⟩ : ∃ l, l = [(⟨x, y⟩ : Pt), ⟨x + 2 * n, y⟩, ⟨x + 2 * n, y + k⟩, ⟨x + n, y + k⟩, ⟨x + n, y + 2 * k⟩, ⟨x, y + 2 * k⟩] := ⟨_, rfl⟩
    rw [← hl] at R3
    have hl5 : Hid (l5.length = 6) := by rw [Hid, hl]; rfl
    have hR5 := R3
    clear hl R1 R2 R3 R4 hi0 hi1
    have hFa := flip_any b (N + 6) 2 w5 (ho5.2.mono (by omega)) (by omega) (by omega)
    go_wp2_with fail
    refine hFa.mono ?_
    rintro e wc ⟨f1, rfl, hoc⟩
    clear hFa
    have hRc := hR5.s hoc hbw
    replace hoc := ho5.trans hoc
    cases f1 with
    | true =>
      have hRv := reverseN_any 6 w.heap.size (w4.heap.size + 1 + 1) 6 l5 wc hl5.out hRc (by omega) (by omega)
      go_wp2_with fail
      refine hRv.mono ?_
      rintro e w6 ⟨⟨v, rfl⟩, hR6, hg6⟩
      clear hRv
      have ho6 := (hoc.mono (show N + 6 + 1 ≤ N + 8 by omega)).upd (Nat.le_refl _) hbw ⟨_, hg6, fun g' e => by injection e; omega⟩
      have hl6 : Hid (l5.reverse.length = 6) := by rw [Hid, List.length_reverse]; exact hl5.out
      generalize l5.reverse = l6 at *
      clear hoc hRc
      have hFb := flip_any b (N + 8) 8 w6 (ho6.2.mono (by omega)) (by omega) (by omega)
      go_wp2_with fail
      refine hFb.mono ?_
      rintro e w7 ⟨f2, rfl, ho7⟩
      clear hFb
      have hR7 := hR6.s ho7 hbw
      replace ho7 := ho6.trans ho7
      cases f2 with
      | true =>
        have hNx := next_any b (N + 9) 6 w7 (ho7.2.mono (by omega)) (by omega) (by omega)
        go_wp2_with fail
        refine hNx.mono ?_
        rintro e wa ⟨i, rfl, ⟨hi0, hi1⟩, hoa⟩
        clear hNx
        obtain ⟨i, rfl⟩ := Int.eq_ofNat_of_zero_le hi0
        have hRa := hR7.s hoa hbw
        replace hoa := ho7.trans hoa
        have hAp := aPoint_any b (N + 10) wa (hoa.2.mono (by omega)) (by omega)
        go_wp2_with fail
        refine hAp.mono ?_
        rintro e wb ⟨p, rfl, hob⟩
        clear hAp
        have hRb := hRa.s hob hbw
        replace hob := hoa.trans hob
        have hil : i < l6.length := by rw [hl6.out]; omega
        have k0 := (hRb.cell_pt hil).1
        have k1 := (hRb.cell_pt hil).2
        have z0 := hRb.frozen (i * 2)
        have z1 := hRb.frozen (i * 2 + 1)
        have hR8' := hRb.set_pt hil p
        have ho8' := ((hob.mono (show N + 10 + 5 ≤ N + 16 by omega)).set (p := ⟨(w4.heap.size + 1 + 1), i * 2, none⟩) hbw (by simp only; omega) (.int .i64 p.x)).set (p := ⟨(w4.heap.size + 1 + 1), i * 2 + 1, none⟩) hbw (by simp only; omega) (.int .i64 p.y)
        have hl8 : Hid ((l6.set i p).length = 6) := by rw [Hid, List.length_set]; exact hl6.out
        go_upto_region 7 with fail
        generalize l6.set i p = l8 at *
        obtain ⟨w8, hw8⟩ : ∃ v, v = (wb.setCell ⟨(w4.heap.size + 1 + 1), i * 2, none⟩ (.int .i64 p.x)).setCell ⟨(w4.heap.size + 1 + 1), i * 2 + 1, none⟩ (.int .i64 p.y) := ⟨_, rfl⟩
        rw [← hw8] at hR8' ho8' ⊢
        have hR8 := hR8'
        have ho8 := ho8'
        clear hw8 hR8' ho8' k0 k1 z0 z1 hRb hob hRa hoa
        have hFc := flip_any b (N + 16) 30 w8 (ho8.2.mono (by omega)) (by omega) (by omega)
        go_wp2_with fail
        refine hFc.mono ?_
        rintro e w9 ⟨f3, rfl, ho9⟩
        clear hFc
        have hR9 := hR8.s ho9 hbw
        replace ho9 := ho8.trans ho9
        have hgl := (hR9.blk_lt (show blk (some ⟨(w4.heap.size + 1 + 1), 0, none⟩) = some (w4.heap.size + 1 + 1) from rfl)).2
        cases f3 with
        | true =>
          go_wp2_with fail
          go_ret
          exact ⟨(w4.heap.size + 1 + 1), 6, l8.take 2, by rw [List.length_take, hl8.out]; rfl, hR9.sl.take 2, by rw [List.length_take, hl8.out]; decide, by rw [List.length_take, hl8.out]; decide, ⟨by omega, hgl⟩, ho9.mono (by omega)⟩
        | false =>
          go_wp2_with fail
          go_ret
          exact ⟨(w4.heap.size + 1 + 1), 6, l8, by rw [hl8.out]; rfl, hR9.sl, by rw [hl8.out]; decide, by rw [hl8.out]; decide, ⟨by omega, hgl⟩, ho9.mono (by omega)⟩
      | false =>
        obtain ⟨w8, rfl⟩ : ∃ v, v = w7 := ⟨w7, rfl⟩
        have hR8 := hR7
        have ho8 := ho7.mono (show N + 8 + 1 ≤ N + 16 by omega)
        have hl8 := hl6
        generalize l6 = l8 at *
        clear hR7 ho7
        have hFc := flip_any b (N + 16) 30 w8 (ho8.2.mono (by omega)) (by omega) (by omega)
        go_wp2_with fail
        refine hFc.mono ?_
        rintro e w9 ⟨f3, rfl, ho9⟩
        clear hFc
        have hR9 := hR8.s ho9 hbw
        replace ho9 := ho8.trans ho9
        have hgl := (hR9.blk_lt (show blk (some ⟨(w4.heap.size + 1 + 1), 0, none⟩) = some (w4.heap.size + 1 + 1) from rfl)).2
        cases f3 with
        | true =>
          go_wp2_with fail
          go_ret
          exact ⟨(w4.heap.size + 1 + 1), 6, l8.take 2, by rw [List.length_take, hl8.out]; rfl, hR9.sl.take 2, by rw [List.length_take, hl8.out]; decide, by rw [List.length_take, hl8.out]; decide, ⟨by omega, hgl⟩, ho9.mono (by omega)⟩
        | false =>
          go_wp2_with fail
          go_ret
          exact ⟨(w4.heap.size + 1 + 1), 6, l8, by rw [hl8.out]; rfl, hR9.sl, by rw [hl8.out]; decide, by rw [hl8.out]; decide, ⟨by omega, hgl⟩, ho9.mono (by omega)⟩
    | false =>
      obtain ⟨w6, rfl⟩ : ∃ v, v = wc := ⟨wc, rfl⟩
      have hR6 := hRc
      have ho6 := hoc.mono (show N + 6 + 1 ≤ N + 8 by omega)
      have hl6 := hl5
      generalize l5 = l6 at *
      clear hRc hoc
      have hFb := flip_any b (N + 8) 8 w6 (ho6.2.mono (by omega)) (by omega) (by omega)
      go_wp2_with fail
      refine hFb.mono ?_
      rintro e w7 ⟨f2, rfl, ho7⟩
      clear hFb
      have hR7 := hR6.s ho7 hbw
      replace ho7 := ho6.trans ho7
      cases f2 with
      | true =>
        have hNx := next_any b (N + 9) 6 w7 (ho7.2.mono (by omega)) (by omega) (by omega)
        go_wp2_with fail
        refine hNx.mono ?_
        rintro e wa ⟨i, rfl, ⟨hi0, hi1⟩, hoa⟩
        clear hNx
        obtain ⟨i, rfl⟩ := Int.eq_ofNat_of_zero_le hi0
        have hRa := hR7.s hoa hbw
        replace hoa := ho7.trans hoa
        have hAp := aPoint_any b (N + 10) wa (hoa.2.mono (by omega)) (by omega)
        go_wp2_with fail
        refine hAp.mono ?_
        rintro e wb ⟨p, rfl, hob⟩
        clear hAp
        have hRb := hRa.s hob hbw
        replace hob := hoa.trans hob
        have hil : i < l6.length := by rw [hl6.out]; omega
        have k0 := (hRb.cell_pt hil).1
        have k1 := (hRb.cell_pt hil).2
        have z0 := hRb.frozen (i * 2)
        have z1 := hRb.frozen (i * 2 + 1)
        have hR8' := hRb.set_pt hil p
        have ho8' := ((hob.mono (show N + 10 + 5 ≤ N + 16 by omega)).set (p := ⟨(w4.heap.size + 1 + 1), i * 2, none⟩) hbw (by simp only; omega) (.int .i64 p.x)).set (p := ⟨(w4.heap.size + 1 + 1), i * 2 + 1, none⟩) hbw (by simp only; omega) (.int .i64 p.y)
        have hl8 : Hid ((l6.set i p).length = 6) := by rw [Hid, List.length_set]; exact hl6.out
        go_upto_region 7 with fail
        generalize l6.set i p = l8 at *
        obtain ⟨w8, hw8⟩ : ∃ v, v = (wb.setCell ⟨(w4.heap.size + 1 + 1), i * 2, none⟩ (.int .i64 p.x)).setCell ⟨(w4.heap.size + 1 + 1), i * 2 + 1, none⟩ (.int .i64 p.y) := ⟨_, rfl⟩
        rw [← hw8] at hR8' ho8' ⊢
        have hR8 := hR8'
        have ho8 := ho8'
        clear hw8 hR8' ho8' k0 k1 z0 z1 hRb hob hRa hoa
        have hFc := flip_any b (N + 16) 30 w8 (ho8.2.mono (by omega)) (by omega) (by omega)
        go_wp2_with fail
        refine hFc.mono ?_
        rintro e w9 ⟨f3, rfl, ho9⟩
        clear hFc
        have hR9 := hR8.s ho9 hbw
        replace ho9 := ho8.trans ho9
        have hgl := (hR9.blk_lt (show blk (some ⟨(w4.heap.size + 1 + 1), 0, none⟩) = some (w4.heap.size + 1 + 1) from rfl)).2
        cases f3 with
        | true =>
          go_wp2_with fail
          go_ret
          exact ⟨(w4.heap.size + 1 + 1), 6, l8.take 2, by rw [List.length_take, hl8.out]; rfl, hR9.sl.take 2, by rw [List.length_take, hl8.out]; decide, by rw [List.length_take, hl8.out]; decide, ⟨by omega, hgl⟩, ho9.mono (by omega)⟩
        | false =>
          go_wp2_with fail
          go_ret
          exact ⟨(w4.heap.size + 1 + 1), 6, l8, by rw [hl8.out]; rfl, hR9.sl, by rw [hl8.out]; decide, by rw [hl8.out]; decide, ⟨by omega, hgl⟩, ho9.mono (by omega)⟩
      | false =>
        obtain ⟨w8, rfl⟩ : ∃ v, v = w7 := ⟨w7, rfl⟩
        have hR8 := hR7
        have ho8 := ho7.mono (show N + 8 + 1 ≤ N + 16 by omega)
        have hl8 := hl6
        generalize l6 = l8 at *
        clear hR7 ho7
        have hFc := flip_any b (N + 16) 30 w8 (ho8.2.mono (by omega)) (by omega) (by omega)
        go_wp2_with fail
        refine hFc.mono ?_
        rintro e w9 ⟨f3, rfl, ho9⟩
        clear hFc
        have hR9 := hR8.s ho9 hbw
        replace ho9 := ho8.trans ho9
        have hgl := (hR9.blk_lt (show blk (some ⟨(w4.heap.size + 1 + 1), 0, none⟩) = some (w4.heap.size + 1 + 1) from rfl)).2
        cases f3 with
        | true =>
          go_wp2_with fail
          go_ret
          exact ⟨(w4.heap.size + 1 + 1), 6, l8.take 2, by rw [List.length_take, hl8.out]; rfl, hR9.sl.take 2, by rw [List.length_take, hl8.out]; decide, by rw [List.length_take, hl8.out]; decide, ⟨by omega, hgl⟩, ho9.mono (by omega)⟩
        | false =>
          go_wp2_with fail
          go_ret
          exact ⟨(w4.heap.size + 1 + 1), 6, l8, by rw [hl8.out]; rfl, hR9.sl, by rw [hl8.out]; decide, by rw [hl8.out]; decide, ⟨by omega, hgl⟩, ho9.mono (by omega)⟩
  · obtain ⟨l5, hl⟩ : ∃ l, l = [(⟨x, y⟩ : Pt), ⟨x + n, y⟩, ⟨x + 2 * n, y⟩, ⟨x + n, y + k⟩] := ⟨_, rfl⟩
    rw [← hl] at R4
    have hl5 : Hid (l5.length = 4) := by rw [Hid, hl]; rfl
    have hR5 := R4
    clear hl R1 R2 R3 R4 hi0 hi1
    have hFa := flip_any b (N + 6) 2 w5 (ho5.2.mono (by omega)) (by omega) (by omega)
    go_wp2_with fail
    refine hFa.mono ?_
    rintro e wc ⟨f1, rfl, hoc⟩
    clear hFa
    have hRc := hR5.s hoc hbw
    replace hoc := ho5.trans hoc
    cases f1 with
    | true =>
      have hRv := reverseN_any 4 w.heap.size (w4.heap.size + 1 + 1 + 1) 4 l5 wc hl5.out hRc (by omega) (by omega)
      go_wp2_with fail
      refine hRv.mono ?_
      rintro e w6 ⟨⟨v, rfl⟩, hR6, hg6⟩
      clear hRv
      have ho6 := (hoc.mono (show N + 6 + 1 ≤ N + 8 by omega)).upd (Nat.le_refl _) hbw ⟨_, hg6, fun g' e => by injection e; omega⟩
      have hl6 : Hid (l5.reverse.length = 4) := by rw [Hid, List.length_reverse]; exact hl5.out
      generalize l5.reverse = l6 at *
      clear hoc hRc
      have hFb := flip_any b (N + 8) 8 w6 (ho6.2.mono (by omega)) (by omega) (by omega)
      go_wp2_with fail
      refine hFb.mono ?_
      rintro e w7 ⟨f2, rfl, ho7⟩
      clear hFb
      have hR7 := hR6.s ho7 hbw
      replace ho7 := ho6.trans ho7
      cases f2 with
      | true =>
        have hNx := next_any b (N + 9) 4 w7 (ho7.2.mono (by omega)) (by omega) (by omega)
        go_wp2_with fail
        refine hNx.mono ?_
        rintro e wa ⟨i, rfl, ⟨hi0, hi1⟩, hoa⟩
        clear hNx
        obtain ⟨i, rfl⟩ := Int.eq_ofNat_of_zero_le hi0
        have hRa := hR7.s hoa hbw
        replace hoa := ho7.trans hoa
        have hAp := aPoint_any b (N + 10) wa (hoa.2.mono (by omega)) (by omega)
        go_wp2_with fail
        refine hAp.mono ?_
        rintro e wb ⟨p, rfl, hob⟩
        clear hAp
        have hRb := hRa.s hob hbw
        replace hob := hoa.trans hob
        have hil : i < l6.length := by rw [hl6.out]; omega
        have k0 := (hRb.cell_pt hil).1
        have k1 := (hRb.cell_pt hil).2
        have z0 := hRb.frozen (i * 2)
        have z1 := hRb.frozen (i * 2 + 1)
        have hR8' := hRb.set_pt hil p
        have ho8' := ((hob.mono (show N + 10 + 5 ≤ N + 16 by omega)).set (p := ⟨(w4.heap.size + 1 + 1 + 1), i * 2, none⟩) hbw (by simp only; omega) (.int .i64 p.x)).set (p := ⟨(w4.heap.size + 1 + 1 + 1), i * 2 + 1, none⟩) hbw (by simp only; omega) (.int .i64 p.y)
        have hl8 : Hid ((l6.set i p).length = 4) := by rw [Hid, List.length_set]; exact hl6.out
        go_upto_region 7 with fail
        generalize l6.set i p = l8 at *
        obtain ⟨w8, hw8⟩ : ∃ v, v = (wb.setCell ⟨(w4.heap.size + 1 + 1 + 1), i * 2, none⟩ (.int .i64 p.x)).setCell ⟨(w4.heap.size + 1 + 1 + 1), i * 2 + 1, none⟩ (.int .i64 p.y) := ⟨_, rfl⟩
        rw [← hw8] at hR8' ho8' ⊢
        have hR8 := hR8'
        have ho8 := ho8'
        clear hw8 hR8' ho8' k0 k1 z0 z1 hRb hob hRa hoa
        have hFc := flip_any b (N + 16) 30 w8 (ho8.2.mono (by omega)) (by omega) (by omega)
        go_wp2_with fail
        refine hFc.mono ?_
        rintro e w9 ⟨f3, rfl, ho9⟩
        clear hFc
        have hR9 := hR8.s ho9 hbw
        replace ho9 := ho8.trans ho9
        have hgl := (hR9.blk_lt (show blk (some ⟨(w4.heap.size + 1 + 1 + 1), 0, none⟩) = some (w4.heap.size + 1 + 1 + 1) from rfl)).2
        cases f3 with
        | true =>
          go_wp2_with fail
          go_ret
          exact ⟨(w4.heap.size + 1 + 1 + 1), 4, l8.take 2, by rw [List.length_take, hl8.out]; rfl, hR9.sl.take 2, by rw [List.length_take, hl8.out]; decide, by rw [List.length_take, hl8.out]; decide, ⟨by omega, hgl⟩, ho9.mono (by omega)⟩
        | false =>
          go_wp2_with fail
          go_ret
          exact ⟨(w4.heap.size + 1 + 1 + 1), 4, l8, by rw [hl8.out]; rfl, hR9.sl, by rw [hl8.out]; decide, by rw [hl8.out]; decide, ⟨by omega, hgl⟩, ho9.mono (by omega)⟩
      | false =>
        obtain ⟨w8, rfl⟩ : ∃ v, v = w7 := ⟨w7, rfl⟩
        have hR8 := hR7
        have ho8 := ho7.mono (show N + 8 + 1 ≤ N + 16 by omega)
        have hl8 := hl6
        generalize l6 = l8 at *
        clear hR7 ho7
        have hFc := flip_any b (N + 16) 30 w8 (ho8.2.mono (by omega)) (by omega) (by omega)
        go_wp2_with fail
        refine hFc.mono ?_
        rintro e w9 ⟨f3, rfl, ho9⟩
        clear hFc
        have hR9 := hR8.s ho9 hbw
        replace ho9 := ho8.trans ho9
        have hgl := (hR9.blk_lt (show blk (some ⟨(w4.heap.size + 1 + 1 + 1), 0, none⟩) = some (w4.heap.size + 1 + 1 + 1) from rfl)).2
        cases f3 with
        | true =>
          go_wp2_with fail
          go_ret
          exact ⟨(w4.heap.size + 1 + 1 + 1), 4, l8.take 2, by rw [List.length_take, hl8.out]; rfl, hR9.sl.take 2, by rw [List.length_take, hl8.out]; decide, by rw [List.length_take, hl8.out]; decide, ⟨by omega, hgl⟩, ho9.mono (by omega)⟩
        | false =>
          go_wp2_with fail
          go_ret
          exact ⟨(w4.heap.size + 1 + 1 + 1), 4, l8, by rw [hl8.out]; rfl, hR9.sl, by rw [hl8.out]; decide, by rw [hl8.out]; decide, ⟨by omega, hgl⟩, ho9.mono (by omega)⟩
    | false =>
      obtain ⟨w6, rfl⟩ : ∃ v, v = wc := ⟨wc, rfl⟩
      have hR6 := hRc
      have ho6 := hoc.mono (show N + 6 + 1 ≤ N + 8 by omega)
      have hl6 := hl5
      generalize l5 = l6 at *
      clear hRc hoc
      have hFb := flip_any b (N + 8) 8 w6 (ho6.2.mono (by omega)) (by omega) (by omega)
      go_wp2_with fail
      refine hFb.mono ?_
      rintro e w7 ⟨f2, rfl, ho7⟩
      clear hFb
      have hR7 := hR6.s ho7 hbw
      replace ho7 := ho6.trans ho7
      cases f2 with
      | true =>
        have hNx := next_any b (N + 9) 4 w7 (ho7.2.mono (by omega)) (by omega) (by omega)
        go_wp2_with fail
        refine hNx.mono ?_
        rintro e wa ⟨i, rfl, ⟨hi0, hi1⟩, hoa⟩
        clear hNx
        obtain ⟨i, rfl⟩ := Int.eq_ofNat_of_zero_le hi0
        have hRa := hR7.s hoa hbw
        replace hoa := ho7.trans hoa
        have hAp := aPoint_any b (N + 10) wa (hoa.2.mono (by omega)) (by omega)
        go_wp2_with fail
        refine hAp.mono ?_
        rintro e wb ⟨p, rfl, hob⟩
        clear hAp
        have hRb := hRa.s hob hbw
        replace hob := hoa.trans hob
        have hil : i < l6.length := by rw [hl6.out]; omega
        have k0 := (hRb.cell_pt hil).1
        have k1 := (hRb.cell_pt hil).2
        have z0 := hRb.frozen (i * 2)
        have z1 := hRb.frozen (i * 2 + 1)
        have hR8' := hRb.set_pt hil p
        have ho8' := ((hob.mono (show N + 10 + 5 ≤ N + 16 by omega)).set (p := ⟨(w4.heap.size + 1 + 1 + 1), i * 2, none⟩) hbw (by simp only; omega) (.int .i64 p.x)).set (p := ⟨(w4.heap.size + 1 + 1 + 1), i * 2 + 1, none⟩) hbw (by simp only; omega) (.int .i64 p.y)
        have hl8 : Hid ((l6.set i p).length = 4) := by rw [Hid, List.length_set]; exact hl6.out
        go_upto_region 7 with fail
        generalize l6.set i p = l8 at *
        obtain ⟨w8, hw8⟩ : ∃ v, v = (wb.setCell ⟨(w4.heap.size + 1 + 1 + 1), i * 2, none⟩ (.int .i64 p.x)).setCell ⟨(w4.heap.size + 1 + 1 + 1), i * 2 + 1, none⟩ (.int .i64 p.y) := ⟨_, rfl⟩
        rw [← hw8] at hR8' ho8' ⊢
        have hR8 := hR8'
        have ho8 := ho8'
        clear hw8 hR8' ho8' k0 k1 z0 z1 hRb hob hRa hoa
        have hFc := flip_any b (N + 16) 30 w8 (ho8.2.mono (by omega)) (by omega) (by omega)
        go_wp2_with fail
        refine hFc.mono ?_
        rintro e w9 ⟨f3, rfl, ho9⟩
        clear hFc
        have hR9 := hR8.s ho9 hbw
        replace ho9 := ho8.trans ho9
        have hgl := (hR9.blk_lt (show blk (some ⟨(w4.heap.size + 1 + 1 + 1), 0, none⟩) = some (w4.heap.size + 1 + 1 + 1) from rfl)).2
        cases f3 with
        | true =>
          go_wp2_with fail
          go_ret
          exact ⟨(w4.heap.size + 1 + 1 + 1), 4, l8.take 2, by rw [List.length_take, hl8.out]; rfl, hR9.sl.take 2, by rw [List.length_take, hl8.out]; decide, by rw [List.length_take, hl8.out]; decide, ⟨by omega, hgl⟩, ho9.mono (by omega)⟩
        | false =>
          go_wp2_with fail
          go_ret
          exact ⟨(w4.heap.size + 1 + 1 + 1), 4, l8, by rw [hl8.out]; rfl, hR9.sl, by rw [hl8.out]; decide, by rw [hl8.out]; decide, ⟨by omega, hgl⟩, ho9.mono (by omega)⟩
      | false =>
        obtain ⟨w8, rfl⟩ : ∃ v, v = w7 := ⟨w7, rfl⟩
        have hR8 := hR7
        have ho8 := ho7.mono (show N + 8 + 1 ≤ N + 16 by omega)
        have hl8 := hl6
        generalize l6 = l8 at *
        clear hR7 ho7
        have hFc := flip_any b (N + 16) 30 w8 (ho8.2.mono (by omega)) (by omega) (by omega)
        go_wp2_with fail
        refine hFc.mono ?_
        rintro e w9 ⟨f3, rfl, ho9⟩
        clear hFc
        have hR9 := hR8.s ho9 hbw
        replace ho9 := ho8.trans ho9
        have hgl := (hR9.blk_lt (show blk (some ⟨(w4.heap.size + 1 + 1 + 1), 0, none⟩) = some (w4.heap.size + 1 + 1 + 1) from rfl)).2
        cases f3 with
        | true =>
          go_wp2_with fail
          go_ret
          exact ⟨(w4.heap.size + 1 + 1 + 1), 4, l8.take 2, by rw [List.length_take, hl8.out]; rfl, hR9.sl.take 2, by rw [List.length_take, hl8.out]; decide, by rw [List.length_take, hl8.out]; decide, ⟨by omega, hgl⟩, ho9.mono (by omega)⟩
        | false =>
          go_wp2_with fail
          go_ret
          exact ⟨(w4.heap.size + 1 + 1 + 1), 4, l8, by rw [hl8.out]; rfl, hR9.sl, by rw [hl8.out]; decide, by rw [hl8.out]; decide, ⟨by omega, hgl⟩, ho9.mono (by omega)⟩

end Go.Proofs.YtejmbaiioblfeaaGreatDoor

namespace Go.Proofs.YtejmbaiioblfeaaGreatDoor
open Go Go.RowKit Go.Bl

/-- a region of new memory -/
def SReg (b : Nat) (N : Int) (w : World) (e : Ending) (w' : World) : Prop := ∃ (A : Option Addr) (c : Nat) (rs : List (List Pt)), e = .returned (.slice A rs.length c) ∧ OwnN RawS w' w.heap.size 36 A c rs ∧ rs.length ≤ c ∧ rs.length ≤ 3 ∧ (∀ r ∈ rs, r.length ≤ 6) ∧ SOut b N w w'

theorem ringNew {wx : World} {lo g c : Nat} {A : Option Addr} {l : List Pt} (h : Sl wx lo (some ⟨g, 0, none⟩) l) (hc : l.length ≤ c) (hg : lo ≤ g ∧ g < wx.heap.size) (hA : blk A ≠ some g) : NOk RawS wx lo A ⟨some ⟨g, 0, none⟩, l.length, c⟩ l :=
  ⟨⟨rfl, hc, h, fun x hx => by cases hx; exact hg⟩, fun x hx e => by cases hx; exact hA e⟩

theorem flat_small {rs : List (List Pt)} {n : Nat} (h : ∀ r ∈ rs, r.length ≤ n) : (flatK rs rs.length).length ≤ n * rs.length := by
  rw [flatK_all (Nat.le_refl _)]
  induction rs with
  | nil => simp
  | cons r rs ih =>
    have h1 := h r (by simp)
    have h2 := ih (fun x hx => h x (List.mem_cons_of_mem _ hx))
    rw [List.flatten_cons, List.length_append, List.length_cons, Nat.mul_add]
    omega

set_option maxHeartbeats 400000 in
theorem cloneRings_any (A : Option Addr) (c : Nat) (l : List RawS) (w : World) (hl : Sl w 0 A l) (hlen : l.length ≤ 1000000) :
    Calls Tryz.prog 64 #[.slice A l.length c] w fun e w' => ∃ A' c', e = .returned (.slice A' l.length c') ∧ Own w' w.heap.size 36 A' c' l ∧ w.grownBy w' none := by
  obtain ⟨i0, hi, hz, h1, h2⟩ := info_parts info_ring
  have hq := fun W => Lib.run_eql_slice_nil (P := Tryz.prog) W 26 36 A l.length c 0 0 Tryz.underlying26
  rcases A with _ | ad
  · have hl0 : l = [] := by
      rcases Nat.eq_zero_or_pos l.length with h | h
      · exact List.eq_nil_of_length_eq_zero h
      · obtain ⟨g, o, cx, e, _⟩ := hl.at_ (by decide) h
        cases e
    subst hl0
    simp only [List.length_nil] at hq
    go_enter Tryz.func64, Tryz.ntmps64
    go_wp2_with fail
    go_ret
    exact ⟨none, 0, rfl, Own.nil _ _ _, World.grownBy.refl _ _⟩
  · go_enter Tryz.func64, Tryz.ntmps64
    go_wp2_with (at_builtin; refine wpList_push (α := RawS) _ rfl (.tmp 5) (.tmp 6) _ rfl w.heap.size 36 i0 _ 24 Tryz.underlying26 hi hz h1 h2 rfl _ _ _ [] rfl rfl (by exact Own.empty _ _ _ (Nat.le_refl _)) 0 ad _ c l rfl rfl (by exact hl.pure (gr_alloc (World.grownBy.refl _ _) _)) ?c2 ?c3 ?c4 ?_)
    case c2 => simp; omega
    case c3 => simp [maxLen]; omega
    case c4 => simp
    intro A2 c2 w2 hown hup
    go_wp2
    go_ret
    exact ⟨A2, c2, rfl, hown, hup.gr (Nat.le_refl _) (gr_alloc (World.grownBy.refl _ _) _)⟩

set_option maxHeartbeats 8000000 in
set_option maxRecDepth 100000 in
theorem aRegion_any (b : Nat) (N : Int) (w : World) (hs : Strm w b N) (hN : N ≤ 800000000) :
    Calls Tryz.prog 27 #[.pointer (some ⟨b, 0, none⟩)] w (SReg b (N + 100) w) := by
  have hbw := hs.lt
  have hF1 := flip_any b N 2 w hs (by omega) (by omega)
  go_enter Tryz.func27, Tryz.ntmps27
  go_wp2_with fail
  refine hF1.mono ?_
  rintro e wa ⟨f1, rfl, hoa⟩
  clear hF1
  cases f1 with
  | false =>
    obtain ⟨wp, rfl⟩ : ∃ v, v = wa := ⟨wa, rfl⟩
    have hop := hoa.mono (show N + 1 ≤ N + 2 by omega)
    have hOp : OwnN RawS wp w.heap.size 36 none 0 ([] : List (List Pt)) := OwnN.nil _ _ _
    have hlp : Hid (([] : List (List Pt)).length ≤ 1 + 0) := by simp [Hid]
    have h6p : Hid (∀ r ∈ ([] : List (List Pt)), r.length ≤ 6) := fun r hr => by simp at hr
    clear hoa
    have hRg := range_any b (N + 2) 0 2 wp (hop.2.mono (by omega)) (by omega) (by omega) (by omega) (by omega)
    go_wp2_with fail
    refine hRg.mono ?_
    rintro e wq ⟨m, rfl, hm, hoq⟩
    clear hRg
    obtain ⟨m, rfl⟩ := Int.eq_ofNat_of_zero_le hm.1
    have hOq := hOp.s hoq hbw
    replace hoq := hop.trans hoq
    clear hOp hop
    go_wp2_with fail
    go_loopw [3, 26] (fun o i wr => ∃ (k : Nat) (rs : List (List Pt)) (A : Option Addr) (c : Nat), k ≤ m ∧ i = .int .i64 k ∧ o = .slice A rs.length c ∧ OwnN RawS wr w.heap.size 36 A c rs ∧ Hid (rs.length ≤ 1 + k) ∧ Hid (∀ r ∈ rs, r.length ≤ 6) ∧ SOut b (N + 3 + 30 * k) w wr) (fun _ i _ => m - (intOf i).toNat)
    case atStart => exact ⟨0, ([] : List (List Pt)), none, 0, Nat.zero_le _, rfl, rfl, hOq, hlp, h6p, hoq.mono (by omega)⟩
    case round =>
      clear hOq hoq
      obtain ⟨k, rs, A, c, hk, rfl, rfl, hO, hl, h6, ho⟩ := hrel
      by_cases hlt : k < m
      · have hAR := aRing_any b (N + 3 + 30 * k) wr ho.2 (by omega)
        go_wp2_with fail
        refine hAR.mono ?_
        rintro e w1 ⟨g, cr, r, rfl, hr, hrc, hr6, ⟨hg0, hg1⟩, ho1⟩
        clear hAR
        have hO1 := hO.s ho1 hbw
        have hsz := ho.size
        have hsz1 := ho1.size
        have hg0' : w.heap.size ≤ g := by omega
        have hrW := hr.mono hsz
        have hAg : blk A ≠ some g := fun e => by
          obtain ⟨_, hOo, _⟩ := hO
          have := (hOo.blk_lt e).2
          omega
        replace ho1 := ho.trans ho1
        clear hO ho hr
        obtain ⟨raws, hOr, hA2⟩ := hO1
        have hrl := hide hA2.len
        have hrl2 : raws.length ≤ 3 := by have := hl.out; rw [hrl.out]; omega
        rw [← hrl.out]
        have hCl := cloneRings_any A c raws w1 (hOr.sl.mono (Nat.zero_le _)) (by omega)
        obtain ⟨i0, hi, hz, h1, h2⟩ := info_parts info_ring
        go_wp2_with fail
        refine hCl.mono ?_
        rintro e w2 ⟨A2, c2, rfl, hOc, hg2⟩
        clear hCl
        have hszc := hg2.size
        go_wp2_with (at_builtin; refine wpList_pushAt (α := RawS) _ rfl (.tmp 31) (.tmp 33) _ rfl w1.heap.size 36 i0 _ 24 Tryz.underlying26 hi hz h1 h2 rfl _ _ _ raws rfl rfl (by exact hOc.pure (gr_alloc (World.grownBy.refl _ _) _)) 0 ⟨_, 0, none⟩ 1 1 [⟨some ⟨g, 0, none⟩, r.length, cr⟩] rfl rfl (by exact sl_oneAt _ 0 [.slice (some ⟨g, 0, none⟩) r.length cr] _ _ _ (by first | rfl | simp) (Nat.zero_le _) rfl) ?c2 ?c3 ?c4 ?_)
        case c2 => simp; omega
        case c3 => simp [maxLen]; omega
        case c4 => simp; omega
        intro A3 c3 w3 hO3 hG3
        have hga := gr_alloc (World.grownBy.refl w2 none) (.cells #[.slice (some ⟨g, 0, none⟩) r.length cr] 36)
        have hg2a := hg2.t hga
        have hOca := hOc.pure hga
        have hA2g : ∀ q, blk A2 = some q → w1.heap.size ≤ q := fun q e => (hOc.blk_lt e).1
        have hA2c : All2 (NOk RawS (w2.alloc (.cells #[.slice (some ⟨g, 0, none⟩) r.length cr] 36)) w.heap.size A2) raws rs :=
          hA2.imp fun x y hx => ⟨NestOf.gr hx.1 hg2a (fun q _ e => by cases e), fun q hq e => by have h3 := hA2g q e; have h4 := (NestOf.lt hx.1 hq).2; omega⟩
        have hnew := ringNew (A := A2) (hrW.pure hg2a) hrc ⟨hg0', Nat.lt_of_lt_of_le hg1 hg2a.size⟩ (fun e => by have := hA2g g e; omega)
        have hN3 : OwnN RawS w3 w.heap.size 36 A3 c3 (rs ++ [r]) := OwnN.push hA2c (hO3.lower (by omega)) hG3 hnew
        have hq3 : (rs ++ [r]).length = raws.length + 1 := by rw [List.length_append, hrl.out]; rfl
        have hcap3 := hO3.cap
        rw [List.length_append] at hcap3
        have h63 : ∀ x ∈ rs ++ [r], x.length ≤ 6 := fun x hx => by
          rcases List.mem_append.1 hx with h | h
          · exact h6.out x h
          · rw [List.mem_singleton.1 h]; exact hr6
        have hF := regionFault_any A3 c3 (rs ++ [r]) w3 (hN3.sl.mono (Nat.zero_le _)) (Nat.le_trans (flat_small h63) (by rw [hq3]; omega)) (by rw [hq3]; exact hcap3)
        rw [hq3] at hF
        have ho3 := (ho1.pure hg2a).upd (show w.heap.size ≤ w1.heap.size by omega) (by omega) (hG3.upd hOca)
        have hOr3 := (hOr.pure hg2a).ne hG3.1 (fun q hq e => by have h3 := hA2g q e; have h4 := (hOr.blk_lt hq).2; omega)
        have hA3 : All2 (NOk RawS w3 w.heap.size A) raws rs := hA2.imp fun x y hx => ⟨NestOf.gr (NestOf.gr hx.1 hg2a (fun q _ e => by cases e)) hG3.1 (fun q hq e => by have h3 := hA2g q e; have h4 := (NestOf.lt hx.1 hq).2; omega), hx.2⟩
        have hr3 := (hrW.pure hg2a).ne hG3.1 (fun q hq e => by cases hq; have := hA2g _ e; simp only at this; omega)
        have hg3 : g < w3.heap.size := by have h3 := hG3.1.size; have h4 := hg2a.size; omega
        clear hO3 hG3 hOca hA2c hnew hN3 hg2a hOc hga ho1 hrW hOr hA2 hcap3 h63
        obtain ⟨F, hFe⟩ : ∃ F, regF (rs ++ [r]) = F := ⟨_, rfl⟩
        rw [hFe] at hF
        clear hFe hq3
        by_cases hF0 : F = 0
        · subst hF0
          go_wp2_with fail
          refine hF.mono ?_
          rintro e w4 ⟨rfl, hgF⟩
          clear hF
          have hOr4 := hOr3.pure hgF
          have hA4 := hA3.grN hgF
          have hr4 := hr3.pure hgF
          have ho4 := ho3.pure hgF
          have hg4 := Nat.lt_of_lt_of_le hg3 hgF.size
          clear hOr3 hA3 hr3 ho3 hg3
          have hga5 := gr_alloc (World.grownBy.refl w4 none) (.cells #[.slice (some ⟨g, 0, none⟩) r.length cr] 36)
          have hOp5 := hOr4.pure hga5
          have hA5 := hA4.grN hga5
          have hne5 := ringNew (A := A) (hr4.pure hga5) hrc ⟨hg0', Nat.lt_of_lt_of_le hg4 hga5.size⟩ hAg
          have hls := ho4.size
          go_wp2_with (at_builtin; refine wpList_pushAt (α := RawS) _ rfl (.tmp 41) (.tmp 43) _ rfl w.heap.size 36 i0 _ 24 Tryz.underlying26 hi hz h1 h2 rfl _ _ _ raws rfl rfl (by exact hOp5) 0 ⟨_, 0, none⟩ 1 1 [⟨some ⟨g, 0, none⟩, r.length, cr⟩] rfl rfl (by exact sl_oneAt _ 0 [.slice (some ⟨g, 0, none⟩) r.length cr] _ _ _ (by first | rfl | simp) (Nat.zero_le _) rfl) ?d2 ?d3 ?d4 ?_)
          case d2 => simp; omega
          case d3 => simp [maxLen]; omega
          case d4 => simp; omega
          intro A5 c5 w5 hO5 hG5
          have hN5 : OwnN RawS w5 w.heap.size 36 A5 c5 (rs ++ [r]) := OwnN.push hA5 hO5 hG5 hne5
          have ho5 := (ho4.pure hga5).upd (Nat.le_refl _) hbw (hG5.upd hOp5)
          have hl5 : Hid ((rs ++ [r]).length ≤ 1 + (k + 1)) := by rw [Hid, List.length_append]; have := hl.out; simp; omega
          have h65 : Hid (∀ x ∈ rs ++ [r], x.length ≤ 6) := fun x hx => by
            rcases List.mem_append.1 hx with h | h
            · exact h6.out x h
            · rw [List.mem_singleton.1 h]; exact hr6
          have hq5 : Hid (raws.length + 1 = (rs ++ [r]).length) := by rw [Hid, List.length_append, hrl.out]; rfl
          clear hO5 hG5 hOp5 hA5 hne5 hga5
          go_wp2_with fail
          first
            | exact ⟨⟨k + 1, rs ++ [r], A5, c5, by omega, by go_num, by rw [← hq5.out], hN5, hl5, h65, ho5.mono (by push_cast; omega)⟩, by simp [intOf]; omega⟩
            | (go_roundw; (case rel => exact ⟨k + 1, rs ++ [r], A5, c5, by omega, by go_num, by rw [← hq5.out], hN5, hl5, h65, ho5.mono (by push_cast; omega)⟩); (case measure => simp [intOf]; omega))
        · have hb0 : (F == 0) = false := beq_eq_false_iff_ne.2 hF0
          replace hF0 := hide hF0
          go_wp2_with fail
          refine hF.mono ?_
          rintro e w3b ⟨rfl, hgF⟩
          clear hF
          have ho3b := ho3.pure hgF
          have hFl := flip_any b (N + 3 + 30 * k + 20) 8 w3b (ho3b.2.mono (by omega)) (by omega) (by omega)
          go_wp2_with fail
          refine hFl.mono ?_
          rintro e w4 ⟨f, rfl, hof⟩
          clear hFl
          have hOr4 := (hOr3.pure hgF).s hof hbw
          have hA4 := (hA3.grN hgF).sout hof hbw
          have hr4 := (hr3.pure hgF).s hof hbw
          have ho4 := ho3b.trans hof
          have hg4 : g < w4.heap.size := by have h3 := hof.size; have h4 := hgF.size; omega
          clear hOr3 hA3 hr3 ho3 hg3 ho3b hof
          cases f with
          | true =>
            have hga5 := gr_alloc (World.grownBy.refl w4 none) (.cells #[.slice (some ⟨g, 0, none⟩) r.length cr] 36)
            have hOp5 := hOr4.pure hga5
            have hA5 := hA4.grN hga5
            have hne5 := ringNew (A := A) (hr4.pure hga5) hrc ⟨hg0', Nat.lt_of_lt_of_le hg4 hga5.size⟩ hAg
            have hls := ho4.size
            go_wp2_with (at_builtin; refine wpList_pushAt (α := RawS) _ rfl (.tmp 41) (.tmp 43) _ rfl w.heap.size 36 i0 _ 24 Tryz.underlying26 hi hz h1 h2 rfl _ _ _ raws rfl rfl (by exact hOp5) 0 ⟨_, 0, none⟩ 1 1 [⟨some ⟨g, 0, none⟩, r.length, cr⟩] rfl rfl (by exact sl_oneAt _ 0 [.slice (some ⟨g, 0, none⟩) r.length cr] _ _ _ (by first | rfl | simp) (Nat.zero_le _) rfl) ?d2 ?d3 ?d4 ?_)
            case d2 => simp; omega
            case d3 => simp [maxLen]; omega
            case d4 => simp; omega
            intro A5 c5 w5 hO5 hG5
            have hN5 : OwnN RawS w5 w.heap.size 36 A5 c5 (rs ++ [r]) := OwnN.push hA5 hO5 hG5 hne5
            have ho5 := (ho4.pure hga5).upd (Nat.le_refl _) hbw (hG5.upd hOp5)
            have hl5 : Hid ((rs ++ [r]).length ≤ 1 + (k + 1)) := by rw [Hid, List.length_append]; have := hl.out; simp; omega
            have h65 : Hid (∀ x ∈ rs ++ [r], x.length ≤ 6) := fun x hx => by
              rcases List.mem_append.1 hx with h | h
              · exact h6.out x h
              · rw [List.mem_singleton.1 h]; exact hr6
            have hq5 : Hid (raws.length + 1 = (rs ++ [r]).length) := by rw [Hid, List.length_append, hrl.out]; rfl
            clear hO5 hG5 hOp5 hA5 hne5 hga5
            go_wp2_with fail
            first
              | exact ⟨⟨k + 1, rs ++ [r], A5, c5, by omega, by go_num, by rw [← hq5.out], hN5, hl5, h65, ho5.mono (by push_cast; omega)⟩, by simp [intOf]; omega⟩
              | (go_roundw; (case rel => exact ⟨k + 1, rs ++ [r], A5, c5, by omega, by go_num, by rw [← hq5.out], hN5, hl5, h65, ho5.mono (by push_cast; omega)⟩); (case measure => simp [intOf]; omega))
          | false =>
            have hl5 : Hid (rs.length ≤ 1 + (k + 1)) := by rw [Hid]; have := hl.out; omega
            have hN4 : OwnN RawS w4 w.heap.size 36 A c rs := ⟨raws, hOr4, hA4⟩
            clear hOr4 hA4 hr4
            go_wp2_with fail
            first
              | exact ⟨⟨k + 1, rs, A, c, by omega, by go_num, by rw [hrl.out], hN4, hl5, h6, ho4.mono (by push_cast; omega)⟩, by simp [intOf]; omega⟩
              | (go_roundw; (case rel => exact ⟨k + 1, rs, A, c, by omega, by go_num, by rw [hrl.out], hN4, hl5, h6, ho4.mono (by push_cast; omega)⟩); (case measure => simp [intOf]; omega))
      · go_wp2_with fail
        go_ret
        exact ⟨A, c, rs, rfl, hO, by obtain ⟨raws, hOr, hA2⟩ := hO; rw [← hA2.len]; exact hOr.cap, by have := hl.out; omega, h6.out, ho.mono (by omega)⟩
  | true =>
    obtain ⟨i0, hi, hz, h1, h2⟩ := info_parts info_ring
    have hsza := hoa.size
    obtain ⟨R1, hR1⟩ : ∃ R : List Pt, R = [⟨-10, -10⟩, ⟨30, -10⟩, ⟨30, 30⟩, ⟨-10, 30⟩] := ⟨_, rfl⟩
    have hR1l : Hid (R1.length = 4) := by rw [Hid, hR1]; rfl
    have hr1 : Own (wa.alloc (.cells #[.int .i64 (-10), .int .i64 (-10), .int .i64 30, .int .i64 (-10), .int .i64 30, .int .i64 30, .int .i64 (-10), .int .i64 30] 29)) w.heap.size 29 (some ⟨wa.heap.size, 0, none⟩) R1.length R1 := by
      rw [hR1]
      exact own_litP wa w.heap.size _ 29 [(⟨-10, -10⟩ : Pt), ⟨30, -10⟩, ⟨30, 30⟩, ⟨-10, 30⟩] _ rfl (by omega) (by simp [maxLen]) ⟨_, _, rfl, rfl, _, _, rfl, rfl, _, _, rfl, rfl, _, _, rfl, rfl, rfl⟩
    clear hR1
    rw [hR1l.out] at hr1
    go_wp2_with (at_builtin; refine wpList_pushAt (α := RawS) _ rfl (.tmp 7) (.tmp 13) _ rfl w.heap.size 36 i0 _ 24 Tryz.underlying26 hi hz h1 h2 rfl none 0 0 [] rfl rfl (by exact Own.nil _ _ _) 0 ⟨_, 0, none⟩ 1 1 [⟨some ⟨wa.heap.size, 0, none⟩, 4, 4⟩] rfl rfl (by exact sl_oneAt _ 0 [.slice (some ⟨wa.heap.size, 0, none⟩) 4 4] _ _ _ (by first | rfl | simp) (Nat.zero_le _) rfl) ?b2 ?b3 ?b4 ?_)
    case b2 => simp
    case b3 => simp [maxLen]
    case b4 => simp; omega
    intro A5 c5 w5 hO5 hG5
    have hgl := gr_alloc (World.grownBy.refl (wa.alloc (.cells #[.int .i64 (-10), .int .i64 (-10), .int .i64 30, .int .i64 (-10), .int .i64 30, .int .i64 30, .int .i64 (-10), .int .i64 30] 29)) none) (.cells #[.slice (some ⟨wa.heap.size, 0, none⟩) 4 4] 36)
    have hga := gr_trans (gr_alloc (World.grownBy.refl wa none) (.cells #[.int .i64 (-10), .int .i64 (-10), .int .i64 30, .int .i64 (-10), .int .i64 30, .int .i64 30, .int .i64 (-10), .int .i64 30] 29)) hgl
    have hr1b := hr1.pure hgl
    have hn1 := ringNew (A := none) hr1b.sl (show R1.length ≤ 4 by rw [hR1l.out]; decide) ⟨hsza, (hr1b.blk_lt (show blk (some ⟨wa.heap.size, 0, none⟩) = some wa.heap.size from rfl)).2⟩ (by simp [blk])
    rw [hR1l.out] at hn1
    have hN5 : OwnN RawS w5 w.heap.size 36 A5 c5 ([] ++ [R1]) := OwnN.push .nil hO5 hG5 hn1
    rw [List.nil_append] at hN5
    have ho5 := (hoa.pure hga).pure hG5.1
    clear hO5 hG5 hn1 hr1b hgl hga hr1 hoa
    have hF2 := flip_any b (N + 1) 3 w5 ho5.2 (by omega) (by omega)
    have hlp : Hid ([R1].length ≤ 1 + 0) := by simp [Hid]
    have h6p : Hid (∀ r ∈ [R1], r.length ≤ 6) := fun r hr => by rw [List.mem_singleton.1 hr, hR1l.out]; decide
    go_wp2_with fail
    refine hF2.mono ?_
    rintro e wf ⟨f2, rfl, hof⟩
    clear hF2
    have hNf := hN5.s hof hbw
    replace hof := ho5.trans hof
    clear hN5 ho5
    cases f2 with
    | false =>
      obtain ⟨wp, rfl⟩ : ∃ v, v = wf := ⟨wf, rfl⟩
      have hop := hof.mono (show N + 1 + 1 ≤ N + 2 by omega)
      have hOp := hNf
      clear hNf hof
      have hRg := range_any b (N + 2) 0 2 wp (hop.2.mono (by omega)) (by omega) (by omega) (by omega) (by omega)
      go_wp2_with fail
      refine hRg.mono ?_
      rintro e wq ⟨m, rfl, hm, hoq⟩
      clear hRg
      obtain ⟨m, rfl⟩ := Int.eq_ofNat_of_zero_le hm.1
      have hOq := hOp.s hoq hbw
      replace hoq := hop.trans hoq
      clear hOp hop
      go_wp2_with fail
      go_loopw [3, 26] (fun o i wr => ∃ (k : Nat) (rs : List (List Pt)) (A : Option Addr) (c : Nat), k ≤ m ∧ i = .int .i64 k ∧ o = .slice A rs.length c ∧ OwnN RawS wr w.heap.size 36 A c rs ∧ Hid (rs.length ≤ 1 + k) ∧ Hid (∀ r ∈ rs, r.length ≤ 6) ∧ SOut b (N + 3 + 30 * k) w wr) (fun _ i _ => m - (intOf i).toNat)
      case atStart => exact ⟨0, [R1], A5, c5, Nat.zero_le _, rfl, rfl, hOq, hlp, h6p, hoq.mono (by omega)⟩
      case round =>
        clear hOq hoq
        obtain ⟨k, rs, A, c, hk, rfl, rfl, hO, hl, h6, ho⟩ := hrel
        by_cases hlt : k < m
        · have hAR := aRing_any b (N + 3 + 30 * k) wr ho.2 (by omega)
          go_wp2_with fail
          refine hAR.mono ?_
          rintro e w1 ⟨g, cr, r, rfl, hr, hrc, hr6, ⟨hg0, hg1⟩, ho1⟩
          clear hAR
          have hO1 := hO.s ho1 hbw
          have hsz := ho.size
          have hsz1 := ho1.size
          have hg0' : w.heap.size ≤ g := by omega
          have hrW := hr.mono hsz
          have hAg : blk A ≠ some g := fun e => by
            obtain ⟨_, hOo, _⟩ := hO
            have := (hOo.blk_lt e).2
            omega
          replace ho1 := ho.trans ho1
          clear hO ho hr
          obtain ⟨raws, hOr, hA2⟩ := hO1
          have hrl := hide hA2.len
          have hrl2 : raws.length ≤ 3 := by have := hl.out; rw [hrl.out]; omega
          rw [← hrl.out]
          have hCl := cloneRings_any A c raws w1 (hOr.sl.mono (Nat.zero_le _)) (by omega)
          obtain ⟨i0, hi, hz, h1, h2⟩ := info_parts info_ring
          go_wp2_with fail
          refine hCl.mono ?_
          rintro e w2 ⟨A2, c2, rfl, hOc, hg2⟩
          clear hCl
          have hszc := hg2.size
          go_wp2_with (at_builtin; refine wpList_pushAt (α := RawS) _ rfl (.tmp 31) (.tmp 33) _ rfl w1.heap.size 36 i0 _ 24 Tryz.underlying26 hi hz h1 h2 rfl _ _ _ raws rfl rfl (by exact hOc.pure (gr_alloc (World.grownBy.refl _ _) _)) 0 ⟨_, 0, none⟩ 1 1 [⟨some ⟨g, 0, none⟩, r.length, cr⟩] rfl rfl (by exact sl_oneAt _ 0 [.slice (some ⟨g, 0, none⟩) r.length cr] _ _ _ (by first | rfl | simp) (Nat.zero_le _) rfl) ?c2 ?c3 ?c4 ?_)
          case c2 => simp; omega
          case c3 => simp [maxLen]; omega
          case c4 => simp; omega
          intro A3 c3 w3 hO3 hG3
          have hga := gr_alloc (World.grownBy.refl w2 none) (.cells #[.slice (some ⟨g, 0, none⟩) r.length cr] 36)
          have hg2a := hg2.t hga
          have hOca := hOc.pure hga
          have hA2g : ∀ q, blk A2 = some q → w1.heap.size ≤ q := fun q e => (hOc.blk_lt e).1
          have hA2c : All2 (NOk RawS (w2.alloc (.cells #[.slice (some ⟨g, 0, none⟩) r.length cr] 36)) w.heap.size A2) raws rs :=
            hA2.imp fun x y hx => ⟨NestOf.gr hx.1 hg2a (fun q _ e => by cases e), fun q hq e => by have h3 := hA2g q e; have h4 := (NestOf.lt hx.1 hq).2; omega⟩
          have hnew := ringNew (A := A2) (hrW.pure hg2a) hrc ⟨hg0', Nat.lt_of_lt_of_le hg1 hg2a.size⟩ (fun e => by have := hA2g g e; omega)
          have hN3 : OwnN RawS w3 w.heap.size 36 A3 c3 (rs ++ [r]) := OwnN.push hA2c (hO3.lower (by omega)) hG3 hnew
          have hq3 : (rs ++ [r]).length = raws.length + 1 := by rw [List.length_append, hrl.out]; rfl
          have hcap3 := hO3.cap
          rw [List.length_append] at hcap3
          have h63 : ∀ x ∈ rs ++ [r], x.length ≤ 6 := fun x hx => by
            rcases List.mem_append.1 hx with h | h
            · exact h6.out x h
            · rw [List.mem_singleton.1 h]; exact hr6
          have hF := regionFault_any A3 c3 (rs ++ [r]) w3 (hN3.sl.mono (Nat.zero_le _)) (Nat.le_trans (flat_small h63) (by rw [hq3]; omega)) (by rw [hq3]; exact hcap3)
          rw [hq3] at hF
          have ho3 := (ho1.pure hg2a).upd (show w.heap.size ≤ w1.heap.size by omega) (by omega) (hG3.upd hOca)
          have hOr3 := (hOr.pure hg2a).ne hG3.1 (fun q hq e => by have h3 := hA2g q e; have h4 := (hOr.blk_lt hq).2; omega)
          have hA3 : All2 (NOk RawS w3 w.heap.size A) raws rs := hA2.imp fun x y hx => ⟨NestOf.gr (NestOf.gr hx.1 hg2a (fun q _ e => by cases e)) hG3.1 (fun q hq e => by have h3 := hA2g q e; have h4 := (NestOf.lt hx.1 hq).2; omega), hx.2⟩
          have hr3 := (hrW.pure hg2a).ne hG3.1 (fun q hq e => by cases hq; have := hA2g _ e; simp only at this; omega)
          have hg3 : g < w3.heap.size := by have h3 := hG3.1.size; have h4 := hg2a.size; omega
          clear hO3 hG3 hOca hA2c hnew hN3 hg2a hOc hga ho1 hrW hOr hA2 hcap3 h63
          obtain ⟨F, hFe⟩ : ∃ F, regF (rs ++ [r]) = F := ⟨_, rfl⟩
          rw [hFe] at hF
          clear hFe hq3
          by_cases hF0 : F = 0
          · subst hF0
            go_wp2_with fail
            refine hF.mono ?_
            rintro e w4 ⟨rfl, hgF⟩
            clear hF
            have hOr4 := hOr3.pure hgF
            have hA4 := hA3.grN hgF
            have hr4 := hr3.pure hgF
            have ho4 := ho3.pure hgF
            have hg4 := Nat.lt_of_lt_of_le hg3 hgF.size
            clear hOr3 hA3 hr3 ho3 hg3
            have hga5 := gr_alloc (World.grownBy.refl w4 none) (.cells #[.slice (some ⟨g, 0, none⟩) r.length cr] 36)
            have hOp5 := hOr4.pure hga5
            have hA5 := hA4.grN hga5
            have hne5 := ringNew (A := A) (hr4.pure hga5) hrc ⟨hg0', Nat.lt_of_lt_of_le hg4 hga5.size⟩ hAg
            have hls := ho4.size
            go_wp2_with (at_builtin; refine wpList_pushAt (α := RawS) _ rfl (.tmp 41) (.tmp 43) _ rfl w.heap.size 36 i0 _ 24 Tryz.underlying26 hi hz h1 h2 rfl _ _ _ raws rfl rfl (by exact hOp5) 0 ⟨_, 0, none⟩ 1 1 [⟨some ⟨g, 0, none⟩, r.length, cr⟩] rfl rfl (by exact sl_oneAt _ 0 [.slice (some ⟨g, 0, none⟩) r.length cr] _ _ _ (by first | rfl | simp) (Nat.zero_le _) rfl) ?d2 ?d3 ?d4 ?_)
            case d2 => simp; omega
            case d3 => simp [maxLen]; omega
            case d4 => simp; omega
            intro A5 c5 w5 hO5 hG5
            have hN5 : OwnN RawS w5 w.heap.size 36 A5 c5 (rs ++ [r]) := OwnN.push hA5 hO5 hG5 hne5
            have ho5 := (ho4.pure hga5).upd (Nat.le_refl _) hbw (hG5.upd hOp5)
            have hl5 : Hid ((rs ++ [r]).length ≤ 1 + (k + 1)) := by rw [Hid, List.length_append]; have := hl.out; simp; omega
            have h65 : Hid (∀ x ∈ rs ++ [r], x.length ≤ 6) := fun x hx => by
              rcases List.mem_append.1 hx with h | h
              · exact h6.out x h
              · rw [List.mem_singleton.1 h]; exact hr6
            have hq5 : Hid (raws.length + 1 = (rs ++ [r]).length) := by rw [Hid, List.length_append, hrl.out]; rfl
            clear hO5 hG5 hOp5 hA5 hne5 hga5
            go_wp2_with fail
            first
              | exact ⟨⟨k + 1, rs ++ [r], A5, c5, by omega, by go_num, by rw [← hq5.out], hN5, hl5, h65, ho5.mono (by push_cast; omega)⟩, by simp [intOf]; omega⟩
              | (go_roundw; (case rel => exact ⟨k + 1, rs ++ [r], A5, c5, by omega, by go_num, by rw [← hq5.out], hN5, hl5, h65, ho5.mono (by push_cast; omega)⟩); (case measure => simp [intOf]; omega))
          · have hb0 : (F == 0) = false := beq_eq_false_iff_ne.2 hF0
            replace hF0 := hide hF0
            go_wp2_with fail
            refine hF.mono ?_
            rintro e w3b ⟨rfl, hgF⟩
            clear hF
            have ho3b := ho3.pure hgF
            have hFl := flip_any b (N + 3 + 30 * k + 20) 8 w3b (ho3b.2.mono (by omega)) (by omega) (by omega)
            go_wp2_with fail
            refine hFl.mono ?_
            rintro e w4 ⟨f, rfl, hof⟩
            clear hFl
            have hOr4 := (hOr3.pure hgF).s hof hbw
            have hA4 := (hA3.grN hgF).sout hof hbw
            have hr4 := (hr3.pure hgF).s hof hbw
            have ho4 := ho3b.trans hof
            have hg4 : g < w4.heap.size := by have h3 := hof.size; have h4 := hgF.size; omega
            clear hOr3 hA3 hr3 ho3 hg3 ho3b hof
            cases f with
            | true =>
              have hga5 := gr_alloc (World.grownBy.refl w4 none) (.cells #[.slice (some ⟨g, 0, none⟩) r.length cr] 36)
              have hOp5 := hOr4.pure hga5
              have hA5 := hA4.grN hga5
              have hne5 := ringNew (A := A) (hr4.pure hga5) hrc ⟨hg0', Nat.lt_of_lt_of_le hg4 hga5.size⟩ hAg
              have hls := ho4.size
              go_wp2_with (at_builtin; refine wpList_pushAt (α := RawS) _ rfl (.tmp 41) (.tmp 43) _ rfl w.heap.size 36 i0 _ 24 Tryz.underlying26 hi hz h1 h2 rfl _ _ _ raws rfl rfl (by exact hOp5) 0 ⟨_, 0, none⟩ 1 1 [⟨some ⟨g, 0, none⟩, r.length, cr⟩] rfl rfl (by exact sl_oneAt _ 0 [.slice (some ⟨g, 0, none⟩) r.length cr] _ _ _ (by first | rfl | simp) (Nat.zero_le _) rfl) ?d2 ?d3 ?d4 ?_)
              case d2 => simp; omega
              case d3 => simp [maxLen]; omega
              case d4 => simp; omega
              intro A5 c5 w5 hO5 hG5
              have hN5 : OwnN RawS w5 w.heap.size 36 A5 c5 (rs ++ [r]) := OwnN.push hA5 hO5 hG5 hne5
              have ho5 := (ho4.pure hga5).upd (Nat.le_refl _) hbw (hG5.upd hOp5)
              have hl5 : Hid ((rs ++ [r]).length ≤ 1 + (k + 1)) := by rw [Hid, List.length_append]; have := hl.out; simp; omega
              have h65 : Hid (∀ x ∈ rs ++ [r], x.length ≤ 6) := fun x hx => by
                rcases List.mem_append.1 hx with h | h
                · exact h6.out x h
                · rw [List.mem_singleton.1 h]; exact hr6
              have hq5 : Hid (raws.length + 1 = (rs ++ [r]).length) := by rw [Hid, List.length_append, hrl.out]; rfl
              clear hO5 hG5 hOp5 hA5 hne5 hga5
              go_wp2_with fail
              first
                | exact ⟨⟨k + 1, rs ++ [r], A5, c5, by omega, by go_num, by rw [← hq5.out], hN5, hl5, h65, ho5.mono (by push_cast; omega)⟩, by simp [intOf]; omega⟩
                | (go_roundw; (case rel => exact ⟨k + 1, rs ++ [r], A5, c5, by omega, by go_num, by rw [← hq5.out], hN5, hl5, h65, ho5.mono (by push_cast; omega)⟩); (case measure => simp [intOf]; omega))
            | false =>
              have hl5 : Hid (rs.length ≤ 1 + (k + 1)) := by rw [Hid]; have := hl.out; omega
              have hN4 : OwnN RawS w4 w.heap.size 36 A c rs := ⟨raws, hOr4, hA4⟩
              clear hOr4 hA4 hr4
              go_wp2_with fail
              first
                | exact ⟨⟨k + 1, rs, A, c, by omega, by go_num, by rw [hrl.out], hN4, hl5, h6, ho4.mono (by push_cast; omega)⟩, by simp [intOf]; omega⟩
                | (go_roundw; (case rel => exact ⟨k + 1, rs, A, c, by omega, by go_num, by rw [hrl.out], hN4, hl5, h6, ho4.mono (by push_cast; omega)⟩); (case measure => simp [intOf]; omega))
        · go_wp2_with fail
          go_ret
          exact ⟨A, c, rs, rfl, hO, by obtain ⟨raws, hOr, hA2⟩ := hO; rw [← hA2.len]; exact hOr.cap, by have := hl.out; omega, h6.out, ho.mono (by omega)⟩
    | true =>
      obtain ⟨raws, hOf, hAf⟩ := hNf
      have hrl1 : raws.length = 1 := hAf.len
      obtain ⟨g5, rfl, hg5, hg5l⟩ := hOf.shape (by omega)
      obtain ⟨cx, rfl, hcx⟩ := hOf.cell_at (by decide) (show 0 < raws.length by omega)
      have k0 := hcx 0 _ rfl
      simp only [Nat.zero_mul, Nat.zero_add] at k0
      have z0 := hOf.frozen 0
      have hszf := hof.size
      obtain ⟨R2, hR2⟩ : ∃ R : List Pt, R = [⟨-12, -11⟩, ⟨-12, 31⟩, ⟨40, 31⟩, ⟨40, -11⟩] := ⟨_, rfl⟩
      have hR2l : Hid (R2.length = 4) := by rw [Hid, hR2]; rfl
      obtain ⟨wg, hwg⟩ : ∃ v, v = wf.alloc (.cells #[.int .i64 (-12), .int .i64 (-11), .int .i64 (-12), .int .i64 31, .int .i64 40, .int .i64 31, .int .i64 40, .int .i64 (-11)] 29) := ⟨_, rfl⟩
      have hgg : wf.grownBy wg none := by rw [hwg]; exact gr_alloc (World.grownBy.refl _ _) _
      have hr2 : Own wg w.heap.size 29 (some ⟨wf.heap.size, 0, none⟩) R2.length R2 := by
        rw [hR2, hwg]
        exact own_litP wf w.heap.size _ 29 [(⟨-12, -11⟩ : Pt), ⟨-12, 31⟩, ⟨40, 31⟩, ⟨40, -11⟩] _ rfl (by omega) (by simp [maxLen]) ⟨_, _, rfl, rfl, _, _, rfl, rfl, _, _, rfl, rfl, _, _, rfl, rfl, rfl⟩
      have hn2 := ringNew (A := some ⟨g5, 0, none⟩) hr2.sl (Nat.le_refl _) ⟨hszf, (hr2.blk_lt (show blk (some ⟨wf.heap.size, 0, none⟩) = some wf.heap.size from rfl)).2⟩ (fun e => by have e2 : g5 = wf.heap.size := Option.some.inj e; omega)
      rw [hR2l.out] at hn2
      have hgs := gr_set (World.grownBy.refl wg (some g5)) (p := ⟨g5, 0, none⟩) (.inl rfl) (.slice (some ⟨wf.heap.size, 0, none⟩) 4 4)
      have hOs := (hOf.pure hgg).put (i := 0) (j := 0) (x := (⟨some ⟨wf.heap.size, 0, none⟩, 4, 4⟩ : RawS)) (u := .slice (some ⟨wf.heap.size, 0, none⟩) 4 4) (by omega) (by decide) (by rintro c1 rfl; rfl)
      rw [show Enc.sz RawS = 1 from rfl, Nat.zero_mul, Nat.zero_add] at hOs
      have hAs := ((hAf.grN hgg).set_ 0 hn2).grB hgs rfl
      have hNs : OwnN RawS (wg.setCell ⟨g5, 0, none⟩ (.slice (some ⟨wf.heap.size, 0, none⟩) 4 4)) w.heap.size 36 (some ⟨g5, 0, none⟩) c5 ([R1].set 0 R2) := ⟨_, hOs, hAs⟩
      have hos := (hof.pure hgg).set (p := ⟨g5, 0, none⟩) hbw hg5 (.slice (some ⟨wf.heap.size, 0, none⟩) 4 4)
      rw [List.set_cons_zero] at hNs
      have hlp2 : Hid ([R2].length ≤ 1 + 0) := by simp [Hid]
      have h6p2 : Hid (∀ r ∈ [R2], r.length ≤ 6) := fun r hr => by rw [List.mem_singleton.1 hr, hR2l.out]; decide
      replace hrl1 := hide hrl1
      clear hOs hAs hn2 hr2 hOf hAf hgs hR2 hlp h6p hof
      have z0 := hgg.f k0 z0
      have k0 := hgg.k k0
      rw [hwg] at k0 z0
      go_upto_region 6 with fail
      obtain ⟨wp, hwp⟩ : ∃ v, v = wg.setCell ⟨g5, 0, none⟩ (.slice (some ⟨wf.heap.size, 0, none⟩) 4 4) := ⟨_, rfl⟩
      rw [← hwp] at hNs hos
      have hwp2 : (wf.setCell ⟨g5, 0, none⟩ (.slice (some ⟨wf.heap.size, 0, none⟩) 4 4)).alloc (.cells #[.int .i64 (-12), .int .i64 (-11), .int .i64 (-12), .int .i64 31, .int .i64 40, .int .i64 31, .int .i64 40, .int .i64 (-11)] 29) = wp := by
        rw [hwp, hwg]
        symm
        go_simp
      rw [hwp2]
      have hop := hos.mono (show N + 1 + 1 ≤ N + 2 by omega)
      have hOp := hNs
      have hlp := hlp2
      have h6p := h6p2
      clear hwp hwp2 hNs hos hwg k0 z0 hgg
      have hRg := range_any b (N + 2) 0 2 wp (hop.2.mono (by omega)) (by omega) (by omega) (by omega) (by omega)
      go_wp2_with fail
      refine hRg.mono ?_
      rintro e wq ⟨m, rfl, hm, hoq⟩
      clear hRg
      obtain ⟨m, rfl⟩ := Int.eq_ofNat_of_zero_le hm.1
      have hOq := hOp.s hoq hbw
      replace hoq := hop.trans hoq
      clear hOp hop
      go_wp2_with fail
      go_loopw [3, 26] (fun o i wr => ∃ (k : Nat) (rs : List (List Pt)) (A : Option Addr) (c : Nat), k ≤ m ∧ i = .int .i64 k ∧ o = .slice A rs.length c ∧ OwnN RawS wr w.heap.size 36 A c rs ∧ Hid (rs.length ≤ 1 + k) ∧ Hid (∀ r ∈ rs, r.length ≤ 6) ∧ SOut b (N + 3 + 30 * k) w wr) (fun _ i _ => m - (intOf i).toNat)
      case atStart => exact ⟨0, [R2], (some ⟨g5, 0, none⟩), c5, Nat.zero_le _, rfl, rfl, hOq, hlp, h6p, hoq.mono (by omega)⟩
      case round =>
        clear hOq hoq
        obtain ⟨k, rs, A, c, hk, rfl, rfl, hO, hl, h6, ho⟩ := hrel
        by_cases hlt : k < m
        · have hAR := aRing_any b (N + 3 + 30 * k) wr ho.2 (by omega)
          go_wp2_with fail
          refine hAR.mono ?_
          rintro e w1 ⟨g, cr, r, rfl, hr, hrc, hr6, ⟨hg0, hg1⟩, ho1⟩
          clear hAR
          have hO1 := hO.s ho1 hbw
          have hsz := ho.size
          have hsz1 := ho1.size
          have hg0' : w.heap.size ≤ g := by omega
          have hrW := hr.mono hsz
          have hAg : blk A ≠ some g := fun e => by
            obtain ⟨_, hOo, _⟩ := hO
            have := (hOo.blk_lt e).2
            omega
          replace ho1 := ho.trans ho1
          clear hO ho hr
          obtain ⟨raws, hOr, hA2⟩ := hO1
          have hrl := hide hA2.len
          have hrl2 : raws.length ≤ 3 := by have := hl.out; rw [hrl.out]; omega
          rw [← hrl.out]
          have hCl := cloneRings_any A c raws w1 (hOr.sl.mono (Nat.zero_le _)) (by omega)
          obtain ⟨i0, hi, hz, h1, h2⟩ := info_parts info_ring
          go_wp2_with fail
          refine hCl.mono ?_
          rintro e w2 ⟨A2, c2, rfl, hOc, hg2⟩
          clear hCl
          have hszc := hg2.size
          go_wp2_with (at_builtin; refine wpList_pushAt (α := RawS) _ rfl (.tmp 31) (.tmp 33) _ rfl w1.heap.size 36 i0 _ 24 Tryz.underlying26 hi hz h1 h2 rfl _ _ _ raws rfl rfl (by exact hOc.pure (gr_alloc (World.grownBy.refl _ _) _)) 0 ⟨_, 0, none⟩ 1 1 [⟨some ⟨g, 0, none⟩, r.length, cr⟩] rfl rfl (by exact sl_oneAt _ 0 [.slice (some ⟨g, 0, none⟩) r.length cr] _ _ _ (by first | rfl | simp) (Nat.zero_le _) rfl) ?c2 ?c3 ?c4 ?_)
          case c2 => simp; omega
          case c3 => simp [maxLen]; omega
          case c4 => simp; omega
          intro A3 c3 w3 hO3 hG3
          have hga := gr_alloc (World.grownBy.refl w2 none) (.cells #[.slice (some ⟨g, 0, none⟩) r.length cr] 36)
          have hg2a := hg2.t hga
          have hOca := hOc.pure hga
          have hA2g : ∀ q, blk A2 = some q → w1.heap.size ≤ q := fun q e => (hOc.blk_lt e).1
          have hA2c : All2 (NOk RawS (w2.alloc (.cells #[.slice (some ⟨g, 0, none⟩) r.length cr] 36)) w.heap.size A2) raws rs :=
            hA2.imp fun x y hx => ⟨NestOf.gr hx.1 hg2a (fun q _ e => by cases e), fun q hq e => by have h3 := hA2g q e; have h4 := (NestOf.lt hx.1 hq).2; omega⟩
          have hnew := ringNew (A := A2) (hrW.pure hg2a) hrc ⟨hg0', Nat.lt_of_lt_of_le hg1 hg2a.size⟩ (fun e => by have := hA2g g e; omega)
          have hN3 : OwnN RawS w3 w.heap.size 36 A3 c3 (rs ++ [r]) := OwnN.push hA2c (hO3.lower (by omega)) hG3 hnew
          have hq3 : (rs ++ [r]).length = raws.length + 1 := by rw [List.length_append, hrl.out]; rfl
          have hcap3 := hO3.cap
          rw [List.length_append] at hcap3
          have h63 : ∀ x ∈ rs ++ [r], x.length ≤ 6 := fun x hx => by
            rcases List.mem_append.1 hx with h | h
            · exact h6.out x h
            · rw [List.mem_singleton.1 h]; exact hr6
          have hF := regionFault_any A3 c3 (rs ++ [r]) w3 (hN3.sl.mono (Nat.zero_le _)) (Nat.le_trans (flat_small h63) (by rw [hq3]; omega)) (by rw [hq3]; exact hcap3)
          rw [hq3] at hF
          have ho3 := (ho1.pure hg2a).upd (show w.heap.size ≤ w1.heap.size by omega) (by omega) (hG3.upd hOca)
          have hOr3 := (hOr.pure hg2a).ne hG3.1 (fun q hq e => by have h3 := hA2g q e; have h4 := (hOr.blk_lt hq).2; omega)
          have hA3 : All2 (NOk RawS w3 w.heap.size A) raws rs := hA2.imp fun x y hx => ⟨NestOf.gr (NestOf.gr hx.1 hg2a (fun q _ e => by cases e)) hG3.1 (fun q hq e => by have h3 := hA2g q e; have h4 := (NestOf.lt hx.1 hq).2; omega), hx.2⟩
          have hr3 := (hrW.pure hg2a).ne hG3.1 (fun q hq e => by cases hq; have := hA2g _ e; simp only at this; omega)
          have hg3 : g < w3.heap.size := by have h3 := hG3.1.size; have h4 := hg2a.size; omega
          clear hO3 hG3 hOca hA2c hnew hN3 hg2a hOc hga ho1 hrW hOr hA2 hcap3 h63
          obtain ⟨F, hFe⟩ : ∃ F, regF (rs ++ [r]) = F := ⟨_, rfl⟩
          rw [hFe] at hF
          clear hFe hq3
          by_cases hF0 : F = 0
          · subst hF0
            go_wp2_with fail
            refine hF.mono ?_
            rintro e w4 ⟨rfl, hgF⟩
            clear hF
            have hOr4 := hOr3.pure hgF
            have hA4 := hA3.grN hgF
            have hr4 := hr3.pure hgF
            have ho4 := ho3.pure hgF
            have hg4 := Nat.lt_of_lt_of_le hg3 hgF.size
            clear hOr3 hA3 hr3 ho3 hg3
            have hga5 := gr_alloc (World.grownBy.refl w4 none) (.cells #[.slice (some ⟨g, 0, none⟩) r.length cr] 36)
            have hOp5 := hOr4.pure hga5
            have hA5 := hA4.grN hga5
            have hne5 := ringNew (A := A) (hr4.pure hga5) hrc ⟨hg0', Nat.lt_of_lt_of_le hg4 hga5.size⟩ hAg
            have hls := ho4.size
            go_wp2_with (at_builtin; refine wpList_pushAt (α := RawS) _ rfl (.tmp 41) (.tmp 43) _ rfl w.heap.size 36 i0 _ 24 Tryz.underlying26 hi hz h1 h2 rfl _ _ _ raws rfl rfl (by exact hOp5) 0 ⟨_, 0, none⟩ 1 1 [⟨some ⟨g, 0, none⟩, r.length, cr⟩] rfl rfl (by exact sl_oneAt _ 0 [.slice (some ⟨g, 0, none⟩) r.length cr] _ _ _ (by first | rfl | simp) (Nat.zero_le _) rfl) ?d2 ?d3 ?d4 ?_)
            case d2 => simp; omega
            case d3 => simp [maxLen]; omega
            case d4 => simp; omega
            intro A5 c5 w5 hO5 hG5
            have hN5 : OwnN RawS w5 w.heap.size 36 A5 c5 (rs ++ [r]) := OwnN.push hA5 hO5 hG5 hne5
            have ho5 := (ho4.pure hga5).upd (Nat.le_refl _) hbw (hG5.upd hOp5)
            have hl5 : Hid ((rs ++ [r]).length ≤ 1 + (k + 1)) := by rw [Hid, List.length_append]; have := hl.out; simp; omega
            have h65 : Hid (∀ x ∈ rs ++ [r], x.length ≤ 6) := fun x hx => by
              rcases List.mem_append.1 hx with h | h
              · exact h6.out x h
              · rw [List.mem_singleton.1 h]; exact hr6
            have hq5 : Hid (raws.length + 1 = (rs ++ [r]).length) := by rw [Hid, List.length_append, hrl.out]; rfl
            clear hO5 hG5 hOp5 hA5 hne5 hga5
            go_wp2_with fail
            first
              | exact ⟨⟨k + 1, rs ++ [r], A5, c5, by omega, by go_num, by rw [← hq5.out], hN5, hl5, h65, ho5.mono (by push_cast; omega)⟩, by simp [intOf]; omega⟩
              | (go_roundw; (case rel => exact ⟨k + 1, rs ++ [r], A5, c5, by omega, by go_num, by rw [← hq5.out], hN5, hl5, h65, ho5.mono (by push_cast; omega)⟩); (case measure => simp [intOf]; omega))
          · have hb0 : (F == 0) = false := beq_eq_false_iff_ne.2 hF0
            replace hF0 := hide hF0
            go_wp2_with fail
            refine hF.mono ?_
            rintro e w3b ⟨rfl, hgF⟩
            clear hF
            have ho3b := ho3.pure hgF
            have hFl := flip_any b (N + 3 + 30 * k + 20) 8 w3b (ho3b.2.mono (by omega)) (by omega) (by omega)
            go_wp2_with fail
            refine hFl.mono ?_
            rintro e w4 ⟨f, rfl, hof⟩
            clear hFl
            have hOr4 := (hOr3.pure hgF).s hof hbw
            have hA4 := (hA3.grN hgF).sout hof hbw
            have hr4 := (hr3.pure hgF).s hof hbw
            have ho4 := ho3b.trans hof
            have hg4 : g < w4.heap.size := by have h3 := hof.size; have h4 := hgF.size; omega
            clear hOr3 hA3 hr3 ho3 hg3 ho3b hof
            cases f with
            | true =>
              have hga5 := gr_alloc (World.grownBy.refl w4 none) (.cells #[.slice (some ⟨g, 0, none⟩) r.length cr] 36)
              have hOp5 := hOr4.pure hga5
              have hA5 := hA4.grN hga5
              have hne5 := ringNew (A := A) (hr4.pure hga5) hrc ⟨hg0', Nat.lt_of_lt_of_le hg4 hga5.size⟩ hAg
              have hls := ho4.size
              go_wp2_with (at_builtin; refine wpList_pushAt (α := RawS) _ rfl (.tmp 41) (.tmp 43) _ rfl w.heap.size 36 i0 _ 24 Tryz.underlying26 hi hz h1 h2 rfl _ _ _ raws rfl rfl (by exact hOp5) 0 ⟨_, 0, none⟩ 1 1 [⟨some ⟨g, 0, none⟩, r.length, cr⟩] rfl rfl (by exact sl_oneAt _ 0 [.slice (some ⟨g, 0, none⟩) r.length cr] _ _ _ (by first | rfl | simp) (Nat.zero_le _) rfl) ?d2 ?d3 ?d4 ?_)
              case d2 => simp; omega
              case d3 => simp [maxLen]; omega
              case d4 => simp; omega
              intro A5 c5 w5 hO5 hG5
              have hN5 : OwnN RawS w5 w.heap.size 36 A5 c5 (rs ++ [r]) := OwnN.push hA5 hO5 hG5 hne5
              have ho5 := (ho4.pure hga5).upd (Nat.le_refl _) hbw (hG5.upd hOp5)
              have hl5 : Hid ((rs ++ [r]).length ≤ 1 + (k + 1)) := by rw [Hid, List.length_append]; have := hl.out; simp; omega
              have h65 : Hid (∀ x ∈ rs ++ [r], x.length ≤ 6) := fun x hx => by
                rcases List.mem_append.1 hx with h | h
                · exact h6.out x h
                · rw [List.mem_singleton.1 h]; exact hr6
              have hq5 : Hid (raws.length + 1 = (rs ++ [r]).length) := by rw [Hid, List.length_append, hrl.out]; rfl
              clear hO5 hG5 hOp5 hA5 hne5 hga5
              go_wp2_with fail
              first
                | exact ⟨⟨k + 1, rs ++ [r], A5, c5, by omega, by go_num, by rw [← hq5.out], hN5, hl5, h65, ho5.mono (by push_cast; omega)⟩, by simp [intOf]; omega⟩
                | (go_roundw; (case rel => exact ⟨k + 1, rs ++ [r], A5, c5, by omega, by go_num, by rw [← hq5.out], hN5, hl5, h65, ho5.mono (by push_cast; omega)⟩); (case measure => simp [intOf]; omega))
            | false =>
              have hl5 : Hid (rs.length ≤ 1 + (k + 1)) := by rw [Hid]; have := hl.out; omega
              have hN4 : OwnN RawS w4 w.heap.size 36 A c rs := ⟨raws, hOr4, hA4⟩
              clear hOr4 hA4 hr4
              go_wp2_with fail
              first
                | exact ⟨⟨k + 1, rs, A, c, by omega, by go_num, by rw [hrl.out], hN4, hl5, h6, ho4.mono (by push_cast; omega)⟩, by simp [intOf]; omega⟩
                | (go_roundw; (case rel => exact ⟨k + 1, rs, A, c, by omega, by go_num, by rw [hrl.out], hN4, hl5, h6, ho4.mono (by push_cast; omega)⟩); (case measure => simp [intOf]; omega))
        · go_wp2_with fail
          go_ret
          exact ⟨A, c, rs, rfl, hO, by obtain ⟨raws, hOr, hA2⟩ := hO; rw [← hA2.len]; exact hOr.cap, by have := hl.out; omega, h6.out, ho.mono (by omega)⟩

end Go.Proofs.YtejmbaiioblfeaaGreatDoor

namespace Go.Proofs.YtejmbaiioblfeaaGreatDoor
open Go Go.RowKit Go.Bl

/-- the block is not frozen -/
def ThawR (w : World) (A : Option Addr) : Prop := ∀ g, blk A = some g → ∀ j, w.frozen? ⟨g, j, none⟩ = false

theorem ThawR.own {α : Type} [Enc α] {w : World} {lo : Nat} {e : TypeId} {A : Option Addr} {c : Nat} {l : List α} (h : Own w lo e A c l) : ThawR w A := by
  intro g hg j
  rcases A with _ | ⟨b, o, s⟩
  · cases hg
  · obtain ⟨hx, cs, hr, h1, h2⟩ := h
    have h : Own w lo e (some ⟨b, o, s⟩) c l := ⟨hx, cs, hr, h1, h2⟩
    rcases h2 with ⟨hv, _⟩ | ⟨g', cap, cur, hv, _⟩
    · cases hv
    · injection hv with e1 _ _
      injection e1 with e1
      cases e1
      have e2 : b = g := by simpa [blk] using hg
      subst e2
      exact h.frozen j

theorem ThawR.gr {w w' : World} {A : Option Addr} {q : Option Nat} (h : ThawR w A) (hlt : ∀ g, blk A = some g → g < w.heap.size) (hg : w.grownBy w' q) (hne : ∀ g, blk A = some g → q ≠ some g) : ThawR w' A :=
  fun g e j => (World.frozen?_of_block (hg.block g (hlt g e) (fun x => hne g e x.symm))).trans (h g e j)

def NOkR (w : World) (lo : Nat) (A : Option Addr) (r : RawS) (x : List Pt) : Prop := NOk RawS w lo A r x ∧ ThawR w r.A

def OwnR (w : World) (lo : Nat) (e : TypeId) (A : Option Addr) (c : Nat) (l : List (List Pt)) : Prop := ∃ raws : List RawS, Own w lo e A c raws ∧ All2 (NOkR w lo A) raws l

theorem OwnR.toN {w : World} {lo : Nat} {e : TypeId} {A : Option Addr} {c : Nat} {l : List (List Pt)} (h : OwnR w lo e A c l) : OwnN RawS w lo e A c l := by
  obtain ⟨raws, ho, ha⟩ := h
  exact ⟨raws, ho, ha.imp fun _ _ x => x.1⟩

theorem NOkR.gr {w w' : World} {lo : Nat} {A : Option Addr} {r : RawS} {x : List Pt} {q : Option Nat} (h : NOkR w lo A r x) (hg : w.grownBy w' q) (hq : ∀ g, blk r.A = some g → q ≠ some g) : NOkR w' lo A r x :=
  ⟨⟨NestOf.gr h.1.1 hg hq, h.1.2⟩, ThawR.gr h.2 (fun g e => (NestOf.lt h.1.1 (g := g) e).2) hg hq⟩

theorem OwnR.pure {w w' : World} {lo : Nat} {e : TypeId} {A : Option Addr} {c : Nat} {l : List (List Pt)} (h : OwnR w lo e A c l) (hg : w.grownBy w' none) : OwnR w' lo e A c l := by
  obtain ⟨raws, ho, ha⟩ := h
  exact ⟨raws, ho.pure hg, ha.imp fun _ _ x => NOkR.gr x hg (fun g _ e => by cases e)⟩

theorem OwnR.nil (w : World) (lo : Nat) (e : TypeId) : OwnR w lo e none 0 ([] : List (List Pt)) := ⟨[], Own.nil w lo e, .nil⟩

theorem grNR {w w' : World} {lo : Nat} {A : Option Addr} {raws : List RawS} {l : List (List Pt)} (h : All2 (NOkR w lo A) raws l) (hg : w.grownBy w' none) : All2 (NOkR w' lo A) raws l := h.imp fun _ _ x => NOkR.gr x hg (fun g _ e => by cases e)

theorem OwnR.push {w w' : World} {lo : Nat} {e : TypeId} {A A' : Option Addr} {c' : Nat} {raws : List RawS} {l : List (List Pt)} {r : RawS} {x : List Pt} (ha : All2 (NOkR w lo A) raws l) (ho' : Own w' lo e A' c' (raws ++ [r])) (hG : Grew A A' w w') (hx : NOkR w lo A r x) : OwnR w' lo e A' c' (l ++ [x]) := by
  refine ⟨raws ++ [r], ho', (ha.snoc hx).imp fun r x hx => ⟨⟨NestOf.gr hx.1.1 hG.1 fun g hb => hx.1.2 g hb, fun g hb => ?_⟩, ThawR.gr hx.2 (fun g e => (NestOf.lt hx.1.1 (g := g) e).2) hG.1 (fun g hb => hx.1.2 g hb)⟩⟩
  rcases hG.2 with h | h
  · rw [h]; exact hx.1.2 g hb
  · rw [h]; have := (NestOf.lt hx.1.1 (g := g) hb).2; intro e; injection e; omega

/-- the points of a ring in a row may be spoiled -/
def SpR (w : World) (lo : Nat) (A : Option Addr) (r : RawS) : Prop := ∀ j, j < r.n → ∃ g o x, r.A = some ⟨g, o, none⟩ ∧ lo ≤ g ∧ blk A ≠ some g ∧ Cell w g (o + j * 2) (.int .i64 x)

theorem SpR.gr {w w' : World} {lo : Nat} {A : Option Addr} {r : RawS} (h : SpR w lo A r) (hg : w.grownBy w' none) : SpR w' lo A r := fun j hj => by
  obtain ⟨g, o, x, h1, h2, h3, h4⟩ := h j hj
  exact ⟨g, o, x, h1, h2, h3, h4.gr hg (by simp)⟩

theorem SpR.set {w : World} {lo : Nat} {A : Option Addr} {r : RawS} (h : SpR w lo A r) (g' i : Nat) (v : Int) : SpR (w.setCell ⟨g', i, none⟩ (.int .i64 v)) lo A r := fun j hj => by
  obtain ⟨g, o, x, h1, h2, h3, h4⟩ := h j hj
  by_cases e : g' = g ∧ i = o + j * 2
  · obtain ⟨rfl, rfl⟩ := e
    exact ⟨g', o, v, h1, h2, h3, h4.set_ _⟩
  · refine ⟨g, o, x, h1, h2, h3, ?_⟩
    by_cases e2 : g' = g
    · subst e2
      exact h4.set_ne _ (fun e3 => e ⟨rfl, e3⟩)
    · exact h4.gr (gr_set (World.grownBy.refl w (some g')) (p := ⟨g', i, none⟩) (.inl rfl) _) (fun e3 => e2 (by injection e3))

theorem SpR.of {w : World} {lo : Nat} {A : Option Addr} {r : RawS} {x : List Pt} (h : NOkR w lo A r x) : SpR w lo A r := fun j hj => by
  obtain ⟨⟨⟨h1, h2, h4, h5⟩, h6⟩, h7⟩ := h
  have hj2 : j < x.length := by rw [← h1]; exact hj
  obtain ⟨g, o, cx, e, hb0, hb1, rfl, hc⟩ := h4.at_ (by decide) hj2
  have hb : blk r.A = some g := by rw [e]; rfl
  exact ⟨g, o, _, e, hb0, h6 g hb, hc 0 _ rfl, h7 g hb _⟩

end Go.Proofs.YtejmbaiioblfeaaGreatDoor

namespace Go.Proofs.YtejmbaiioblfeaaGreatDoor
open Go Go.RowKit Go.Bl

/-- a region that is right, of new memory -/
def RReg (b : Nat) (N : Int) (w : World) (e : Ending) (w' : World) : Prop := ∃ (A : Option Addr) (c : Nat) (rs : List (List Pt)), e = .returned (.slice A rs.length c) ∧ Sl w' w.heap.size A rs ∧ rs.length ≤ c ∧ regF rs = 0 ∧ SOut b (N + 700) w w'

set_option maxHeartbeats 4000000 in
set_option maxRecDepth 100000 in
theorem rightRegion_any (b : Nat) (N : Int) (w : World) (hs : Strm w b N) (hN : N ≤ 1000000) :
    Calls Tryz.prog 5 #[.pointer (some ⟨b, 0, none⟩)] w (RReg b N w) := by
  have hbw := hs.lt
  go_enter Tryz.func5, Tryz.ntmps5
  go_wp2_with fail
  go_loopw [4] (fun i wr => ∃ k : Nat, k ≤ 6 ∧ i = .int .i64 k ∧ SOut b (N + 100 * k) w wr) (fun i _ => 6 - (intOf i).toNat)
  case atStart => exact ⟨0, by omega, rfl, (SOut.refl hs).mono (by omega)⟩
  case round =>
    obtain ⟨k, hk, rfl, ho⟩ := hrel
    by_cases hlt : k < 6
    · go_wp2_with fail
      refine (aRegion_any b _ wr ho.2 (by omega)).mono ?_
      rintro e w1 ⟨A, c, rs, rfl, hO, hc, hl3, h6, ho1⟩
      have hsz := ho.size
      replace ho := ho.trans ho1
      have hl := hO.sl.mono hsz
      clear ho1 hO
      have hF := regionFault_any A c rs w1 (hl.mono (Nat.zero_le _)) (Nat.le_trans (flat_small h6) (by omega)) hc
      by_cases hz : regF rs = 0
      · have hz2 := hide hz
        rw [hz] at hF
        clear hz
        replace hc := hide hc
        go_wp2_with fail
        refine hF.mono ?_
        rintro e w2 ⟨rfl, h1⟩
        go_wp2_with fail
        go_ret
        exact ⟨A, c, rs, rfl, hl.pure h1, hc.out, hz2.out, (ho.pure h1).mono (by omega)⟩
      · have hb : (regF rs == 0) = false := by simp [hz]
        generalize regF rs = F at *
        clear hz
        go_wp2_with fail
        refine hF.mono ?_
        rintro e w2 ⟨rfl, h1⟩
        go_wp2_with fail
        (go_roundw; (case rel => exact ⟨k + 1, by omega, by go_num, (ho.pure h1).mono (by push_cast; omega)⟩); (case measure => simp [intOf]; omega))
    · go_wp2_with fail
      go_ret
      exact ⟨none, 0, [], rfl, Sl.nil, Nat.le_refl _, by decide, ho.mono (by omega)⟩

set_option maxHeartbeats 1600000 in
theorem equalRing_same (A : Option Addr) (c : Nat) (l : List Pt) (B : Option Addr) (d : Nat) (w : World) (hl : Sl w 0 A l) (hm : Sl w 0 B l) :
    Calls Tryz.prog 23 #[.slice A l.length c, .slice B l.length d] w fun e w' => e = .returned (.bool true) ∧ w.grownBy w' none := by
  have hm1 := hl.1
  unfold maxLen at hm1
  have hb : ((l.length : Int) != l.length) = false := by simp
  go_enter Tryz.func23, Tryz.ntmps23
  go_wp2
  go_loopw [13] (fun i wr => ∃ k : Nat, k ≤ l.length ∧ i = .int .i64 k ∧ w.grownBy wr none) (fun i _ => l.length - (intOf i).toNat)
  case atStart => exact ⟨0, Nat.zero_le _, rfl, World.grownBy.refl _ _⟩
  case round =>
    obtain ⟨k, hk, rfl, hg⟩ := hrel
    by_cases hlt : k < l.length
    · obtain ⟨g, o, cx, rfl, hb0, hb1, rfl, hc⟩ := (hl.pure hg).at_ (by decide) hlt
      have c0 : wr.cell? ⟨g, o + k * 2, none⟩ = some (.int .i64 l[k].x) := hc 0 _ rfl
      have c1 : wr.cell? ⟨g, o + k * 2 + 1, none⟩ = some (.int .i64 l[k].y) := hc 1 _ rfl
      obtain ⟨g2, o2, cx, rfl, hb2, hb3, rfl, hc2⟩ := (hm.pure hg).at_ (by decide) hlt
      have d0 : wr.cell? ⟨g2, o2 + k * 2, none⟩ = some (.int .i64 l[k].x) := hc2 0 _ rfl
      have d1 : wr.cell? ⟨g2, o2 + k * 2 + 1, none⟩ = some (.int .i64 l[k].y) := hc2 1 _ rfl
      clear hc hc2
      have hi0 : (0 : Int) ≤ (k : Int) ∧ (k : Int) < l.length := by omega
      generalize l[k] = q at *
      go_wp2_with fail
      go_quiet (fail)
      go_wp2
      go_roundw
      case rel => exact ⟨k + 1, by omega, by go_num, gr_drewN hg _⟩
      case measure => simp [intOf]; omega
    · go_wp2
      go_ret
      exact ⟨rfl, hg⟩

set_option maxHeartbeats 1600000 in
theorem sameRegion_same (A : Option Addr) (c : Nat) (l : List (List Pt)) (B : Option Addr) (d : Nat) (w : World) (hl : Sl w 0 A l) (hm : Sl w 0 B l) :
    Calls Tryz.prog 15 #[.slice A l.length c, .slice B l.length d] w fun e w' => e = .returned (.bool true) ∧ w.grownBy w' none := by
  have hEF : Calls Tryz.prog 42 #[.slice A l.length c, .slice B l.length d, .func (.func 23) #[] #[]] w fun e w' => e = .returned (.bool true) ∧ w.grownBy w' none := by
    have hm1 := hl.1
    unfold maxLen at hm1
    go_enter Tryz.func42, Tryz.ntmps42
    go_wp2
    go_loopw [17] (fun i wr => ∃ k : Nat, k ≤ l.length ∧ i = .int .i64 k ∧ w.grownBy wr none) (fun i _ => l.length - (intOf i).toNat)
    case atStart => exact ⟨0, Nat.zero_le _, rfl, World.grownBy.refl _ _⟩
    case round =>
      obtain ⟨k, hk, rfl, hg⟩ := hrel
      by_cases hlt : k < l.length
      · obtain ⟨g, o, A', c', rfl, hb1, c0, hcp, hpts⟩ := sl_inner' hl hlt
        obtain ⟨g2, o2, A2, c2', rfl, hb3, d0, hcp2, hpts2⟩ := sl_inner' hm hlt
        replace c0 := hg.k c0
        replace d0 := hg.k d0
        have hi0 : (0 : Int) ≤ (k : Int) ∧ (k : Int) < l.length := by omega
        have hE := equalRing_same A' c' l[k] A2 c2' wr (hpts.pure hg) (hpts2.pure hg)
        replace hcp := hide hcp
        replace hcp2 := hide hcp2
        generalize l[k] = q at *
        go_wp2_with fail
        refine hE.mono ?_
        rintro e w10 ⟨rfl, hg10⟩
        go_wp2_with fail
        (go_roundw; (case rel => exact ⟨k + 1, by omega, by go_num, hg.t hg10⟩); (case measure => simp [intOf]; omega))
      · go_wp2
        go_ret
        exact ⟨rfl, hg⟩
  go_enter Tryz.func15, Tryz.ntmps15
  go_wp2_with fail
  refine hEF.mono ?_
  rintro e w1 ⟨rfl, hg⟩
  go_wp2_with fail
  go_ret
  exact ⟨rfl, hg⟩

end Go.Proofs.YtejmbaiioblfeaaGreatDoor

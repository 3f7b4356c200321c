/- Contracts of functions that this seat's laws reach, each: what one call returns and what it leaves in memory; no condition beyond each theorem's own hypotheses. -/
import Derived.Test.YtjodjdjfagjiaaaMeshU
set_option linter.unusedVariables false
set_option linter.unusedSimpArgs false
namespace Go.Proofs.Ytjodjdjfagjiaaa
open Go.RowKit Go.Bl

theorem _root_.Go.Bl.Cell.grew {α : Type} [Enc α] {w w' : World} {g o lo : Nat} {v : Value} {B B' : Option Addr} {e : TypeId} {c : Nat} {l : List α} (h : Cell w g o v) (hG : Grew B B' w w') (hb : Own w lo e B c l) (hlt : g < lo) : Cell w' g o v :=
  h.gr hG.1 (fun e => by have := hb.blk_lt e; omega)
theorem _root_.Go.Bl.Grew.row {α : Type} [Enc α] {w w1 w2 : World} {lo : Nat} {r : Option Nat} {B B' : Option Addr} {e : TypeId} {c : Nat} {l : List α} (hG : Grew B B' w1 w2) (hb : Own w1 lo e B c l) (h : w.grownBy w1 r) (hlo : w.heap.size ≤ lo) : w.grownBy w2 r :=
  gr_row h hG.1 (fun g e => by have := hb.blk_lt e; omega)

theorem FB_in {f : Fc} (h : FB f) : inF 8 f = true := by
  unfold FB at h
  simp [inF, inI]
  omega
def quadL : List Int := [0, 2, 3, 1, 4, 5, 7, 6, 0, 1, 5, 4, 2, 6, 7, 3, 0, 4, 6, 2, 1, 3, 7, 5]
theorem quad_at : ∀ j, j < 6 → ∃ a b c d : Int, quadL[j * 4]? = some a ∧ quadL[j * 4 + 1]? = some b ∧ quadL[j * 4 + 2]? = some c ∧ quadL[j * 4 + 3]? = some d ∧ FB ⟨a, b, c⟩ ∧ FB ⟨a, c, d⟩ := by
  intro j hj
  have : j = 0 ∨ j = 1 ∨ j = 2 ∨ j = 3 ∨ j = 4 ∨ j = 5 := by omega
  rcases this with rfl | rfl | rfl | rfl | rfl | rfl <;> exact ⟨_, _, _, _, rfl, rfl, rfl, rfl, by decide, by decide⟩
theorem quad_cell (w : World) (t : TypeId) (n : Nat) (a : Int) (h : quadL[n]? = some a) : Cell (w.alloc (.cells (quadL.map (Value.int .i64)).toArray t)) w.heap.size n (.int .i64 a) :=
  Cell.new w _ t n _ (by rw [List.getElem?_map, h]; rfl) _ rfl

set_option maxHeartbeats 4000000 in
set_option maxRecDepth 100000 in
theorem block_any (v : V3) (x y z : Int) (w : World) :
    Calls Try.prog 39 #[.agg #[.int .i64 v.x, .int .i64 v.y, .int .i64 v.z], .int .i64 x, .int .i64 y, .int .i64 z] w (SMesh0 w 8 12) := by
  obtain ⟨W, hW⟩ : ∃ W, W = ((w.alloc (.cells #[.int .i64 v.x, .int .i64 v.y, .int .i64 v.z] 49)).alloc (.cells #[.slice none 0 0, .slice none 0 0] 29)).alloc (.cells #[.slice none 0 0, .slice none 0 0] 29) := ⟨_, rfl⟩
  have hg0 : w.grownBy W none := by rw [hW]; exact (by repeat (first | exact World.grownBy.refl _ _ | assumption | refine gr_alloc ?_ _ | (apply gr_tail; assumption) | refine gr_drewN ?_ _ | refine gr_drew ?_))
  have hWs : W.heap.size = w.heap.size + 1 + 1 + 1 := by rw [hW]; simp
  have b0 : Cell W w.heap.size 0 (.int .i64 v.x) := by rw [hW]; exact ⟨by go_simp, by go_simp⟩
  have b1 : Cell W w.heap.size 1 (.int .i64 v.y) := by rw [hW]; exact ⟨by go_simp, by go_simp⟩
  have b2 : Cell W w.heap.size 2 (.int .i64 v.z) := by rw [hW]; exact ⟨by go_simp, by go_simp⟩
  have r0 : Cell W (w.heap.size + 1) 0 (.slice none 0 0) := by rw [hW]; exact ⟨by go_simp, by go_simp⟩
  have r1 : Cell W (w.heap.size + 1) 1 (.slice none 0 0) := by rw [hW]; exact ⟨by go_simp, by go_simp⟩
  have m0 : Cell W (w.heap.size + 1 + 1) 0 (.slice none 0 0) := by rw [hW]; exact ⟨by go_simp, by go_simp⟩
  have m1 : Cell W (w.heap.size + 1 + 1) 1 (.slice none 0 0) := by rw [hW]; exact ⟨by go_simp, by go_simp⟩
  replace hW := hide hW.symm
  replace hWs := hide hWs
  replace b0 := hide b0
  replace b1 := hide b1
  replace b2 := hide b2
  replace r0 := hide r0
  replace r1 := hide r1
  go_enter Try.func39, Try.ntmps39
  go_wp2_with fail
  rw [hW.out]
  go_loopw [13] (fun i wr => ∃ (k : Nat) (vs : List V3) (A : Option Addr) (c : Nat), k ≤ 8 ∧ i = .int .i64 k ∧ Hid (vs.length = k) ∧ Own wr W.heap.size 49 A c vs ∧ Cell wr (w.heap.size + 1 + 1) 0 (.slice A vs.length c) ∧ Cell wr (w.heap.size + 1 + 1) 1 (.slice none 0 0) ∧ W.grownBy wr (some (w.heap.size + 1 + 1))) (fun i _ => 8 - (intOf i).toNat)
  case atStart => exact ⟨0, [], none, 0, by omega, rfl, rfl, Own.nil _ _ _, m0, m1, World.grownBy.refl _ _⟩
  case round =>
    obtain ⟨k, vs, A, c, hk, rfl, hvl, hown, c0, c1, hg⟩ := hrel
    obtain ⟨c0, f0⟩ := c0
    obtain ⟨c1, f1⟩ := c1
    by_cases hlt : k < 8
    · obtain ⟨d0, _⟩ := b0.out.gr hg (fun e => by injection e with e; omega)
      obtain ⟨d1, _⟩ := b1.out.gr hg (fun e => by injection e with e; omega)
      obtain ⟨d2, _⟩ := b2.out.gr hg (fun e => by injection e with e; omega)
      have hsz := hg.size
      have hvl' : vs.length ≤ 8 := by have := hvl.out; omega
      go_wp2_with (at_builtin; obtain ⟨i0, hi, hz, h1, h2⟩ := info_parts info_v3; refine wpList_pushAt (α := V3) _ rfl (.tmp 17) (.tmp 41) _ rfl W.heap.size 49 i0 _ 24 Try.underlying26 hi hz h1 h2 rfl _ _ _ vs rfl ?c1 (by exact (hown.pure (gr_alloc (World.grownBy.refl _ _) _))) 0 ⟨_, 0, none⟩ 1 1 [⟨_, _, _⟩] rfl rfl (by exact (sl_oneAt _ 0 _ _ _ _ (by first | rfl | simp) (Nat.zero_le _) rfl)) ?c2 ?c3 ?c4 ?_)
      case c1 => rfl
      case c2 => first | omega | (simp; omega)
      case c3 => first | (simp [maxLen]; omega) | (unfold maxLen; omega)
      case c4 => first | omega | (simp; omega)
      intro A5 c5 w5 hown5 hG5
      have hga := gr_alloc hg
      clear d0 d1 d2
      obtain ⟨c0, f0⟩ := (Cell.gr ⟨c0, f0⟩ (gr_alloc (World.grownBy.refl wr none) _) (by simp)).grew hG5 (hown.pure (gr_alloc (World.grownBy.refl wr none) _)) (by have := hWs.out; omega)
      obtain ⟨c1, f1⟩ := (Cell.gr ⟨c1, f1⟩ (gr_alloc (World.grownBy.refl wr none) _) (by simp)).grew hG5 (hown.pure (gr_alloc (World.grownBy.refl wr none) _)) (by have := hWs.out; omega)
      have hg5 := hG5.row (hown.pure (gr_alloc (World.grownBy.refl wr none) _)) (gr_alloc hg _) (Nat.le_refl _)
      go_wp2_with fail
      have hgs := gr_set (World.grownBy.refl w5 (some (w.heap.size + 1 + 1))) (p := ⟨w.heap.size + 1 + 1, 0, none⟩) (.inl rfl) (.slice A5 (vs.length + 1) c5)
      (go_roundw; (case rel => exact ⟨k + 1, _, A5, c5, by omega, by go_num, by have := hvl.out; simp [Hid, this], hown5.ne hgs (fun g e1 e2 => by have := (hown5.blk_lt e1).1; have := hWs.out; injection e2; omega), by have := Cell.set_ ⟨c0, f0⟩ (.slice A5 (vs.length + 1) c5); simpa using this, Cell.set_ne ⟨c1, f1⟩ _ (by decide), gr_trans hg5 hgs⟩); (case measure => simp [intOf]; omega))
    · have hk8 : k = 8 := by omega
      subst hk8
      rw [show ((8 : Nat) : Int) = (8 : Int) from rfl]
      obtain ⟨d0, _⟩ := b0.out.gr hg (fun e => by injection e with e; omega)
      go_wp2_with fail
      obtain ⟨wp, rfl⟩ : ∃ x, x = wr := ⟨wr, rfl⟩
      obtain ⟨Wb, hWb⟩ : ∃ Wb, Wb = wp.alloc (.cells (quadL.map (Value.int .i64)).toArray 107) := ⟨_, rfl⟩
      have hQ := quad_cell wp 107
      rw [← hWb] at hQ
      have hga : wp.grownBy Wb none := by rw [hWb]; exact gr_alloc (World.grownBy.refl _ _) _
      have hWbs : Wb.heap.size = wp.heap.size + 1 := by rw [hWb]; simp
      have e0 := Cell.gr ⟨c0, f0⟩ hga (by simp)
      have e1 := Cell.gr ⟨c1, f1⟩ hga (by simp)
      have hAlt : ∀ g, blk A = some g → W.heap.size ≤ g ∧ g < wp.heap.size := fun g e => hown.blk_lt e
      have hown := hown.pure hga
      replace hQ := hide hQ
      simp only [quadL, List.map_cons, List.map_nil] at hWb
      replace hWb := hide hWb.symm
      have hgW := hg
      replace hg := gr_step hg hga
      replace hAlt := hide hAlt
      replace hWbs := hide hWbs
      have hmb := c0
      clear c0 f0 c1 f1 d0 hga
      rw [hWb.out]
      have hmlt : w.heap.size + 1 + 1 < wp.heap.size := cell_lt hmb
      clear hmb
      go_loopw [53] (fun i wr => ∃ (j : Nat) (fs : List Fc) (B : Option Addr) (d : Nat), j ≤ 6 ∧ i = .int .i64 j ∧ Hid (fs.length = 2 * j) ∧ Own wr Wb.heap.size 67 B d fs ∧ Cell wr (w.heap.size + 1 + 1) 0 (.slice A vs.length c) ∧ Cell wr (w.heap.size + 1 + 1) 1 (.slice B fs.length d) ∧ Hid (∀ f ∈ fs, FB f) ∧ Wb.grownBy wr (some (w.heap.size + 1 + 1))) (fun i _ => 6 - (intOf i).toNat)
      case atStart => exact ⟨0, [], none, 0, by omega, rfl, rfl, Own.nil _ _ _, e0, e1, by intro f hf; simp at hf, World.grownBy.refl _ _⟩
      case round =>
        obtain ⟨j, fs, B, d, hj, rfl, hfl, hownB, c0, c1, hFB, hgq⟩ := hrel
        by_cases hlj : j < 6
        · obtain ⟨q0, q1, q2, q3, x0, x1, x2, x3, y0, y1⟩ := quad_at j hlj
          have x0 := ((hQ.out _ _ x0).gr hgq (fun e => by injection e with e; omega)).1
          have x1 := ((hQ.out _ _ x1).gr hgq (fun e => by injection e with e; omega)).1
          have x2 := ((hQ.out _ _ x2).gr hgq (fun e => by injection e with e; omega)).1
          have x3 := ((hQ.out _ _ x3).gr hgq (fun e => by injection e with e; omega)).1
          have hlq : wp.heap.size < wr.heap.size := cell_lt x0
          have hmq : w.heap.size + 1 + 1 < wr.heap.size := by omega
          replace y0 := hide y0
          replace y1 := hide y1
          obtain ⟨c0, f0⟩ := c0
          obtain ⟨c1, f1⟩ := c1
          have hsz := hgq.size
          have hfl' : fs.length ≤ 12 := by have := hfl.out; omega
          go_wp2_with (at_builtin; obtain ⟨i0, hi, hz, h1, h2⟩ := info_parts info_face; refine wpList_pushAt (α := Fc) _ rfl (.tmp 58) (.tmp 73) _ rfl Wb.heap.size 67 i0 _ 24 Try.underlying27 hi hz h1 h2 rfl _ _ _ fs rfl ?c1 (by exact (hownB.pure (by repeat (first | exact World.grownBy.refl _ _ | assumption | refine gr_alloc ?_ _ | refine gr_drewN ?_ _ | refine gr_drew ?_)))) 0 ⟨_, 0, none⟩ 2 2 [⟨q0, q1, q2⟩, ⟨q0, q2, q3⟩] rfl rfl (by exact (sl_litAt _ 0 _ _ _ _ (by first | rfl | simp) (Nat.zero_le _) (by simp [maxLen]) ⟨_, _, rfl, rfl, _, _, rfl, rfl, rfl⟩)) ?c2 ?c3 ?c4 ?_)
          case c1 => rfl
          case c2 => first | omega | (simp; omega)
          case c3 => first | (simp [maxLen]; omega) | (unfold maxLen; omega)
          case c4 => first | omega | (simp; omega)
          intro A5 c5 w5 hown5 hG5
          have hgm := gr_alloc (gr_alloc (World.grownBy.refl wr none) (.cells #[.int .i64 q0, .int .i64 q1, .int .i64 q2, .int .i64 q3] 107)) (.cells #[.int .i64 q0, .int .i64 q1, .int .i64 q2, .int .i64 q0, .int .i64 q2, .int .i64 q3] 67)
          have hmlo : w.heap.size + 1 + 1 < Wb.heap.size := by have := hWbs.out; omega
          clear x0 x1 x2 x3
          obtain ⟨c0, f0⟩ := (Cell.gr ⟨c0, f0⟩ hgm (by simp)).grew hG5 (hownB.pure hgm) hmlo
          obtain ⟨c1, f1⟩ := (Cell.gr ⟨c1, f1⟩ hgm (by simp)).grew hG5 (hownB.pure hgm) hmlo
          have hg5 := hG5.row (hownB.pure hgm) (gr_step hgq hgm) (Nat.le_refl _)
          have hF5 : Hid (∀ f ∈ fs ++ [⟨q0, q1, q2⟩, ⟨q0, q2, q3⟩], FB f) := by
            intro f hf
            rcases List.mem_append.1 hf with hf | hf
            · exact hFB.out f hf
            · simp only [List.mem_cons, List.not_mem_nil, or_false] at hf
              rcases hf with rfl | rfl
              · exact y0.out
              · exact y1.out
          go_wp2_with fail
          have hgs := gr_set (World.grownBy.refl w5 (some (w.heap.size + 1 + 1))) (p := ⟨w.heap.size + 1 + 1, 1, none⟩) (.inl rfl) (.slice A5 (fs.length + 2) c5)
          (go_roundw; (case rel => exact ⟨j + 1, _, A5, c5, by omega, by go_num, by have := hfl.out; simp [Hid, this]; omega, hown5.ne hgs (fun g e1 e2 => by have := (hown5.blk_lt e1).1; injection e2; omega), Cell.set_ne ⟨c0, f0⟩ _ (by decide), by have := Cell.set_ ⟨c1, f1⟩ (.slice A5 (fs.length + 2) c5); simpa using this, hF5, gr_trans hg5 hgs⟩); (case measure => simp [intOf]; omega))
        · have hj6 : j = 6 := by omega
          subst hj6
          have hgr := gr_trans hg hgq
          obtain ⟨c0, f0⟩ := c0
          obtain ⟨c1, f1⟩ := c1
          obtain ⟨x0, y0⟩ := r0.out.gr hgr (fun e => by injection e with e; omega)
          obtain ⟨x1, y1⟩ := r1.out.gr hgr (fun e => by injection e with e; omega)
          have hne : ¬ w.heap.size + 1 + 1 = w.heap.size + 1 := by omega
          have hne2 : ¬ w.heap.size + 1 = w.heap.size + 1 + 1 := by omega
          go_wp2_with fail
          have hWs' := hWs.out
          have hWbs' := hWbs.out
          have hgs := fun (u : World) (v1 v2 : Value) => gr_set (gr_set (World.grownBy.refl u (some (w.heap.size + 1))) (p := ⟨w.heap.size + 1, 0, none⟩) (.inl rfl) v1) (p := ⟨w.heap.size + 1, 1, none⟩) (.inl rfl) v2
          refine bodyPost_ret (v := .agg #[.slice A vs.length c, .slice B fs.length d]) (by simp [results, Try.results39, go_sem, x0, x1, y0, y1]) rfl ⟨A, c, vs, B, d, fs, rfl, hvl.out, hfl.out, ⟨?_, ?_, ?_⟩, fun f hf => FB_in (hFB.out f hf), ?_⟩
          · exact (((hown.ne hgq (fun g e e2 => by have := hAlt.out g e; injection e2; omega)).ne (hgs _ _ _) (fun g e e2 => by have := hAlt.out g e; injection e2; omega))).lower (by omega)
          · exact (hownB.ne (hgs _ _ _) (fun g e e2 => by have := (hownB.blk_lt e).1; injection e2; omega)).lower (by omega)
          · intro g e e2
            have := hAlt.out g e
            have := (hownB.blk_lt e2).1
            omega
          · exact gr_set (gr_set (gr_row hg0 hgr (fun g e => by injection e; omega)) (.inr (by simp)) _) (.inr (by simp)) _

end Go.Proofs.Ytjodjdjfagjiaaa

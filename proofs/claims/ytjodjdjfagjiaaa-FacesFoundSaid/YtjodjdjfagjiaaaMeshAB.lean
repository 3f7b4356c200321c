/- Contracts of functions that this seat's laws reach, each: what one call returns and what it leaves in memory; no condition beyond each theorem's own hypotheses. -/
import Derived.Test.YtjodjdjfagjiaaaMeshAA
set_option linter.unusedVariables false
set_option linter.unusedSimpArgs false
namespace Go.Proofs.Ytjodjdjfagjiaaa
open Go.RowKit Go.Bl

def BdI (n : Int) : Prop := -9223372036854775808 ≤ n ∧ n ≤ 9223372036854775807
def SFrac (b : Nat) (N : Int) (w : World) (e : Ending) (w' : World) : Prop := ∃ num den : Int, e = .returned (.agg #[.int .i64 num, .int .i64 den]) ∧ BdI num ∧ BdI den ∧ SOut b N w w'
def fr1 : List Int := [0, 1, 1, 2, 1, 1, 3, 2]
def fr2 : List Int := [2, 4, 1, 0, -1, 2, 1001, 1, 1, 1001, -9223372036854775808, 3]
theorem fr1_at : ∀ j, j < 4 → ∃ a b : Int, fr1[j * 2]? = some a ∧ fr1[j * 2 + 1]? = some b ∧ BdI a ∧ BdI b := by
  intro j hj
  have : j = 0 ∨ j = 1 ∨ j = 2 ∨ j = 3 := by omega
  rcases this with rfl | rfl | rfl | rfl <;> exact ⟨_, _, rfl, rfl, ⟨by decide, by decide⟩, ⟨by decide, by decide⟩⟩
theorem fr2_at : ∀ j, j < 6 → ∃ a b : Int, fr2[j * 2]? = some a ∧ fr2[j * 2 + 1]? = some b ∧ BdI a ∧ BdI b := by
  intro j hj
  have : j = 0 ∨ j = 1 ∨ j = 2 ∨ j = 3 ∨ j = 4 ∨ j = 5 := by omega
  rcases this with rfl | rfl | rfl | rfl | rfl | rfl <;> exact ⟨_, _, rfl, rfl, ⟨by decide, by decide⟩, ⟨by decide, by decide⟩⟩
theorem lit_cell (w : World) (l : List Int) (t : TypeId) (n : Nat) (a : Int) (h : l[n]? = some a) : Cell (w.alloc (.cells (l.map (Value.int .i64)).toArray t)) w.heap.size n (.int .i64 a) :=
  Cell.new w _ t n _ (by rw [List.getElem?_map, h]; rfl) _ rfl

set_option maxHeartbeats 4000000 in
set_option maxRecDepth 100000 in
theorem aSlope_any (b : Nat) (N : Int) (w : World) (hs : Strm w b N) (hN : N ≤ 100000000) :
    Calls Try.prog 7 #[.pointer (some ⟨b, 0, none⟩)] w (SFrac b (N + 5) w) := by
  have hbw := hs.lt
  obtain ⟨W, hW⟩ : ∃ W, W = w.alloc (.cells #[.int .i64 0, .int .i64 0] 32) := ⟨_, rfl⟩
  have ho1 : SOut b N w W := by rw [hW]; exact (SOut.refl hs).al _
  have hs1 : W.heap.size = w.heap.size + 1 := by rw [hW]; simp
  have r0 : Cell W w.heap.size 0 (.int .i64 0) := by rw [hW]; exact Cell.new w [.int .i64 0, .int .i64 0] 32 0 _ rfl _ rfl
  have r1 : Cell W w.heap.size 1 (.int .i64 0) := by rw [hW]; exact Cell.new w [.int .i64 0, .int .i64 0] 32 1 _ rfl _ rfl
  have hoW := SOut.refl ho1.2
  have hL1 := lit_cell W fr1 32
  have hL2 := fun wx => lit_cell wx fr2 32
  simp only [fr1, fr2, List.map_cons, List.map_nil] at hL1 hL2
  replace hL1 := hide hL1
  replace hL2 := hide hL2
  replace hW := hide hW.symm
  replace hs1 := hide hs1
  replace r0 := hide r0
  replace r1 := hide r1
  go_enter Try.func7, Try.ntmps7
  go_wp2_with fail
  rw [hW.out]
  refine (next_any b N 4 _ (hoW.2.pure (gr_alloc (World.grownBy.refl _ _) _)) (by omega) (by omega)).mono ?_
  rintro e w2 ⟨r, rfl, ⟨hr0, hr1⟩, ho2⟩
  obtain ⟨r, rfl⟩ := Int.eq_ofNat_of_zero_le hr0
  obtain ⟨p, q, h1, h2, hp, hq⟩ := fr1_at r (by omega)
  have c0 := ((hL1.out _ _ h1).gr ho2.1 (fun e => by injection e; have := hs1.out; omega)).1
  have c1 := ((hL1.out _ _ h2).gr ho2.1 (fun e => by injection e; have := hs1.out; omega)).1
  replace hoW := (hoW.pure (gr_alloc (World.grownBy.refl _ _) _)).trans ho2
  rw [hs1.out] at c0 c1
  replace hp := hide hp
  replace hq := hide hq
  clear h1 h2 ho2 hL1 hW hr0
  have hr1' : r < 4 := by omega
  have hsz2 : w.heap.size + 1 ≤ w2.heap.size := by have := hoW.1.size; have := hs1.out; omega
  have hlt2 := cell_lt c0
  simp only at hlt2
  go_wp2_with fail
  have v0 := Cell.new w2 [.int .i64 p, .int .i64 q] 32 0 _ rfl _ rfl
  have v1 := Cell.new w2 [.int .i64 p, .int .i64 q] 32 1 _ rfl _ rfl
  refine (flip_any b (N + 1) 12 _ (hoW.2.pure (gr_alloc (World.grownBy.refl _ _) _)) (by omega) (by omega)).mono ?_
  rintro e w3 ⟨f, rfl, ho3⟩
  have v0 := v0.gr ho3.1 (fun e => by injection e; omega)
  have v1 := v1.gr ho3.1 (fun e => by injection e; omega)
  replace hoW := (hoW.pure (gr_alloc (World.grownBy.refl _ _) _)).trans ho3
  clear c0 c1 ho3
  cases f with
  | false =>
    obtain ⟨d0, e0⟩ := v0
    obtain ⟨d1, e1⟩ := v1
    obtain ⟨x0, y0⟩ := r0.out.gr hoW.1 (fun e => by injection e; omega)
    obtain ⟨x1, y1⟩ := r1.out.gr hoW.1 (fun e => by injection e; omega)
    have hne1 : ¬ w2.heap.size = w.heap.size := by omega
    have hne2 : ¬ w.heap.size = w2.heap.size := by omega
    go_wp2_with fail
    refine bodyPost_ret (v := .agg #[.int .i64 p, .int .i64 q]) (by simp [results, Try.results7, go_sem, x0, x1, y0, y1, hne1, hne2]) rfl ⟨p, q, rfl, hp.out, hq.out, ?_⟩
    exact (((ho1.trans hoW).mono (by omega)).set hbw (Nat.le_refl _) _).set hbw (Nat.le_refl _) _
  | true =>
    go_wp2_with fail
    refine (next_any b (N + 1 + 1) 6 _ (hoW.2.pure (gr_alloc (World.grownBy.refl _ _) _)) (by omega) (by omega)).mono ?_
    rintro e w4 ⟨r, rfl, ⟨hr0, hr1⟩, ho4⟩
    obtain ⟨r, rfl⟩ := Int.eq_ofNat_of_zero_le hr0
    obtain ⟨p2, q2, h1, h2, hp2, hq2⟩ := fr2_at r (by omega)
    have hb3 := hoW.2.lt
    have hlt3 := v0.lt
    have c0 := ((hL2.out w3 _ _ h1).gr ho4.1 (fun e => by injection e; omega)).1
    have c1 := ((hL2.out w3 _ _ h2).gr ho4.1 (fun e => by injection e; omega)).1
    replace hoW := (hoW.pure (gr_alloc (World.grownBy.refl _ _) _)).trans ho4
    obtain ⟨d0, e0⟩ := (v0.gr (gr_alloc (World.grownBy.refl w3 none) _) (by simp)).gr ho4.1 (fun e => by injection e; omega)
    obtain ⟨d1, e1⟩ := (v1.gr (gr_alloc (World.grownBy.refl w3 none) _) (by simp)).gr ho4.1 (fun e => by injection e; omega)
    replace hp2 := hide hp2
    replace hq2 := hide hq2
    have hr2' : r < 6 := by omega
    clear h1 h2 ho4 v0 v1 hL2 hr0
    obtain ⟨x0, y0⟩ := r0.out.gr hoW.1 (fun e => by injection e; omega)
    obtain ⟨x1, y1⟩ := r1.out.gr hoW.1 (fun e => by injection e; omega)
    have hne1 : ¬ w2.heap.size = w.heap.size := by omega
    have hne2 : ¬ w.heap.size = w2.heap.size := by omega
    go_wp2_with fail
    refine bodyPost_ret (v := .agg #[.int .i64 p2, .int .i64 q2]) (by simp [results, Try.results7, go_sem, x0, x1, y0, y1, hne1, hne2]) rfl ⟨p2, q2, rfl, hp2.out, hq2.out, ?_⟩
    exact (((((ho1.trans hoW).mono (by omega)).set hbw (by simp only; omega) _).set hbw (by simp only; omega) _).set hbw (Nat.le_refl _) _).set hbw (Nat.le_refl _) _

end Go.Proofs.Ytjodjdjfagjiaaa

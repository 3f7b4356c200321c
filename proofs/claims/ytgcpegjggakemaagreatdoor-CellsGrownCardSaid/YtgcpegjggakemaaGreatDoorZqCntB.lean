/- Contracts of functions that this seat's laws reach, each: what one call returns and what it leaves in memory; no condition beyond each theorem's own hypotheses. -/
import Derived.Test.YtgcpegjggakemaaGreatDoorZqMapLen
import Derived.Test.YtgcpegjggakemaaGreatDoorZqCelR
import Derived.Test.YtgcpegjggakemaaGreatDoorZqCelS
import Derived.Test.YtgcpegjggakemaaGreatDoorZqPathA
set_option linter.unusedVariables false
set_option linter.unusedSimpArgs false
namespace Go.Bl
open Go
/-- the four neighbours of a cell -/
def nb4E (p : Pt) : List Pt := [⟨p.x - 1, p.y⟩, ⟨p.x + 1, p.y⟩, ⟨p.x, p.y - 1⟩, ⟨p.x, p.y + 1⟩]
/-- how many of the first j neighbours are not in a set -/
def edJ (S : Int → Int → Bool) (p : Pt) (j : Nat) : Nat := ((nb4E p).take j).countP fun q => !S q.x q.y

def edN (S : Int → Int → Bool) (p : Pt) : Nat := edJ S p 4

def edL (S : Int → Int → Bool) (l : List Pt) : Nat := (l.map (edN S)).sum

theorem nodup_snoc {l : List Pt} {p : Pt} (h : l.Nodup) (hp : p ∉ l) : (l ++ [p]).Nodup := by
  rw [List.nodup_append]
  refine ⟨h, by simp, fun a ha b hb e => ?_⟩
  simp at hb
  subst hb; subst e
  exact hp ha
/-- a range over a set: R are the cells still to come, l those that were there -/
structure RanL (S : Int → Int → Bool) (R : Pt → Prop) (l : List Pt) : Prop where
  nd : l.Nodup
  sub : ∀ p ∈ l, S p.x p.y = true
  rem : ∀ p, R p ↔ S p.x p.y = true ∧ p ∉ l

theorem RanL.start (S : Int → Int → Bool) : RanL S (fun k => S k.x k.y = true) [] := ⟨by simp, fun p h => by simp at h, fun p => by simp⟩

theorem RanL.next {S : Int → Int → Bool} {R : Pt → Prop} {l : List Pt} (h : RanL S R l) {k : Pt} (hk : R k) : RanL S (fun z => R z ∧ z ≠ k) (l ++ [k]) := by
  obtain ⟨h1, h2⟩ := (h.rem k).1 hk
  refine ⟨nodup_snoc h.nd h2, fun p hp => ?_, fun p => ?_⟩
  · rcases List.mem_append.1 hp with hp | hp
    · exact h.sub p hp
    · simp at hp; subst hp; exact h1
  · rw [h.rem p, List.mem_append, List.mem_singleton]
    constructor
    · rintro ⟨⟨a, b⟩, c⟩; exact ⟨a, fun e => e.elim b c⟩
    · rintro ⟨a, b⟩; exact ⟨⟨a, fun e => b (.inl e)⟩, fun e => b (.inr e)⟩

theorem RanL.done {S : Int → Int → Bool} {R : Pt → Prop} {l : List Pt} (h : RanL S R l) (hn : ∀ k, ¬ R k) (p : Pt) : p ∈ l ↔ S p.x p.y = true := by
  constructor
  · exact h.sub p
  · intro hs
    apply Classical.byContradiction
    intro hp
    exact hn p ((h.rem p).2 ⟨hs, hp⟩)

end Go.Bl
namespace Go.Proofs.YtgcpegjggakemaaGreatDoor
open Go Go.RowKit Go.Bl

set_option maxHeartbeats 1000000 in
theorem neighbours_any (x y : Int) (w : World) (hx : -1000000000000 ≤ x ∧ x ≤ 1000000000000) (hy : -1000000000000 ≤ y ∧ y ≤ 1000000000000) :
    Calls Tryz.prog 87 #[.agg #[.int .i64 x, .int .i64 y]] w fun e w' => ∃ A, e = .returned (.slice A 4 4) ∧ Sl w' w.heap.size A (nb4E ⟨x, y⟩) ∧ w.grownBy w' none := by
  obtain ⟨px, hpx⟩ : ∃ q, q = x := ⟨_, rfl⟩
  obtain ⟨py, hpy⟩ : ∃ q, q = y := ⟨_, rfl⟩
  rw [← hpx] at hx ⊢
  rw [← hpy] at hy ⊢
  clear hpx hpy
  go_enter Tryz.func87, Tryz.ntmps87
  go_upto_region 1 with fail
  obtain ⟨w1, hw1⟩ : ∃ x, x = (w).alloc (.cells [.int .i64 px, .int .i64 py].toArray 89) := ⟨_, rfl⟩
  have hg1 : (w).grownBy w1 none := by rw [hw1]; exact gr_alloc (World.grownBy.refl _ _) _
  have hb1 : Box w1 (w).heap.size 89 [.int .i64 px, .int .i64 py] := by rw [hw1]; exact Box.new _ _ _
  have hxs1 := hb1.lt
  rw [← hw1]
  clear hw1
  obtain ⟨x1, hx1⟩ : ∃ x, x = (w).heap.size := ⟨_, rfl⟩
  rw [← hx1] at hb1 hxs1 ⊢
  have hxl1 : (w).heap.size ≤ x1 := by omega
  clear hx1
  obtain ⟨d0, -⟩ := hb1.c 0 rfl
  obtain ⟨d1, -⟩ := hb1.c 1 rfl
  go_wp2_with fail
  go_ret
  exact ⟨_, rfl, sl_lit w1 w.heap.size [.int .i64 (px - 1), .int .i64 py, .int .i64 (px + 1), .int .i64 py, .int .i64 px, .int .i64 (py - 1), .int .i64 px, .int .i64 (py + 1)] _ _ hg1.size (by simp [maxLen, nb4E]) ⟨_, _, rfl, rfl, _, _, rfl, rfl, _, _, rfl, rfl, _, [], rfl, rfl, rfl⟩, hg1.t (gr_alloc (World.grownBy.refl _ _) _)⟩

end Go.Proofs.YtgcpegjggakemaaGreatDoor

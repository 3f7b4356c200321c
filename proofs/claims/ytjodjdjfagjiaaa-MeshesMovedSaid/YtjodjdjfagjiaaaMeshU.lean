/- Contracts of functions that this seat's laws reach, each: what one call returns and what it leaves in memory; no condition beyond each theorem's own hypotheses. -/
import Derived.Test.YtjodjdjfagjiaaaMeshT
set_option linter.unusedVariables false
set_option linter.unusedSimpArgs false
namespace Go.Proofs.Ytjodjdjfagjiaaa
open Go.RowKit Go.Bl

theorem own_litAt {α : Type} [Enc α] [Flat α] (w : World) (lo : Nat) (cs : List Value) (t : TypeId) (l : List α) (g : Nat) (hg : g = w.heap.size) (hlo : lo ≤ w.heap.size) (hm : l.length ≤ maxLen) (hr : Row w lo l cs) :
    Own (w.alloc (.cells cs.toArray t)) lo t (some ⟨g, 0, none⟩) l.length l := by
  subst hg
  have hlen := hr.len
  exact ⟨hm, cs, hr.flat, hlen, .inr ⟨w.heap.size, l.length, cs.toArray, rfl, hlo, heap_alloc_new w _, Nat.le_refl _, hm, by simpa using hlen, by rw [← hlen]; simp⟩⟩

/-- a mesh under construction: two slices of one's own in two blocks -/
def MOwn (w : World) (lo : Nat) (A : Option Addr) (c : Nat) (vs : List V3) (B : Option Addr) (d : Nat) (fs : List Fc) : Prop :=
  Own w lo 49 A c vs ∧ Own w lo 67 B d fs ∧ ∀ g, blk A = some g → blk B ≠ some g
def FB (f : Fc) : Prop := (0 ≤ f.a ∧ f.a ≤ 7) ∧ (0 ≤ f.b ∧ f.b ≤ 7) ∧ 0 ≤ f.c ∧ f.c ≤ 7
instance (f : Fc) : Decidable (FB f) := by unfold FB; infer_instance
def SMesh0 (w : World) (nv nf : Nat) (e : Ending) (w' : World) : Prop := ∃ A c vs B d fs, e = .returned (.agg #[.slice A vs.length c, .slice B fs.length d]) ∧ vs.length = nv ∧ fs.length = nf ∧ MOwn w' w.heap.size A c vs B d fs ∧ (∀ f ∈ fs, inF nv f = true) ∧ w.grownBy w' none

theorem MOwn.gr {w w' : World} {lo : Nat} {A : Option Addr} {c : Nat} {vs : List V3} {B : Option Addr} {d : Nat} {fs : List Fc} (h : MOwn w lo A c vs B d fs) (hg : w.grownBy w' none) : MOwn w' lo A c vs B d fs := ⟨h.1.pure hg, h.2.1.pure hg, h.2.2⟩

set_option maxHeartbeats 2000000 in
set_option maxRecDepth 100000 in
theorem tetra_any (v : V3) (n : Int) (w : World) (hv : Bd 1000000000000000 v) (hn : 0 ≤ n ∧ n ≤ 1000) :
    Calls Try.prog 37 #[.agg #[.int .i64 v.x, .int .i64 v.y, .int .i64 v.z], .int .i64 n] w (SMesh0 w 4 4) := by
  obtain ⟨⟨v1, v2⟩, ⟨v3, v4⟩, v5, v6⟩ := hv
  go_enter Try.func37, Try.ntmps37
  go_wp2_with fail
  refine bodyPost_ret (v := .agg #[.slice (some (⟨w.heap.size + 1 + 1, 0, none⟩ : Addr)) 4 4, .slice (some (⟨w.heap.size + 1 + 1 + 1, 0, none⟩ : Addr)) 4 4]) (by simp [results, Try.results37, go_sem]) rfl ⟨_, _, [v, ⟨v.x + n, v.y, v.z⟩, ⟨v.x, v.y + n, v.z⟩, ⟨v.x, v.y, v.z + n⟩], _, _, pyrF, rfl, rfl, rfl, ⟨?_, ?_, ?_⟩, by decide, (by repeat (first | exact World.grownBy.refl _ _ | assumption | refine gr_alloc ?_ _ | (apply gr_tail; assumption) | refine gr_drewN ?_ _ | refine gr_drew ?_))⟩
  · exact (own_litAt _ _ _ 49 [v, ⟨v.x + n, v.y, v.z⟩, ⟨v.x, v.y + n, v.z⟩, ⟨v.x, v.y, v.z + n⟩] _ (by simp) (by simp; omega) (by simp [maxLen]) ⟨_, _, rfl, rfl, _, _, rfl, rfl, _, _, rfl, rfl, _, _, rfl, rfl, rfl⟩).pure (gr_alloc (World.grownBy.refl _ _) _)
  · exact own_litAt _ _ _ 67 pyrF _ (by simp) (by simp; omega) (by simp [pyrF, maxLen]) ⟨_, _, rfl, rfl, _, _, rfl, rfl, _, _, rfl, rfl, _, _, rfl, rfl, rfl⟩
  · intro g hg h2
    simp only [blk, Option.map_some, Option.some.injEq] at hg h2
    omega

end Go.Proofs.Ytjodjdjfagjiaaa

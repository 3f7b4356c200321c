/- Contracts of functions that this seat's laws reach, each: what one call returns and what it leaves in memory; no condition beyond each theorem's own hypotheses. -/
import Derived.Test.YtbpkkgeedkegcaaGreatDoorZqMeshCD
import Derived.Test.YtbpkkgeedkegcaaGreatDoorZqJm
set_option linter.unusedVariables false
set_option linter.unusedSimpArgs false
namespace Go.Proofs.YtbpkkgeedkegcaaGreatDoor
open Go.RowKit Go.Bl

/-- a face whose vertices lie n further on -/
def shF (n : Nat) (f : Fc) : Fc := ⟨f.a + n, f.b + n, f.c + n⟩
/-- two meshes as one -/
def joinM (a b : MeshV) : MeshV := ⟨a.vs ++ b.vs, a.fs ++ b.fs.map (shF a.vs.length)⟩

theorem right_in {vs : List V3} {fs : List Fc} (h : meshF ⟨vs, fs⟩ = 0) : ∀ f ∈ fs, inF vs.length f = true := by
  obtain ⟨-, h1, h2, h3, -⟩ := right_bd h
  have hL : ¬ (1000 < vs.length ∨ 1000 < fs.length) := by omega
  by_cases hf : vs.any farV = true
  · rw [meshF_far h3 hL hf] at h; cases h
  · by_cases hc : facesF vs fs = 0
    · exact fun f hm => faceF_in (facesF_mem hc f hm)
    · rw [meshF_face h3 hL (by simpa using hf) hc] at h; exact absurd h hc

/-- the faces behind k rounds -/
def jnK (n : Nat) (fs fs2 : List Fc) (k : Nat) : List Fc := fs ++ (fs2.take k).map (shF n)

theorem jnK_len {n : Nat} {fs fs2 : List Fc} {k : Nat} (h : k ≤ fs2.length) : (jnK n fs fs2 k).length = fs.length + k := by
  unfold jnK; rw [List.length_append, List.length_map, List.length_take, Nat.min_eq_left h]

theorem jnK_zero (n : Nat) (fs fs2 : List Fc) : jnK n fs fs2 0 = fs := by simp [jnK]

theorem jnK_all (vs vs2 : List V3) (fs fs2 : List Fc) : jnK vs.length fs fs2 fs2.length = (joinM ⟨vs, fs⟩ ⟨vs2, fs2⟩).fs := by simp [jnK, joinM]

theorem jnK_snoc {n : Nat} {fs fs2 : List Fc} {k : Nat} (h : k < fs2.length) : jnK n fs fs2 (k + 1) = jnK n fs fs2 k ++ [shF n fs2[k]] := by
  unfold jnK; rw [take_snoc h, List.map_append, List.append_assoc]; rfl
/-- what stands behind the making of the joined mesh -/
def JnR (W : World) (la lb : List V3) (lf : List Fc) (v : Value) (wx : World) : Prop := ∃ (g : Nat) (A5 : Option Addr) (c5 : Nat) (B8 : Option Addr) (d8 : Nat), v = .pointer (some ⟨g, 0, none⟩) ∧ W.heap.size ≤ g ∧ Box wx g 29 [.slice A5 (la.length + lb.length) c5, .slice B8 lf.length d8] ∧ Own wx W.heap.size 47 A5 c5 (la ++ lb) ∧ Own wx W.heap.size 54 B8 d8 lf ∧ W.grownBy wx none

theorem JnR.fin {W wx : World} {g : Nat} {A5 B8 : Option Addr} {c5 d8 : Nat} {la lb : List V3} {lf : List Fc} {u v : Value} (hg : W.heap.size ≤ g) (hb : Box wx g 29 [u, v]) (ho5 : Own wx W.heap.size 47 A5 c5 (la ++ lb)) (ho8 : Own wx W.heap.size 54 B8 d8 lf) (hW : W.grownBy wx none) :
    JnR W la lb lf (.pointer (some ⟨g, 0, none⟩)) ((wx.setCell ⟨g, 0, none⟩ (.slice A5 (la.length + lb.length) c5)).setCell ⟨g, 1, none⟩ (.slice B8 lf.length d8)) :=
  ⟨g, A5, c5, B8, d8, rfl, hg, (hb.set_ 0 _ (by simp)).set_ 1 _ (by simp), (ho5.set_other _ (hb.ne_own ho5 (by decide))).set_other _ (hb.ne_own ho5 (by decide)), (ho8.set_other _ (hb.ne_own ho8 (by decide))).set_other _ (hb.ne_own ho8 (by decide)), gr_set (gr_set hW (.inr hg) _) (.inr hg) _⟩

end Go.Proofs.YtbpkkgeedkegcaaGreatDoor

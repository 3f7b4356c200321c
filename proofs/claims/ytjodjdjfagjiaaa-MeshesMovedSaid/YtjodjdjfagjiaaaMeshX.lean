/- Contracts of functions that this seat's laws reach, each: what one call returns and what it leaves in memory; no condition beyond each theorem's own hypotheses. -/
import Derived.Test.YtjodjdjfagjiaaaMeshW
set_option linter.unusedVariables false
set_option linter.unusedSimpArgs false
namespace Go.Proofs.Ytjodjdjfagjiaaa
open Go.RowKit Go.Bl

/-- a mesh in memory while it is spoiled: the box gm, the vertices in gA, the faces in gB -/
structure Pl where
  b : Nat
  gm : Nat
  gA : Nat
  gB : Nat
  cA : Nat
  nv : Nat
  cB : Nat
  nf : Nat
  lo : Nat
  lo2 : Nat
def Pl.ok (p : Pl) (w0 : World) : Prop := p.b < w0.heap.size ∧ w0.heap.size ≤ p.gm ∧ p.gm < p.lo ∧ p.lo ≤ p.gA ∧ p.lo ≤ p.gB ∧ p.gA ≠ p.gB ∧ p.gA < p.lo2 ∧ p.gB < p.lo2 ∧ p.nv ≤ 1000 ∧ p.nf ≤ 1000
def SpI (p : Pl) (R : Fc → Prop) (w0 : World) (N : Int) (w : World) : Prop :=
  SOut p.b N w0 w ∧ p.lo2 ≤ w.heap.size ∧ Cell w p.gm 0 (.slice (some ⟨p.gA, 0, none⟩) p.nv p.cA) ∧ Cell w p.gm 1 (.slice (some ⟨p.gB, 0, none⟩) p.nf p.cB) ∧
    (∃ vs : List V3, vs.length = p.nv ∧ Own w p.lo 49 (some ⟨p.gA, 0, none⟩) p.cA vs) ∧ ∃ fs : List Fc, fs.length = p.nf ∧ (∀ f ∈ fs, R f) ∧ Own w p.lo 67 (some ⟨p.gB, 0, none⟩) p.cB fs
/-- what may be written -/
def SpW (p : Pl) : Nat → Prop := fun g => g = p.b ∨ g = p.gm ∨ g = p.gA ∨ g = p.gB

section
variable {p : Pl} {R : Fc → Prop} {w0 w w' : World} {N : Int}
theorem SpI.pure (h : SpI p R w0 N w) (hg : w.grownBy w' none) : SpI p R w0 N w' := by
  obtain ⟨h1, h2, h3, h4, ⟨vs, h5, h6⟩, fs, h7, h8, h9⟩ := h
  exact ⟨h1.pure hg, Nat.le_trans h2 hg.size, h3.gr hg (by simp), h4.gr hg (by simp), ⟨vs, h5, h6.pure hg⟩, fs, h7, h8, h9.pure hg⟩
theorem SpI.st (h : SpI p R w0 N w) (hp : p.ok w0) {N' : Int} (hs : SOut p.b N' w w') : SpI p R w0 N' w' := by
  obtain ⟨h1, h2, h3, h4, ⟨vs, h5, h6⟩, fs, h7, h8, h9⟩ := h
  obtain ⟨p1, p2, p3, p4, p5, p6, p7, p8, _⟩ := hp
  exact ⟨h1.trans hs, Nat.le_trans h2 hs.size, h3.gr hs.1 (fun e => by injection e; omega), h4.gr hs.1 (fun e => by injection e; omega), ⟨vs, h5, h6.s hs (by omega)⟩, fs, h7, h8, h9.s hs (by omega)⟩
theorem SpI.face (h : SpI p R w0 N w) {j : Nat} (hj : j < p.nf) : ∃ f : Fc, R f ∧ w.cell? ⟨p.gB, j * 3, none⟩ = some (.int .i64 f.a) ∧ w.cell? ⟨p.gB, j * 3 + 1, none⟩ = some (.int .i64 f.b) ∧ w.cell? ⟨p.gB, j * 3 + 2, none⟩ = some (.int .i64 f.c) := by
  obtain ⟨h1, h2, h3, h4, ⟨vs, h5, h6⟩, fs, h7, h8, h9⟩ := h
  obtain ⟨c1, rfl, hc⟩ := h9.cell_at (by decide) (i := j) (by omega)
  exact ⟨_, h8 _ (List.getElem_mem _), hc 0 _ rfl, hc 1 _ rfl, hc 2 _ rfl⟩
theorem SpI.vert (h : SpI p R w0 N w) {j : Nat} (hj : j < p.nv) : ∃ f : V3, w.cell? ⟨p.gA, j * 3, none⟩ = some (.int .i64 f.x) ∧ w.cell? ⟨p.gA, j * 3 + 1, none⟩ = some (.int .i64 f.y) ∧ w.cell? ⟨p.gA, j * 3 + 2, none⟩ = some (.int .i64 f.z) := by
  obtain ⟨h1, h2, h3, h4, ⟨vs, h5, h6⟩, fs, h7, h8, h9⟩ := h
  obtain ⟨c1, rfl, hc⟩ := h6.cell_at (by decide) (i := j) (by omega)
  exact ⟨_, hc 0 _ rfl, hc 1 _ rfl, hc 2 _ rfl⟩
theorem SpI.fzB (h : SpI p R w0 N w) (j : Nat) : w.frozen? ⟨p.gB, j, none⟩ = false := by
  obtain ⟨h1, h2, h3, h4, ⟨vs, h5, h6⟩, fs, h7, h8, h9⟩ := h
  exact h9.frozen j
theorem SpI.fzA (h : SpI p R w0 N w) (j : Nat) : w.frozen? ⟨p.gA, j, none⟩ = false := by
  obtain ⟨h1, h2, h3, h4, ⟨vs, h5, h6⟩, fs, h7, h8, h9⟩ := h
  exact h6.frozen j
theorem SpI.setF (h : SpI p (fun _ => True) w0 N w) (hp : p.ok w0) {j e : Nat} (hj : j < p.nf) (he : e < 3) (u : Int) : SpI p (fun _ => True) w0 N (w.setCell ⟨p.gB, j * 3 + e, none⟩ (.int .i64 u)) := by
  obtain ⟨h1, h2, h3, h4, ⟨vs, h5, h6⟩, fs, h7, h8, h9⟩ := h
  obtain ⟨p1, p2, p3, p4, p5, p6, p7, p8, _⟩ := hp
  have hg := gr_set (World.grownBy.refl w (some p.gB)) (p := ⟨p.gB, j * 3 + e, none⟩) (.inl rfl) (.int .i64 u)
  obtain ⟨x, hx⟩ : ∃ x : Fc, ∀ c1, Enc.rep w p.lo (fs[j]'(by omega)) c1 → Enc.rep w p.lo x (c1.set e (.int .i64 u)) := by
    have : e = 0 ∨ e = 1 ∨ e = 2 := by omega
    generalize fs[j]'(by omega) = f
    rcases this with rfl | rfl | rfl
    · exact ⟨⟨u, f.b, f.c⟩, by rintro c1 rfl; rfl⟩
    · exact ⟨⟨f.a, u, f.c⟩, by rintro c1 rfl; rfl⟩
    · exact ⟨⟨f.a, f.b, u⟩, by rintro c1 rfl; rfl⟩
  exact ⟨h1.set p1 (by simp only; omega) _, by rw [heap_set]; exact h2, h3.gr hg (fun e => by injection e; omega), h4.gr hg (fun e => by injection e; omega), ⟨vs, h5, h6.ne hg (fun g e1 e2 => by simp only [blk, Option.map_some, Option.some.injEq] at e1; injection e2; omega)⟩,
    _, by rw [List.length_set]; exact h7, fun _ _ => trivial, h9.put (by omega) he hx⟩
theorem SpI.setV (h : SpI p R w0 N w) (hp : p.ok w0) {j e : Nat} (hj : j < p.nv) (he : e < 3) (u : Int) : SpI p R w0 N (w.setCell ⟨p.gA, j * 3 + e, none⟩ (.int .i64 u)) := by
  obtain ⟨h1, h2, h3, h4, ⟨vs, h5, h6⟩, fs, h7, h8, h9⟩ := h
  obtain ⟨p1, p2, p3, p4, p5, p6, p7, p8, _⟩ := hp
  have hg := gr_set (World.grownBy.refl w (some p.gA)) (p := ⟨p.gA, j * 3 + e, none⟩) (.inl rfl) (.int .i64 u)
  obtain ⟨x, hx⟩ : ∃ x : V3, ∀ c1, Enc.rep w p.lo (vs[j]'(by omega)) c1 → Enc.rep w p.lo x (c1.set e (.int .i64 u)) := by
    have : e = 0 ∨ e = 1 ∨ e = 2 := by omega
    generalize vs[j]'(by omega) = f
    rcases this with rfl | rfl | rfl
    · exact ⟨⟨u, f.y, f.z⟩, by rintro c1 rfl; rfl⟩
    · exact ⟨⟨f.x, u, f.z⟩, by rintro c1 rfl; rfl⟩
    · exact ⟨⟨f.x, f.y, u⟩, by rintro c1 rfl; rfl⟩
  exact ⟨h1.set p1 (by simp only; omega) _, by rw [heap_set]; exact h2, h3.gr hg (fun e => by injection e; omega), h4.gr hg (fun e => by injection e; omega),
    ⟨_, by rw [List.length_set]; exact h5, h6.put (by omega) he hx⟩, fs, h7, h8, h9.ne hg (fun g e1 e2 => by simp only [blk, Option.map_some, Option.some.injEq] at e1; injection e2; omega)⟩
theorem SpI.any (h : SpI p R w0 N w) : SpI p (fun _ => True) w0 N w := by
  obtain ⟨h1, h2, h3, h4, h5, fs, h7, h8, h9⟩ := h
  exact ⟨h1, h2, h3, h4, h5, fs, h7, fun _ _ => trivial, h9⟩
theorem SpI.mono (h : SpI p R w0 N w) {N' : Int} (hN : N ≤ N') : SpI p R w0 N' w := ⟨h.1.mono hN, h.2⟩
end
def VPtr (g e n : Nat) : Value → World → Prop := fun v _ => ∃ j, v = .pointer (some ⟨g, j * 3 + e, none⟩) ∧ j < n
def VAgg3 : Value → World → Prop := fun v _ => ∃ x y z, v = .agg #[.int .i64 x, .int .i64 y, .int .i64 z]

end Go.Proofs.Ytjodjdjfagjiaaa

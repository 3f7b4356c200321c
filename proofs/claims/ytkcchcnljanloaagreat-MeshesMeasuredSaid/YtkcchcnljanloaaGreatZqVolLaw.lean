/- Contracts of functions that this seat's laws reach, each: what one call returns and what it leaves in memory; no condition beyond each theorem's own hypotheses. -/
import Derived.Test.YtkcchcnljanloaaGreatZqShellSub
import Derived.Test.YtkcchcnljanloaaGreatZqGpLib
import Derived.Test.YtkcchcnljanloaaGreatZqMeshH
import Derived.Test.YtkcchcnljanloaaGreatZqFlowA
import Derived.Test.YtkcchcnljanloaaGreatZqTree
set_option linter.unusedVariables false
set_option linter.unusedSimpArgs false
namespace Go.Proofs.YtkcchcnljanloaaGreat
open Go.RowKit Go.Bl

theorem fc_ext {a b : Fc} (h1 : a.a = b.a) (h2 : a.b = b.b) (h3 : a.c = b.c) : a = b := by cases a; cases b; simp_all

end Go.Proofs.YtkcchcnljanloaaGreat

namespace Go.Proofs.YtkcchcnljanloaaGreat
open Go.RowKit Go.Bl

/-- a mesh that is right, or none -/
def okM (m : MeshV) : MeshV := if meshF m = 0 then m else ⟨[], []⟩

def SMeshE (lo : Nat) (m : MeshV) (F : Int) (w : World) (e : Ending) (w' : World) : Prop :=
  ∃ (A : Option Addr) (c : Nat) (B : Option Addr) (d : Nat), e = .returned (.tuple #[.agg #[.slice A m.vs.length c, .slice B m.fs.length d], .int .i64 F]) ∧ Sl w' lo A m.vs ∧ Sl w' lo B m.fs ∧ w.grownBy w' none

def axisF (n : Int) : Int := if outB n 0 2 then 4 else 0

/-- turned by a quarter -/
def qV (axis : Int) (v : V3) : V3 := if axis = 0 then ⟨v.x, -v.z, v.y⟩ else if axis = 1 then ⟨v.z, v.y, -v.x⟩ else ⟨-v.y, v.x, v.z⟩

def clampI (n : Int) : Int := max (-300000) (min n 300000)

end Go.Proofs.YtkcchcnljanloaaGreat

namespace Go.Proofs.YtkcchcnljanloaaGreat
open Go.RowKit Go.Bl

def turnV (axis : Int) : Nat → V3 → V3
  | 0, v => v
  | k + 1, v => qV axis (turnV axis k v)

/-- the closure's box of v and that of its result, over the world w -/

def VAt (w : World) (g : Nat) (v : V3) : Prop := Cell w g 0 (.int .i64 v.x) ∧ Cell w g 1 (.int .i64 v.y) ∧ Cell w g 2 (.int .i64 v.z)

theorem VAt.gr {w w' : World} {g : Nat} {v : V3} {r : Option Nat} (h : VAt w g v) (hg : w.grownBy w' r) (hr : r ≠ some g) : VAt w' g v := ⟨h.1.gr hg hr, h.2.1.gr hg hr, h.2.2.gr hg hr⟩

def ups (v : V3) (o : Nat) (a : Int) : V3 := if o = 0 then ⟨a, v.y, v.z⟩ else if o = 1 then ⟨v.x, a, v.z⟩ else ⟨v.x, v.y, a⟩

theorem VAt.up {w : World} {g : Nat} {v : V3} (h : VAt w g v) {o : Nat} (a : Int) (ho : o < 3) : VAt (w.setCell ⟨g, o, none⟩ (.int .i64 a)) g (ups v o a) := by
  have : o = 0 ∨ o = 1 ∨ o = 2 := by omega
  obtain ⟨h1, h2, h3⟩ := h
  rcases this with rfl | rfl | rfl
  · exact ⟨h1.set_ _, h2.set_ne _ (by decide), h3.set_ne _ (by decide)⟩
  · exact ⟨h1.set_ne _ (by decide), h2.set_ _, h3.set_ne _ (by decide)⟩
  · exact ⟨h1.set_ne _ (by decide), h2.set_ne _ (by decide), h3.set_ _⟩

def moveV (t v : V3) : V3 := ⟨v.x + t.x, v.y + t.y, v.z + t.z⟩

def clampV (t : V3) : V3 := ⟨clampI t.x, clampI t.y, clampI t.z⟩

def mirV (axis : Int) (v : V3) : V3 := if axis = 0 then ⟨-v.x, v.y, v.z⟩ else if axis = 1 then ⟨v.x, -v.y, v.z⟩ else ⟨v.x, v.y, -v.z⟩

end Go.Proofs.YtkcchcnljanloaaGreat

namespace Go.Proofs.YtkcchcnljanloaaGreat
open Go.RowKit Go.Bl

def VOne (lo2 : Nat) (u : V3) : Value → World → Prop := fun v w => ∃ g : Nat, v = .slice (some ⟨g, 0, none⟩) 1 1 ∧ Sl w lo2 (some ⟨g, 0, none⟩) [u]

theorem VOne.stab {lo2 : Nat} {u : V3} {p : Nat → Prop} {v : Value} {w w' : World} (h : VOne lo2 u v w) (hw : Wrt p w w') (hp : ∀ g, p g → g < lo2) : VOne lo2 u v w' := let ⟨g, h1, h2⟩ := h; ⟨g, h1, h2.wrt hw hp⟩

def VMp (lo n1 : Nat) (l : List V3) (u : V3) : Value → World → Prop := fun v w => ∃ (A : Option Addr) (c : Nat), v = .slice A (n1 + 1) c ∧ Own w lo 38 A c (l ++ [u])

theorem VMp.stab {lo n1 : Nat} {l : List V3} {u : V3} {q : Nat → Prop} {v : Value} {w w' : World} (h : VMp lo n1 l u v w) (hw : Wrt q w w') (hq : ∀ g, q g → g < lo) : VMp lo n1 l u v w' := let ⟨A, c, h1, h2⟩ := h; ⟨A, c, h1, h2.wrt hw hq⟩
/-- while a vector is appended to the box's slice -/
def MpI (gm gv lo lo2 n1 cq : Nat) (Aq : Option Addr) (lq : List V3) (vq uq : V3) (bv : Value) (W0 Wb : World) (m : Nat → Bool) (_ : Nat) (w : World) : Prop :=
  W0.grownBy w none ∧ lo2 ≤ w.heap.size ∧ VAt w gv vq ∧ (m 6 = false → Own w lo 38 Aq cq lq) ∧ (m 8 = false → Cell w gm 0 (.slice Aq n1 cq)) ∧ Cell w gm 1 bv ∧ Wb.grownBy w (some gm) ∧
    (m 8 = true → ∃ (A : Option Addr) (c : Nat), Cell w gm 0 (.slice A (n1 + 1) c) ∧ Own w lo 38 A c (lq ++ [uq]))

def MpOk (gm gv lo lo2 : Nat) (Aq : Option Addr) (W0 Wb : World) : Prop := W0.heap.size ≤ gm ∧ gm < lo ∧ lo ≤ gv ∧ gv < lo2 ∧ Wb.heap.size ≤ lo ∧ gm < lo2 ∧ ∀ g, blk Aq = some g → g < lo2 ∧ g ≠ gv
section
variable {gm gv lo lo2 n1 cq k : Nat} {Aq : Option Addr} {lq : List V3} {vq uq : V3} {bv : Value} {W0 Wb w w' : World} {m : Nat → Bool}

theorem MpI.same (h : MpI gm gv lo lo2 n1 cq Aq lq vq uq bv W0 Wb m k w) {j : Nat} (h6 : (6 == j) = false) (h8 : (8 == j) = false) : MpI gm gv lo lo2 n1 cq Aq lq vq uq bv W0 Wb (setm m j) k w := by
  unfold MpI
  rw [setm_ne h6, setm_ne h8]
  exact h

theorem MpI.pure (h : MpI gm gv lo lo2 n1 cq Aq lq vq uq bv W0 Wb m k w) (hg : w.grownBy w' none) : MpI gm gv lo lo2 n1 cq Aq lq vq uq bv W0 Wb m k w' := by
  obtain ⟨h1, h2, h3, h4, h5, h6, h7, h8⟩ := h
  exact ⟨gr_trans h1 hg, Nat.le_trans h2 hg.size, h3.gr hg (by simp), fun h => (h4 h).pure hg, fun h => (h5 h).gr hg (by simp), h6.gr hg (by simp), gr_step h7 hg, fun h => let ⟨A, c, a, b⟩ := h8 h; ⟨A, c, a.gr hg (by simp), b.pure hg⟩⟩

theorem MpI.app (h : MpI gm gv lo lo2 n1 cq Aq lq vq uq bv W0 Wb m k w) (hq : MpOk gm gv lo lo2 Aq W0 Wb) (m6 : m 6 = false) (m8 : m 8 = false) {A5 : Option Addr} (hG : Grew Aq A5 w w') (ho : Own w lo 38 Aq cq lq) : MpI gm gv lo lo2 n1 cq Aq lq vq uq bv W0 Wb (setm m 6) k w' := by
  obtain ⟨h1, h2, h3, h4, h5, h6, h7, h8⟩ := h
  obtain ⟨p1, p2, p3, p4, p5, p6, p7⟩ := hq
  have hne : ∀ g, blk Aq = some g → lo ≤ g ∧ g ≠ gv := fun g e => ⟨(ho.blk_lt e).1, (p7 g e).2⟩
  refine ⟨gr_row h1 hG.1 (fun g e => by have := hne g e; omega), Nat.le_trans h2 hG.1.size, h3.gr hG.1 (fun e => (hne _ e).2 rfl), ?_, ?_, h6.gr hG.1 (fun e => by have := hne _ e; omega), gr_row h7 hG.1 (fun g e => by have := hne g e; omega), ?_⟩
  · intro h; rw [setm_eq] at h; cases h
  · intro h; exact (h5 m8).gr hG.1 (fun e => by have := hne _ e; omega)
  · intro h; rw [setm_ne (by decide), m8] at h; cases h

theorem MpI.fin (h : MpI gm gv lo lo2 n1 cq Aq lq vq uq bv W0 Wb m k w) (hq : MpOk gm gv lo lo2 Aq W0 Wb) {v0 : Value} (c : Cell w gm 0 v0) {A : Option Addr} {d : Nat} (ho : Own w lo 38 A d (lq ++ [uq])) : MpI gm gv lo lo2 n1 cq Aq lq vq uq bv W0 Wb (setm m 8) k (w.setCell ⟨gm, 0, none⟩ (.slice A (n1 + 1) d)) := by
  obtain ⟨h1, h2, h3, h4, h5, h6, h7, h8⟩ := h
  obtain ⟨p1, p2, p3, p4, p5, p6, p7⟩ := hq
  have hg := gr_set (World.grownBy.refl w (some gm)) (p := ⟨gm, 0, none⟩) (.inl rfl) (.slice A (n1 + 1) d)
  have hne : ∀ {B : Option Addr} {e : TypeId} {c : Nat} {l : List V3}, Own w lo e B c l → ∀ g, blk B = some g → some gm ≠ some g := fun h g e1 e2 => by have := (h.blk_lt e1).1; injection e2; omega
  refine ⟨gr_row h1 hg (fun g e => by injection e; omega), by rw [heap_set]; exact h2, h3.gr hg (fun e => by injection e; omega), ?_, ?_, h6.set_ne _ (by decide), gr_trans h7 hg, ?_⟩
  · intro h; rw [setm_ne (by decide)] at h; exact (h4 h).ne hg (hne (h4 h))
  · intro h; rw [setm_eq] at h; cases h
  · intro _; exact ⟨A, d, c.set_ _, ho.ne hg (hne ho)⟩
end

end Go.Proofs.YtkcchcnljanloaaGreat

namespace Go.Proofs.YtkcchcnljanloaaGreat
open Go.RowKit Go.Bl

end Go.Proofs.YtkcchcnljanloaaGreat

namespace Go.Proofs.YtkcchcnljanloaaGreat
open Go.RowKit Go.Bl

def turnR (m : MeshV) (axis q : Int) : MeshV × Int :=
  if meshF m = 0 then (if outB axis 0 2 = true then (⟨[], []⟩, 4) else if outB q 0 3 = true then (⟨[], []⟩, 1) else (okM ⟨m.vs.map (turnV axis q.toNat), m.fs⟩, meshF ⟨m.vs.map (turnV axis q.toNat), m.fs⟩)) else (⟨[], []⟩, meshF m)

end Go.Proofs.YtkcchcnljanloaaGreat

namespace Go.Proofs.YtkcchcnljanloaaGreat
open Go.RowKit Go.Bl

def in3 (n : Int) : Bool := inB n (-300000) 300000

def allIn (t : V3) : Bool := in3 t.x && in3 t.y && in3 t.z

def movR (m : MeshV) (t : V3) : MeshV × Int := if allIn t = true then (okM ⟨m.vs.map (moveV t), m.fs⟩, meshF ⟨m.vs.map (moveV t), m.fs⟩) else (⟨[], []⟩, 1)

def moveR (m : MeshV) (t : V3) : MeshV × Int := if meshF m = 0 then (okM ⟨m.vs.map (moveV (clampV t)), m.fs⟩, meshF ⟨m.vs.map (moveV (clampV t)), m.fs⟩) else (⟨[], []⟩, meshF m)

end Go.Proofs.YtkcchcnljanloaaGreat

namespace Go.Proofs.YtkcchcnljanloaaGreat
open Go.RowKit Go.Bl

def swp (f : Fc) : Fc := ⟨f.a, f.c, f.b⟩

def mirM (m : MeshV) (axis : Int) : MeshV := ⟨m.vs.map (mirV axis), m.fs.map swp⟩

def mirR (m : MeshV) (axis : Int) : MeshV × Int := if meshF m = 0 then (if outB axis 0 2 = true then (⟨[], []⟩, 4) else (okM (mirM m axis), meshF (mirM m axis))) else (⟨[], []⟩, meshF m)

end Go.Proofs.YtkcchcnljanloaaGreat

namespace Go.Proofs.YtkcchcnljanloaaGreat
open Go Go.RowKit Go.Bl

theorem allS_swp (fs : List Fc) : (allS (fs.map swp)).Perm ((allS fs).map rvS) := by
  induction fs with
  | nil => exact List.Perm.refl _
  | cons f r ih =>
    show (sdsOf (swp f) ++ allS (r.map swp)).Perm ((sdsOf f ++ allS r).map rvS)
    rw [List.map_append]
    refine List.Perm.append ?_ ih
    show [(⟨f.a, f.c⟩ : Sd), ⟨f.c, f.b⟩, ⟨f.b, f.a⟩].Perm [⟨f.b, f.a⟩, ⟨f.c, f.b⟩, ⟨f.a, f.c⟩]
    exact (List.reverse_perm [(⟨f.b, f.a⟩ : Sd), ⟨f.c, f.b⟩, ⟨f.a, f.c⟩])

theorem allS_swp_nodup {fs : List Fc} (h : (allS fs).Nodup) : (allS (fs.map swp)).Nodup := by
  rw [(allS_swp fs).nodup_iff]
  unfold List.Nodup at h ⊢
  rw [List.pairwise_map]
  exact h.imp fun hab e => hab (rvS_inj e)

end Go.Proofs.YtkcchcnljanloaaGreat

namespace Go.Proofs.YtkcchcnljanloaaGreat
open Go Go.RowKit Go.Bl

/-- a map of points that keeps sums, and distances from the middle; it may turn round -/
structure Lin (s : Bool) (φ : V3 → V3) : Prop where
  less : ∀ a b, lessV (φ a) (φ b) = φ (lessV a b)
  cross : ∀ a b, crossV (φ a) (φ b) = φ (if s then crossV b a else crossV a b)
  dot : ∀ a b, dotV (φ a) (φ b) = dotV a b
  zero : ∀ v, φ v = ⟨0, 0, 0⟩ ↔ v = ⟨0, 0, 0⟩
  far : ∀ v, farV (φ v) = farV v

theorem Lin.id : Lin false (fun v => v) := ⟨fun _ _ => rfl, fun _ _ => rfl, fun _ _ => rfl, fun _ => Iff.rfl, fun _ => rfl⟩

theorem Lin.map0 {s : Bool} {φ : V3 → V3} (h : Lin s φ) (vs : List V3) (i : Int) : atV (vs.map φ) i = φ (atV vs i) := by
  unfold atV
  simp only [List.getD_eq_getElem?_getD, List.getElem?_map]
  cases vs[i.toNat]? with
  | none => exact ((h.zero _).2 rfl).symm
  | some v => rfl

def fcS (s : Bool) (f : Fc) : Fc := if s then swp f else f

theorem inF_swp (n : Nat) (f : Fc) : inF n (swp f) = inF n f := by
  unfold inF swp; simp only [Bool.and_assoc, Bool.and_comm (inI n f.b)]

theorem Lin.norm {s : Bool} {φ : V3 → V3} (h : Lin s φ) (vs : List V3) (f : Fc) : normV (vs.map φ) (fcS s f) = φ (normV vs f) := by
  unfold normV fcS
  cases s
  · simp only [Bool.false_eq_true, if_false, h.map0, h.less, h.cross]
  · simp only [if_true, swp, h.map0, h.less, h.cross]

theorem Lin.part {s : Bool} {φ : V3 → V3} (h : Lin s φ) (vs : List V3) (f : Fc) : partV (vs.map φ) (fcS s f) = partV vs f := by
  unfold partV fcS
  cases s
  · simp only [Bool.false_eq_true, if_false, h.map0, h.cross, h.dot]
  · simp only [if_true, swp, h.map0, h.cross, h.dot]

theorem Lin.face {s : Bool} {φ : V3 → V3} (h : Lin s φ) (vs : List V3) (f : Fc) (hf : faceF vs f = 0) : faceF (vs.map φ) (fcS s f) = 0 := by
  obtain ⟨h1, h2⟩ := faceF_iff.1 hf
  refine faceF_iff.2 ⟨?_, ?_⟩
  · rw [List.length_map]; unfold fcS; cases s
    · exact h1
    · rw [if_pos rfl, inF_swp]; exact h1
  · rw [h.norm]; exact fun e => h2 ((h.zero _).1 e)

theorem allS_fcS {s : Bool} {fs : List Fc} (hn : (allS fs).Nodup) : (allS (fs.map (fcS s))).Nodup := by
  cases s
  · rw [show fs.map (fcS false) = fs by rw [show (fcS false) = _root_.id from rfl, List.map_id]]; exact hn
  · exact allS_swp_nodup hn

theorem Lin.mesh {s : Bool} {φ : V3 → V3} (h : Lin s φ) {vs : List V3} {fs : List Fc} (hM : meshF ⟨vs, fs⟩ = 0) : meshF ⟨vs.map φ, fs.map (fcS s)⟩ = 0 := by
  obtain ⟨h1, h2, h3, h4, h5, h6⟩ := meshOk.1 hM
  refine meshOk.2 ⟨by simpa using h1, by rw [List.length_map]; exact h2, by rw [List.length_map]; exact h3, ?_, fun f hf => ?_, allS_fcS h6⟩
  · rw [List.any_map, ← h4]; congr 1; funext v; exact h.far v
  · obtain ⟨g, hg, rfl⟩ := List.mem_map.1 hf
    exact h.face vs g (h5 g hg)

theorem Lin.vol {s : Bool} {φ : V3 → V3} (h : Lin s φ) (vs : List V3) (fs : List Fc) : volS (vs.map φ) (fs.map (fcS s)) = volS vs fs := by
  unfold volS
  rw [List.map_map]
  congr 1
  exact List.map_congr_left fun f _ => h.part vs f

theorem q4 (axis : Int) (v : V3) : qV axis (qV axis (qV axis (qV axis v))) = v := by
  cases v; unfold qV
  split
  · simp
  · split <;> simp

end Go.Proofs.YtkcchcnljanloaaGreat

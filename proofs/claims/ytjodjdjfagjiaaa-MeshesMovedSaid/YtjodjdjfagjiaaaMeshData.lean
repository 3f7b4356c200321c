/- Vectors, faces, sides and meshes: what they are in memory, and what the documents ask of them. -/
import Derived.Test.YtjodjdjfagjiaaaPathData
set_option linter.unusedVariables false
set_option linter.unusedSimpArgs false
namespace Go.Bl
open Go

structure V3 where
  x : Int
  y : Int
  z : Int
deriving DecidableEq
instance : Inhabited V3 := ⟨⟨0, 0, 0⟩⟩
structure Fc where
  a : Int
  b : Int
  c : Int
deriving DecidableEq, Inhabited
structure Sd where
  u : Int
  v : Int
deriving DecidableEq, Inhabited

instance : Enc V3 where
  sz := 3
  rep := fun _ _ p cs => cs = [.int .i64 p.x, .int .i64 p.y, .int .i64 p.z]
  len := by rintro w lo x cs rfl; rfl
  one := by rintro w lo x cs rfl u hu; simp at hu; rcases hu with rfl | rfl | rfl <;> rfl
  keep := fun h _ => h
  mono := fun h _ => h
instance : Flat V3 := ⟨fun h => h, by decide⟩
instance : Enc Fc where
  sz := 3
  rep := fun _ _ p cs => cs = [.int .i64 p.a, .int .i64 p.b, .int .i64 p.c]
  len := by rintro w lo x cs rfl; rfl
  one := by rintro w lo x cs rfl u hu; simp at hu; rcases hu with rfl | rfl | rfl <;> rfl
  keep := fun h _ => h
  mono := fun h _ => h
instance : Flat Fc := ⟨fun h => h, by decide⟩
instance : Enc Sd where
  sz := 2
  rep := fun _ _ p cs => cs = [.int .i64 p.u, .int .i64 p.v]
  len := by rintro w lo x cs rfl; rfl
  one := by rintro w lo x cs rfl u hu; simp at hu; rcases hu with rfl | rfl <;> rfl
  keep := fun h _ => h
  mono := fun h _ => h
instance : Flat Sd := ⟨fun h => h, by decide⟩

structure MeshV where
  vs : List V3
  fs : List Fc
deriving DecidableEq, Inhabited

/-- no coordinate is beyond K -/
def Bd (K : Int) (v : V3) : Prop := (-K ≤ v.x ∧ v.x ≤ K) ∧ (-K ≤ v.y ∧ v.y ≤ K) ∧ (-K ≤ v.z ∧ v.z ≤ K)
theorem mul_bd3 {a b K : Int} (ha : -K ≤ a ∧ a ≤ K) (hb : -K ≤ b ∧ b ≤ K) : -(K * K) ≤ a * b ∧ a * b ≤ K * K := by
  have h1 : a.natAbs ≤ K.natAbs := by omega
  have h2 : b.natAbs ≤ K.natAbs := by omega
  have h3 := Nat.mul_le_mul h1 h2
  rw [← Int.natAbs_mul, ← Int.natAbs_mul] at h3
  have h4 : 0 ≤ K * K := Int.mul_nonneg (by omega) (by omega)
  generalize a * b = p at *
  generalize K * K = q at *
  omega
theorem mul_bd4 {a b K L : Int} (ha : -K ≤ a ∧ a ≤ K) (hb : -L ≤ b ∧ b ≤ L) : -(K * L) ≤ a * b ∧ a * b ≤ K * L := by
  have h1 : a.natAbs ≤ K.natAbs := by omega
  have h2 : b.natAbs ≤ L.natAbs := by omega
  have h3 := Nat.mul_le_mul h1 h2
  rw [← Int.natAbs_mul, ← Int.natAbs_mul] at h3
  have h4 : 0 ≤ K * L := Int.mul_nonneg (by omega) (by omega)
  generalize a * b = p at *
  generalize K * L = q at *
  omega
def lessV (a b : V3) : V3 := ⟨a.x - b.x, a.y - b.y, a.z - b.z⟩
def crossV (a b : V3) : V3 := ⟨a.y * b.z - a.z * b.y, a.z * b.x - a.x * b.z, a.x * b.y - a.y * b.x⟩
def dotV (a b : V3) : Int := a.x * b.x + a.y * b.y + a.z * b.z
theorem Bd.less {K : Int} {a b : V3} (ha : Bd K a) (hb : Bd K b) : Bd (K + K) (lessV a b) := by
  unfold Bd lessV at *; simp only; omega
theorem Bd.cross {K : Int} {a b : V3} (ha : Bd K a) (hb : Bd K b) : Bd (K * K + K * K) (crossV a b) := by
  obtain ⟨a1, a2, a3⟩ := ha
  obtain ⟨b1, b2, b3⟩ := hb
  have h1 := mul_bd3 a1 b2
  have h2 := mul_bd3 a1 b3
  have h3 := mul_bd3 a2 b1
  have h4 := mul_bd3 a2 b3
  have h5 := mul_bd3 a3 b1
  have h6 := mul_bd3 a3 b2
  unfold Bd crossV
  simp only
  generalize K * K = q at *
  omega

theorem Bd.mono {K L : Int} {v : V3} (h : Bd K v) (hl : K ≤ L) : Bd L v := by unfold Bd at *; omega
def inI (n : Nat) (i : Int) : Bool := decide (0 ≤ i) && decide (i < n)
def farZ (n : Int) : Bool := decide (n < -100000) || decide (100000 < n)
def farV (v : V3) : Bool := farZ v.x || farZ v.y || farZ v.z
theorem farV_no {v : V3} (h : farV v = false) : Bd 100000 v := by
  unfold farV farZ at h
  simp at h
  unfold Bd; omega
def atV (vs : List V3) (i : Int) : V3 := vs.getD i.toNat default
def normV (vs : List V3) (f : Fc) : V3 := crossV (lessV (atV vs f.b) (atV vs f.a)) (lessV (atV vs f.c) (atV vs f.a))
def inF (n : Nat) (f : Fc) : Bool := inI n f.a && inI n f.b && inI n f.c
def faceF (vs : List V3) (f : Fc) : Int := if inF vs.length f then (if normV vs f = ⟨0, 0, 0⟩ then 3 else 0) else 8
def facesF (vs : List V3) : List Fc → Int
  | [] => 0
  | f :: r => if faceF vs f = 0 then facesF vs r else faceF vs f
def sdsOf (f : Fc) : List Sd := [⟨f.a, f.b⟩, ⟨f.b, f.c⟩, ⟨f.c, f.a⟩]
def allS (fs : List Fc) : List Sd := fs.flatMap sdsOf
def meshF (m : MeshV) : Int :=
  if m.fs = [] then 8 else if 1000 < m.vs.length ∨ 1000 < m.fs.length then 2 else if m.vs.any farV then 1 else
    if facesF m.vs m.fs = 0 then (if (allS m.fs).Nodup then 0 else 6) else facesF m.vs m.fs

theorem norm_eq {vs : List V3} {f : Fc} (h : f.a = f.b ∨ f.b = f.c ∨ f.c = f.a) : normV vs f = ⟨0, 0, 0⟩ := by
  have e : ∀ v : V3, lessV v v = ⟨0, 0, 0⟩ := fun v => by simp [lessV]
  unfold normV
  rcases h with h | h | h
  · rw [h, e]; simp [crossV]
  · rw [h]; simp [crossV, Int.mul_comm, Int.sub_self]
  · rw [h, e]; simp [crossV]
theorem atV_bd {vs : List V3} (h : vs.any farV = false) (i : Int) : Bd 100000 (atV vs i) := by
  unfold atV
  rw [List.getD_eq_getElem?_getD]
  cases h2 : vs[i.toNat]? with
  | none => simp [Bd, show (default : V3) = ⟨0, 0, 0⟩ from rfl]
  | some v =>
    refine farV_no ?_
    have := List.any_eq_false.1 h v (List.mem_of_getElem? h2)
    simpa using this
theorem norm_bd {vs : List V3} (h : vs.any farV = false) (f : Fc) : Bd 80000000000 (normV vs f) :=
  (((atV_bd h f.b).less (atV_bd h f.a)).cross ((atV_bd h f.c).less (atV_bd h f.a)))

theorem Sl.v3 {w : World} {lo : Nat} {A : Option Addr} {l : List V3} (h : Sl w lo A l) (hn : 0 < l.length) : ∃ g o, A = some ⟨g, o, none⟩ ∧ lo ≤ g ∧ g < w.heap.size ∧
    ∀ k (hk : k < l.length), w.cell? ⟨g, o + k * 3, none⟩ = some (.int .i64 l[k].x) ∧ w.cell? ⟨g, o + k * 3 + 1, none⟩ = some (.int .i64 l[k].y) ∧ w.cell? ⟨g, o + k * 3 + 2, none⟩ = some (.int .i64 l[k].z) := by
  obtain ⟨g, o, _, rfl, h1, h2, _, _⟩ := h.at_ (by decide) hn
  refine ⟨g, o, rfl, h1, h2, fun k hk => ?_⟩
  obtain ⟨g', o', c, e, _, _, rfl, hc⟩ := h.at_ (by decide) hk
  cases e
  exact ⟨hc 0 _ rfl, hc 1 _ rfl, hc 2 _ rfl⟩
theorem Sl.fc {w : World} {lo : Nat} {A : Option Addr} {l : List Fc} (h : Sl w lo A l) (hn : 0 < l.length) : ∃ g o, A = some ⟨g, o, none⟩ ∧ lo ≤ g ∧ g < w.heap.size ∧
    ∀ k (hk : k < l.length), w.cell? ⟨g, o + k * 3, none⟩ = some (.int .i64 l[k].a) ∧ w.cell? ⟨g, o + k * 3 + 1, none⟩ = some (.int .i64 l[k].b) ∧ w.cell? ⟨g, o + k * 3 + 2, none⟩ = some (.int .i64 l[k].c) := by
  obtain ⟨g, o, _, rfl, h1, h2, _, _⟩ := h.at_ (by decide) hn
  refine ⟨g, o, rfl, h1, h2, fun k hk => ?_⟩
  obtain ⟨g', o', c, e, _, _, rfl, hc⟩ := h.at_ (by decide) hk
  cases e
  exact ⟨hc 0 _ rfl, hc 1 _ rfl, hc 2 _ rfl⟩
theorem inF_at {vs : List V3} {f : Fc} (h : inF vs.length f = true) : ∃ (i j k : Nat) (hi : i < vs.length) (hj : j < vs.length) (hk : k < vs.length), f = ⟨i, j, k⟩ ∧ atV vs f.a = vs[i] ∧ atV vs f.b = vs[j] ∧ atV vs f.c = vs[k] := by
  obtain ⟨a, b, c⟩ := f
  simp only [inF, inI, Bool.and_eq_true, decide_eq_true_eq] at h
  obtain ⟨⟨⟨a1, a2⟩, b1, b2⟩, c1, c2⟩ := h
  obtain ⟨i, rfl⟩ := Int.eq_ofNat_of_zero_le a1
  obtain ⟨j, rfl⟩ := Int.eq_ofNat_of_zero_le b1
  obtain ⟨k, rfl⟩ := Int.eq_ofNat_of_zero_le c1
  exact ⟨i, j, k, by omega, by omega, by omega, rfl, by simp [atV, show i < vs.length by omega], by simp [atV, show j < vs.length by omega], by simp [atV, show k < vs.length by omega]⟩

end Go.Bl

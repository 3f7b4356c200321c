/- Contracts of functions that this seat's laws reach, each: what one call returns and what it leaves in memory; no condition beyond each theorem's own hypotheses. -/
import Derived.Test.YtgcfaamgilbjdaaGreatDoorZqMapPt
import Derived.Test.YtgcfaamgilbjdaaGreatDoorZqPathF
set_option linter.unusedVariables false
set_option linter.unusedSimpArgs false
namespace Go.Proofs.YtgcfaamgilbjdaaGreatDoor
open Go.RowKit Go.Bl Go.Maps Go.WideShapes

def okIo (n : Int) : Prop := (Lit.int .i64 n).wf = true

theorem okIo_of {n : Int} (h : -9223372036854775808 ≤ n ∧ n ≤ 9223372036854775807) : okIo n := by
  unfold okIo Lit.wf
  simp [IntKind.wrap, i64_in h]
  exact h

theorem okPt_of {s : Pt} (h : near s) : okP s := ⟨okIo_of (by have := h.1; omega), okIo_of (by have := h.2; omega)⟩

theorem int_lawO : Keyed Tryz.prog 3 := int_keyed Tryz.underlying3

theorem int_keyO (n : Int) (h : okIo n) : keyOf Tryz.prog 3 (.int .i64 n) = some (.int .i64 n) := by
  unfold keyOf
  simp only [Tryz.underlying3]
  unfold mapKey
  simp [Tryz.underlying3]
  exact h

theorem int_invO (v : Value) (l : Lit) (h : keyOf Tryz.prog 3 v = some l) : ∃ n, v = .int .i64 n ∧ okIo n := by
  unfold keyOf at h
  simp only [Tryz.underlying3] at h
  unfold mapKey at h
  cases v <;> simp [Tryz.underlying3] at h
  obtain ⟨⟨rfl, h1⟩, _⟩ := h
  exact ⟨_, rfl, h1⟩

theorem zero_intO (w : World) : (zeroValue 3).run Tryz.prog w = .ok (.int .i64 0) w := by kernel_rfl

/-- map[int]int -/
noncomputable def intO : MapTy Tryz.prog Int Int where
  k := 3
  e := 3
  kv := .int .i64
  ok := okIo
  kl := .int .i64
  keyed := int_lawO
  key := int_keyO
  kinj := fun x y h => by injection h
  inv := int_invO
  ev := .int .i64
  okE := okIo
  el := fun b => .lit (.int .i64 b)
  zero := 0
  okZ := by unfold okIo; decide
  plain := fun b h => plainElem_int Tryz.underlying3 h
  einv := fun v z h => by
    obtain ⟨a, rfl, rfl, h3⟩ := plainElem_int_inv Tryz.underlying3 h
    exact ⟨a, rfl, h3, rfl⟩
  einj := fun a b h => by simpa using h
/-- map[api.Point]int -/
noncomputable def ptO : MapTy Tryz.prog Pt Int where
  k := 28
  e := 3
  kv := ptV
  ok := okP
  kl := ptK
  keyed := pt_law
  key := pt_key
  kinj := fun x y h => by cases x; cases y; simp [ptV] at h; simp [h]
  inv := pt_inv
  ev := .int .i64
  okE := okIo
  el := fun b => .lit (.int .i64 b)
  zero := 0
  okZ := by unfold okIo; decide
  plain := fun b h => plainElem_int Tryz.underlying3 h
  einv := fun v z h => by
    obtain ⟨a, rfl, rfl, h3⟩ := plainElem_int_inv Tryz.underlying3 h
    exact ⟨a, rfl, h3, rfl⟩
  einj := fun a b h => by simpa using h

theorem look_into {w : World} {b n : Nat} {m : Int → Option Int} (h : MapOf intO w b n m) {x r : Int} (hx : okIo x) (hr : (m x).getD 0 = r) : (Instr.lookup 55 (.map (some b)) (.int .i64 x) false).run Tryz.prog w = .ok (.int .i64 r) w := by
  rw [← hr]
  exact h.look Tryz.underlying55 (zero_intO _) hx

theorem lookOk_pto {w : World} {b n : Nat} {m : Pt → Option Int} (h : MapOf ptO w b n m) {x : Pt} {r : Int} {ok : Bool} (hx : okP x) (hr : (m x).getD 0 = r) (hok : (m x).isSome = ok) : (Instr.lookup 56 (.map (some b)) (.agg #[.int .i64 x.x, .int .i64 x.y]) true).run Tryz.prog w = .ok (.tuple #[.int .i64 r, .bool ok]) w := by
  rw [← hr, ← hok]
  exact h.lookOk Tryz.underlying56 (zero_intO _) hx

end Go.Proofs.YtgcfaamgilbjdaaGreatDoor

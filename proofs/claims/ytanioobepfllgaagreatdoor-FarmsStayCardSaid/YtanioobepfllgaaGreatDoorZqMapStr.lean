/- Contracts of functions that this seat's laws reach, each: what one call returns and what it leaves in memory; no condition beyond each theorem's own hypotheses. -/
import Derived.Test.YtanioobepfllgaaGreatDoorZqPathA
import Derived.Test.YtanioobepfllgaaGreatDoorZqMapLib
import Derived.Test.YtanioobepfllgaaGreatDoorZqBusData
import Derived.WideKeyEntry
set_option linter.unusedVariables false
set_option linter.unusedSimpArgs false
namespace Go.Bl
open Go Go.RowKit Go.WideShapes Go.Maps
variable {P : Program} {α β : Type}

theorem MapOf.drop [DecidableEq α] {M : MapTy P α β} {w : World} {b n : Nat} {m : α → Option β} {t : TypeId} (h : MapOf M w b n m) (ht : P.underlying t = some (.map M.k M.e)) {x : α} (hx : M.ok x) (ty : TypeId) :
    ∃ w', (Builtin.delete_ #[t, M.k] ty #[.map (some b), M.kv x]).run P w = .ok (.tuple #[]) w' ∧ MapOf M w' b n (fun z => if z = x then none else m z) ∧ w.grownBy w' (some b) := by
  obtain ⟨D, h1, h2⟩ := h
  obtain ⟨w', hrun, h3, h4⟩ := h1.drop M.keyed ht (M.key x hx) ty
  refine ⟨w', hrun, ⟨_, h3, fun z hz => ?_⟩, h4.grown⟩
  by_cases e : z = x
  · subst e
    simp only [if_true]
    exact ⟨fun y' e => (by cases e), fun zd => atKey_del_same zd⟩
  · simp only [e, if_false]
    exact ⟨(h2 z hz).1, fun zd => (atKey_del_other (fun e' => e (M.klinj hz hx e')) zd).trans ((h2 z hz).2 zd)⟩

end Go.Bl
namespace Go.Proofs.YtanioobepfllgaaGreatDoor
open Go Go.RowKit Go.Bl Go.Maps Go.WideShapes

theorem str_keyed : Keyed Tryz.prog 9 := string_keyed Tryz.underlying9

def okK (s : ByteArray) : Prop := s.size ≤ maxLen

def strK (s : ByteArray) : Lit := .string s.data.toList

theorem str_key (s : ByteArray) (h : okK s) : keyOf Tryz.prog 9 (.string s) = some (strK s) := by
  unfold keyOf
  simp only [Tryz.underlying9]
  unfold mapKey
  unfold okK at h
  simp [Tryz.underlying9, h, strK]

theorem str_inv (v : Value) (l : Lit) (h : keyOf Tryz.prog 9 v = some l) : ∃ s, v = .string s ∧ okK s := by
  unfold keyOf at h
  simp only [Tryz.underlying9] at h
  unfold mapKey at h
  cases v <;> simp [Tryz.underlying9] at h
  exact ⟨_, rfl, h.1⟩

theorem str_inj (x y : ByteArray) (h : Value.string x = Value.string y) : x = y := by injection h

/-- map[string]bool -/
noncomputable def strB : MapTy Tryz.prog ByteArray Bool where
  k := 9
  e := 4
  kv := .string
  ok := okK
  kl := strK
  keyed := str_keyed
  key := str_key
  kinj := str_inj
  inv := str_inv
  ev := .bool
  okE := fun _ => True
  el := fun b => .lit (.bool b)
  zero := false
  okZ := trivial
  plain := fun b _ => plainElem_bool Tryz.underlying4 b
  einv := fun v z h => by
    unfold plainElem at h
    simp only [Tryz.underlying4] at h
    cases v <;> simp at h
    subst h
    exact ⟨_, rfl, trivial, rfl⟩
  einj := fun a b h => by simpa using h

def numD (n : Int) : DataW Unit := .lit (.int .i64 n)

def txtD (s : ByteArray) : DataW Unit := .lit (.string s.data.toList)

theorem numD_inj {a b : Int} (h : numD a = numD b) : a = b := by
  unfold numD at h
  simp only [DataW.lit.injEq, Lit.int.injEq, true_and] at h
  exact h

theorem txtD_inj {a b : ByteArray} (h : txtD a = txtD b) : a = b := by
  unfold txtD at h
  simp only [DataW.lit.injEq, Lit.string.injEq] at h
  cases a; cases b
  simp only [ByteArray.mk.injEq]
  exact Array.toList_inj.1 h

def txtR : Value → Option (DataW Unit × List MemPlace)
  | .string s => some (txtD s, [])
  | _ => none
/-- map[string]string -/
noncomputable def strS : MapTy Tryz.prog ByteArray ByteArray where
  k := 9
  e := 9
  kv := .string
  ok := okK
  kl := strK
  keyed := str_keyed
  key := str_key
  kinj := str_inj
  inv := str_inv
  R := txtR
  ev := .string
  okE := fun _ => True
  el := txtD
  zero := ByteArray.empty
  okZ := trivial
  plain := fun _ _ => rfl
  einv := fun v z h => by
    cases v <;> simp only [txtR, reduceCtorEq, Option.some.injEq] at h
    exact ⟨_, rfl, trivial, h.symm⟩
  einj := fun _ _ h => txtD_inj h

def intR : Value → Option (DataW Unit × List MemPlace)
  | .int .i64 n => some (numD n, [])
  | _ => none
/-- map[string]int -/
noncomputable def strI : MapTy Tryz.prog ByteArray Int where
  k := 9
  e := 3
  kv := .string
  ok := okK
  kl := strK
  keyed := str_keyed
  key := str_key
  kinj := str_inj
  inv := str_inv
  R := intR
  ev := .int .i64
  okE := fun _ => True
  el := numD
  zero := 0
  okZ := trivial
  plain := fun _ _ => rfl
  einv := fun v z h => by
    unfold intR at h
    split at h
    · exact ⟨_, rfl, trivial, (Option.some.inj h).symm⟩
    · cases h
  einj := fun _ _ h => numD_inj h

def stdD (s : Std) : DataW Unit := .agg [numD s.st, numD s.since, txtD s.mat, txtD s.job]

def stdV (s : Std) : Value := .agg #[.int .i64 s.st, .int .i64 s.since, .string s.mat, .string s.job]

def stdR : Value → Option (DataW Unit × List MemPlace)
  | .agg ⟨[.int .i64 a, .int .i64 b, .string s, .string t]⟩ => some (stdD ⟨a, b, s, t⟩, [])
  | _ => none
/-- map[string]api.Standing -/
noncomputable def strT : MapTy Tryz.prog ByteArray Std where
  k := 9
  e := 105
  kv := .string
  ok := okK
  kl := strK
  keyed := str_keyed
  key := str_key
  kinj := str_inj
  inv := str_inv
  R := stdR
  ev := stdV
  okE := fun _ => True
  el := stdD
  zero := zeroS
  okZ := trivial
  plain := fun _ _ => rfl
  einv := fun v z h => by
    unfold stdR at h
    split at h
    · exact ⟨_, rfl, trivial, (Option.some.inj h).symm⟩
    · cases h
  einj := fun a b h => by
    cases a; cases b
    simp only [stdD, DataW.agg.injEq, List.cons.injEq, and_true] at h
    rw [numD_inj h.1, numD_inj h.2.1, txtD_inj h.2.2.1, txtD_inj h.2.2.2]

theorem zero_boolS (w : World) : (zeroValue 4).run Tryz.prog w = .ok (.bool false) w := by kernel_rfl

theorem zero_strS (w : World) : (zeroValue 9).run Tryz.prog w = .ok (.string ByteArray.empty) w := by kernel_rfl

theorem zero_stdS (w : World) : (zeroValue 105).run Tryz.prog w = .ok (stdV zeroS) w := by kernel_rfl

end Go.Proofs.YtanioobepfllgaaGreatDoor

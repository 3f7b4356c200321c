/- Contracts of functions that this seat's laws reach, each: what one call returns and what it leaves in memory; no condition beyond each theorem's own hypotheses. -/
import Derived.Test.YtjodjdjfagjiaaaMeshE
import Derived.Test.YtjodjdjfagjiaaaMapLib
set_option linter.unusedVariables false
set_option linter.unusedSimpArgs false
namespace Go.Proofs.Ytjodjdjfagjiaaa
open Go.RowKit Go.Bl Go.Maps Go.WideShapes

theorem laidOut : laidOutB Try.prog = true := by kernel_rfl
theorem size_pos : 0 < Try.prog.types.size := of_decide_eq_true (by kernel_rfl)
theorem side_row : 79 < Try.prog.types.size := of_decide_eq_true (by kernel_rfl)
theorem side_wide : (match Try.prog.underlying 79 with | some (.array _ _) | some (.struct _) => true | _ => false) = true := by rw [Try.underlying79]
theorem side_type : Try.prog.keyType 79 = true := by kernel_rfl
theorem side_cells : Try.prog.cellsOf 79 = 2 := by kernel_rfl
theorem int_cells : Try.prog.cellsOf 3 = 1 := by kernel_rfl
theorem side_at : Try.prog.keyTypeAt 2 79 = true := by kernel_rfl
set_option maxRecDepth 20000 in
theorem side_law : Keyed Try.prog 79 := Keyed.of_law (deep_law_laid laidOut (m := 2) (by omega) side_row side_at side_wide)

def okS (s : Sd) : Prop := (Lit.int .i64 s.u).wf = true ∧ (Lit.int .i64 s.v).wf = true
def sdV (s : Sd) : Value := .agg #[.int .i64 s.u, .int .i64 s.v]
def sdK (s : Sd) : Lit := .string (keyBytes [.int .i64 s.u, .int .i64 s.v])

theorem side_keyLits (d : Nat) (c0 c1 : Value) : Try.prog.keyLits (d + 2) 79 [c0, c1] = ((Try.prog.keyLits (d + 1) 3 [c0]).bind fun a => (Try.prog.keyLits (d + 1) 3 [c1]).map fun b => a ++ b) := by
  conv => lhs; unfold Program.keyLits
  simp only [Try.underlying79]
  simp [side_cells, int_cells]
  generalize Try.prog.keyLits (d + 1) 3 [c0] = x
  generalize Try.prog.keyLits (d + 1) 3 [c1] = y
  cases x <;> cases y <;> simp

theorem int_keyLits (d : Nat) (c : Value) (ls : List Lit) (h : Try.prog.keyLits (d + 1) 3 [c] = some ls) : ∃ n, c = .int .i64 n ∧ (Lit.int .i64 n).wf = true ∧ ls = [.int .i64 n] := by
  unfold Program.keyLits at h
  simp only [Try.underlying3] at h
  cases c <;> simp at h
  obtain ⟨⟨rfl, h1⟩, rfl⟩ := h
  exact ⟨_, rfl, h1, rfl⟩
theorem int_keyLits_mk (d : Nat) (n : Int) (h : (Lit.int .i64 n).wf = true) : Try.prog.keyLits (d + 1) 3 [.int .i64 n] = some [.int .i64 n] := by
  unfold Program.keyLits
  simp only [Try.underlying3]
  simp [h]

theorem size_two : ∃ d, Try.prog.types.size + 1 = d + 2 := ⟨Try.prog.types.size - 1, by have := size_pos; omega⟩

theorem side_key (s : Sd) (h : okS s) : keyOf Try.prog 79 (sdV s) = some (sdK s) := by
  obtain ⟨d, hd⟩ := size_two
  unfold keyOf
  simp only [Try.underlying79]
  rw [side_type, hd, show (sdV s).formed Try.prog 79 = true by simp [sdV, Value.formed, Try.underlying79, side_cells]]
  rw [show (sdV s).cells.toList = [.int .i64 s.u, .int .i64 s.v] from rfl, side_keyLits, int_keyLits_mk _ _ h.1, int_keyLits_mk _ _ h.2]
  rfl

theorem arr_two : ∀ (cs : Array Value), cs.size = 2 → ∃ c0 c1, cs = #[c0, c1]
  | ⟨[a, b]⟩, _ => ⟨a, b, rfl⟩

theorem side_inv (v : Value) (l : Lit) (h : keyOf Try.prog 79 v = some l) : ∃ s, v = sdV s ∧ okS s := by
  obtain ⟨d, hd⟩ := size_two
  unfold keyOf at h
  simp only [Try.underlying79] at h
  rw [side_type, hd] at h
  cases v with
  | agg cs =>
    by_cases hf : (Value.agg cs).formed Try.prog 79 = true
    · have hs : cs.size = 2 := by simpa [Value.formed, Try.underlying79, side_cells] using hf
      obtain ⟨c0, c1, rfl⟩ := arr_two cs hs
      simp only [hf, Bool.and_self, if_true] at h
      rw [show (Value.agg #[c0, c1]).cells.toList = [c0, c1] from rfl, side_keyLits] at h
      cases h0 : Try.prog.keyLits (d + 1) 3 [c0] with
      | none => rw [h0] at h; simp at h
      | some a =>
        cases h1 : Try.prog.keyLits (d + 1) 3 [c1] with
        | none => rw [h0, h1] at h; simp at h
        | some b =>
          obtain ⟨n, rfl, hn, _⟩ := int_keyLits _ _ _ h0
          obtain ⟨k, rfl, hk, _⟩ := int_keyLits _ _ _ h1
          exact ⟨⟨n, k⟩, rfl, hn, hk⟩
    · simp [hf] at h
  | _ => simp [Value.formed, Try.underlying79] at h

/-- sets of sides: map[api.Side]bool -/
def sideM : MapTy Try.prog Sd Bool where
  k := 79
  e := 4
  kv := sdV
  ok := okS
  kl := sdK
  keyed := side_law
  key := side_key
  kinj := fun x y h => by cases x; cases y; simp [sdV] at h; simp [h]
  inv := side_inv
  ev := .bool
  okE := fun _ => True
  el := fun b => .lit (.bool b)
  zero := false
  okZ := trivial
  plain := fun b _ => plainElem_bool Try.underlying4 b
  einv := fun v z h => by
    unfold plainElem at h
    simp only [Try.underlying4] at h
    cases v <;> simp at h
    subst h
    exact ⟨_, rfl, trivial, rfl⟩
  einj := fun a b h => by simpa using h

/-- the set of sides that are there -/
def setS (l : List Sd) : Sd → Option Bool := fun s => if s ∈ l then some true else none
theorem setS_get (l : List Sd) (s : Sd) : (setS l s).getD false = decide (s ∈ l) := by unfold setS; by_cases h : s ∈ l <;> simp [h]
theorem setS_put (l : List Sd) (s : Sd) : (fun z => if z = s then some true else setS l z) = setS (l ++ [s]) := by
  funext z
  unfold setS
  by_cases h : z = s <;> simp [h]

theorem zero_bool (w : World) : (zeroValue 4).run Try.prog w = .ok (.bool false) w := by kernel_rfl

theorem wpList_lookup_S (w : World) {ops : Array Oper} {rest : List Oper} {o : Oper} {a : Act} {Q : Exit → Act → World → Prop} (hg : o.guard = none) (mo x : Operand) (hop : o.op = Op.lookup 113 mo x false)
    (b n : Nat) (L : List Sd) (hm : a.eval mo = .map (some b)) (hown : MapOf sideM w b n (setS L)) (key : Sd) (hx : a.eval x = .agg #[.int .i64 key.u, .int .i64 key.v]) (hok : okS key)
    (bb : Bool) (hb : decide (key ∈ L) = bb) (hK : wpList Try.prog ops Q rest (a.put o.dst (.bool bb)) w) :
    wpList Try.prog ops Q (o :: rest) a w := by
  refine wpList_lookup_M w sideM hg mo x _ hop Try.underlying113 (zero_bool w) b n (setS L) hm hown key hx hok ?_
  rw [← hb, ← setS_get] at hK
  exact hK

theorem wpList_store_S (w : World) {ops : Array Oper} {rest : List Oper} {o : Oper} {a : Act} {Q : Exit → Act → World → Prop} (hg : o.guard = none) (mo x v : Operand) (hop : o.op = Op.mapUpdate 113 mo x v)
    (b n : Nat) (L : List Sd) (hm : a.eval mo = .map (some b)) (hown : MapOf sideM w b n (setS L)) (hn : n < maxLen) (key : Sd) (hx : a.eval x = .agg #[.int .i64 key.u, .int .i64 key.v]) (hv : a.eval v = .bool true) (hok : okS key)
    (hK : ∀ w', MapOf sideM w' b (n + 1) (setS (L ++ [key])) → w.grownBy w' (some b) → wpList Try.prog ops Q rest (a.put o.dst undef) w') :
    wpList Try.prog ops Q (o :: rest) a w := by
  refine wpList_store_M w sideM hg mo x v _ hop Try.underlying113 b n (setS L) hm hown hn key true hx hv hok trivial fun w' h1 h2 => ?_
  rw [setS_put] at h1
  exact hK w' h1 h2

end Go.Proofs.Ytjodjdjfagjiaaa

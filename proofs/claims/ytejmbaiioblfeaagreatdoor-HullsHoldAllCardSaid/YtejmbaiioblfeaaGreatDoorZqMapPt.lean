/- Contracts of functions that this seat's laws reach, each: what one call returns and what it leaves in memory; no condition beyond each theorem's own hypotheses. -/
import Derived.Test.YtejmbaiioblfeaaGreatDoorZqPathA
import Derived.Test.YtejmbaiioblfeaaGreatDoorZqMapLib
set_option linter.unusedVariables false
set_option linter.unusedSimpArgs false
namespace Go.Proofs.YtejmbaiioblfeaaGreatDoor
open Go.RowKit Go.Bl Go.Maps Go.WideShapes

theorem laidOutP : laidOutB Tryz.prog = true := by kernel_rfl

theorem size_posP : 0 < Tryz.prog.types.size := of_decide_eq_true (by kernel_rfl)

theorem pt_row : 29 < Tryz.prog.types.size := of_decide_eq_true (by kernel_rfl)

theorem pt_wide : (match Tryz.prog.underlying 29 with | some (.array _ _) | some (.struct _) => true | _ => false) = true := by rw [Tryz.underlying29]

theorem pt_type : Tryz.prog.keyType 29 = true := by kernel_rfl

theorem pt_cells : Tryz.prog.cellsOf 29 = 2 := by kernel_rfl

theorem int_cellsP : Tryz.prog.cellsOf 3 = 1 := by kernel_rfl

theorem pt_at : Tryz.prog.keyTypeAt 2 29 = true := by kernel_rfl

set_option maxRecDepth 20000 in
theorem pt_law : Keyed Tryz.prog 29 := Keyed.of_law (deep_law_laid laidOutP (m := 2) (by omega) pt_row pt_at pt_wide)

def okP (s : Pt) : Prop := (Lit.int .i64 s.x).wf = true ∧ (Lit.int .i64 s.y).wf = true

def ptV (s : Pt) : Value := .agg #[.int .i64 s.x, .int .i64 s.y]

def ptK (s : Pt) : Lit := .string (keyBytes [.int .i64 s.x, .int .i64 s.y])

theorem pt_keyLits (d : Nat) (c0 c1 : Value) : Tryz.prog.keyLits (d + 2) 29 [c0, c1] = ((Tryz.prog.keyLits (d + 1) 3 [c0]).bind fun a => (Tryz.prog.keyLits (d + 1) 3 [c1]).map fun b => a ++ b) := by
  conv => lhs; unfold Program.keyLits
  simp only [Tryz.underlying29]
  simp [pt_cells, int_cellsP]
  generalize Tryz.prog.keyLits (d + 1) 3 [c0] = x
  generalize Tryz.prog.keyLits (d + 1) 3 [c1] = y
  cases x <;> cases y <;> simp

theorem int_keyLitsP (d : Nat) (c : Value) (ls : List Lit) (h : Tryz.prog.keyLits (d + 1) 3 [c] = some ls) : ∃ n, c = .int .i64 n ∧ (Lit.int .i64 n).wf = true ∧ ls = [.int .i64 n] := by
  unfold Program.keyLits at h
  simp only [Tryz.underlying3] at h
  cases c <;> simp at h
  obtain ⟨⟨rfl, h1⟩, rfl⟩ := h
  exact ⟨_, rfl, h1, rfl⟩

theorem int_keyLits_mkP (d : Nat) (n : Int) (h : (Lit.int .i64 n).wf = true) : Tryz.prog.keyLits (d + 1) 3 [.int .i64 n] = some [.int .i64 n] := by
  unfold Program.keyLits
  simp only [Tryz.underlying3]
  simp [h]

theorem size_twoP : ∃ d, Tryz.prog.types.size + 1 = d + 2 := ⟨Tryz.prog.types.size - 1, by have := size_posP; omega⟩

theorem pt_key (s : Pt) (h : okP s) : keyOf Tryz.prog 29 (ptV s) = some (ptK s) := by
  obtain ⟨d, hd⟩ := size_twoP
  unfold keyOf
  simp only [Tryz.underlying29]
  rw [pt_type, hd, show (ptV s).formed Tryz.prog 29 = true by simp [ptV, Value.formed, Tryz.underlying29, pt_cells]]
  rw [show (ptV s).cells.toList = [.int .i64 s.x, .int .i64 s.y] from rfl, pt_keyLits, int_keyLits_mkP _ _ h.1, int_keyLits_mkP _ _ h.2]
  rfl

theorem arr_twoP : ∀ (cs : Array Value), cs.size = 2 → ∃ c0 c1, cs = #[c0, c1]
  | ⟨[a, b]⟩, _ => ⟨a, b, rfl⟩

theorem pt_inv (v : Value) (l : Lit) (h : keyOf Tryz.prog 29 v = some l) : ∃ s, v = ptV s ∧ okP s := by
  obtain ⟨d, hd⟩ := size_twoP
  unfold keyOf at h
  simp only [Tryz.underlying29] at h
  rw [pt_type, hd] at h
  cases v with
  | agg cs =>
    by_cases hf : (Value.agg cs).formed Tryz.prog 29 = true
    · have hs : cs.size = 2 := by simpa [Value.formed, Tryz.underlying29, pt_cells] using hf
      obtain ⟨c0, c1, rfl⟩ := arr_twoP cs hs
      simp only [hf, Bool.and_self, if_true] at h
      rw [show (Value.agg #[c0, c1]).cells.toList = [c0, c1] from rfl, pt_keyLits] at h
      cases h0 : Tryz.prog.keyLits (d + 1) 3 [c0] with
      | none => rw [h0] at h; simp at h
      | some a =>
        cases h1 : Tryz.prog.keyLits (d + 1) 3 [c1] with
        | none => rw [h0, h1] at h; simp at h
        | some b =>
          obtain ⟨n, rfl, hn, _⟩ := int_keyLitsP _ _ _ h0
          obtain ⟨k, rfl, hk, _⟩ := int_keyLitsP _ _ _ h1
          exact ⟨⟨n, k⟩, rfl, hn, hk⟩
    · simp [hf] at h
  | _ => simp [Value.formed, Tryz.underlying29] at h

/-- sets of sides: map[api.Point]bool -/
noncomputable def ptM : MapTy Tryz.prog Pt Bool where
  k := 29
  e := 4
  kv := ptV
  ok := okP
  kl := ptK
  keyed := pt_law
  key := pt_key
  kinj := fun x y h => by cases x; cases y; simp [ptV] at h; simp [h]
  inv := pt_inv
  ev := .bool
  okE := fun _ => True
  el := fun b => .lit (.bool b)
  zero := false
  okZ := trivial
  plain := fun b _ => plainElem_bool Tryz.underlying4 b
  einv := fun v z h => by
    unfold plainElem at h
    simp only [Tryz.underlying4] at h
    cases v <;> simp at h
    subst h
    exact ⟨_, rfl, trivial, rfl⟩
  einj := fun a b h => by simpa using h

/-- the set of sides that are there -/
def setP (l : List Pt) : Pt → Option Bool := fun s => if s ∈ l then some true else none

theorem setP_get (l : List Pt) (s : Pt) : (setP l s).getD false = decide (s ∈ l) := by unfold setP; by_cases h : s ∈ l <;> simp [h]

theorem setP_put (l : List Pt) (s : Pt) : (fun z => if z = s then some true else setP l z) = setP (l ++ [s]) := by
  funext z
  unfold setP
  by_cases h : z = s <;> simp [h]

theorem zero_boolP (w : World) : (zeroValue 4).run Tryz.prog w = .ok (.bool false) w := by kernel_rfl

theorem wpList_lookup_P (w : World) {ops : Array Oper} {rest : List Oper} {o : Oper} {a : Act} {Q : Exit → Act → World → Prop} (hg : o.guard = none) (mo x : Operand) (hop : o.op = Op.lookup 97 mo x false)
    (b n : Nat) (L : List Pt) (hm : a.eval mo = .map (some b)) (hown : MapOf ptM w b n (setP L)) (key : Pt) (hx : a.eval x = .agg #[.int .i64 key.x, .int .i64 key.y]) (hok : okP key)
    (bb : Bool) (hb : decide (key ∈ L) = bb) (hK : wpList Tryz.prog ops Q rest (a.put o.dst (.bool bb)) w) :
    wpList Tryz.prog ops Q (o :: rest) a w := by
  refine wpList_lookup_M w ptM hg mo x _ hop Tryz.underlying97 (zero_boolP w) b n (setP L) hm hown key hx hok ?_
  rw [← hb, ← setP_get] at hK
  exact hK

theorem wpList_store_P (w : World) {ops : Array Oper} {rest : List Oper} {o : Oper} {a : Act} {Q : Exit → Act → World → Prop} (hg : o.guard = none) (mo x v : Operand) (hop : o.op = Op.mapUpdate 97 mo x v)
    (b n : Nat) (L : List Pt) (hm : a.eval mo = .map (some b)) (hown : MapOf ptM w b n (setP L)) (hn : n < maxLen) (key : Pt) (hx : a.eval x = .agg #[.int .i64 key.x, .int .i64 key.y]) (hv : a.eval v = .bool true) (hok : okP key)
    (hK : ∀ w', MapOf ptM w' b (n + 1) (setP (L ++ [key])) → w.grownBy w' (some b) → wpList Tryz.prog ops Q rest (a.put o.dst undef) w') :
    wpList Tryz.prog ops Q (o :: rest) a w := by
  refine wpList_store_M w ptM hg mo x v _ hop Tryz.underlying97 b n (setP L) hm hown hn key true hx hv hok trivial fun w' h1 h2 => ?_
  rw [setP_put] at h1
  exact hK w' h1 h2

end Go.Proofs.YtejmbaiioblfeaaGreatDoor

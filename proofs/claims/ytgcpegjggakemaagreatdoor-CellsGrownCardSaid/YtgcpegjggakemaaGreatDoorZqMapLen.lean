/- Contracts of functions that this seat's laws reach, each: what one call returns and what it leaves in memory; no condition beyond each theorem's own hypotheses. -/
import Derived.Test.YtgcpegjggakemaaGreatDoorZqPathA
import Derived.Test.YtgcpegjggakemaaGreatDoorZqMapLib
set_option linter.unusedVariables false
set_option linter.unusedSimpArgs false
namespace Go.Proofs.YtgcpegjggakemaaGreatDoor
open Go.RowKit Go.Bl Go.Maps Go.WideShapes

theorem laidOutSp : laidOutB Tryz.prog = true := by kernel_rfl

theorem size_posSp : 0 < Tryz.prog.types.size := of_decide_eq_true (by kernel_rfl)

theorem sp_row : 89 < Tryz.prog.types.size := of_decide_eq_true (by kernel_rfl)

theorem sp_wide : (match Tryz.prog.underlying 89 with | some (.array _ _) | some (.struct _) => true | _ => false) = true := by rw [Tryz.underlying89]

theorem sp_type : Tryz.prog.keyType 89 = true := by kernel_rfl

theorem sp_cells : Tryz.prog.cellsOf 89 = 2 := by kernel_rfl

theorem int_cellsSp : Tryz.prog.cellsOf 3 = 1 := by kernel_rfl

theorem sp_at : Tryz.prog.keyTypeAt 2 89 = true := by kernel_rfl

set_option maxRecDepth 20000 in
theorem sp_law : Keyed Tryz.prog 89 := Keyed.of_law (deep_law_laid laidOutSp (m := 2) (by omega) sp_row sp_at sp_wide)

def okSp (s : Pt) : Prop := (Lit.int .i64 s.x).wf = true ∧ (Lit.int .i64 s.y).wf = true

def spV (s : Pt) : Value := .agg #[.int .i64 s.x, .int .i64 s.y]

def spK (s : Pt) : Lit := .string (keyBytes [.int .i64 s.x, .int .i64 s.y])

theorem sp_keyLits (d : Nat) (c0 c1 : Value) : Tryz.prog.keyLits (d + 2) 89 [c0, c1] = ((Tryz.prog.keyLits (d + 1) 3 [c0]).bind fun a => (Tryz.prog.keyLits (d + 1) 3 [c1]).map fun b => a ++ b) := by
  conv => lhs; unfold Program.keyLits
  simp only [Tryz.underlying89]
  simp [sp_cells, int_cellsSp]
  generalize Tryz.prog.keyLits (d + 1) 3 [c0] = x
  generalize Tryz.prog.keyLits (d + 1) 3 [c1] = y
  cases x <;> cases y <;> simp

theorem int_keyLitsSp (d : Nat) (c : Value) (ls : List Lit) (h : Tryz.prog.keyLits (d + 1) 3 [c] = some ls) : ∃ n, c = .int .i64 n ∧ (Lit.int .i64 n).wf = true ∧ ls = [.int .i64 n] := by
  unfold Program.keyLits at h
  simp only [Tryz.underlying3] at h
  cases c <;> simp at h
  obtain ⟨⟨rfl, h1⟩, rfl⟩ := h
  exact ⟨_, rfl, h1, rfl⟩

theorem int_keyLits_mkSp (d : Nat) (n : Int) (h : (Lit.int .i64 n).wf = true) : Tryz.prog.keyLits (d + 1) 3 [.int .i64 n] = some [.int .i64 n] := by
  unfold Program.keyLits
  simp only [Tryz.underlying3]
  simp [h]

theorem size_twoSp : ∃ d, Tryz.prog.types.size + 1 = d + 2 := ⟨Tryz.prog.types.size - 1, by have := size_posSp; omega⟩

theorem sp_key (s : Pt) (h : okSp s) : keyOf Tryz.prog 89 (spV s) = some (spK s) := by
  obtain ⟨d, hd⟩ := size_twoSp
  unfold keyOf
  simp only [Tryz.underlying89]
  rw [sp_type, hd, show (spV s).formed Tryz.prog 89 = true by simp [spV, Value.formed, Tryz.underlying89, sp_cells]]
  rw [show (spV s).cells.toList = [.int .i64 s.x, .int .i64 s.y] from rfl, sp_keyLits, int_keyLits_mkSp _ _ h.1, int_keyLits_mkSp _ _ h.2]
  rfl

theorem arr_twoSp : ∀ (cs : Array Value), cs.size = 2 → ∃ c0 c1, cs = #[c0, c1]
  | ⟨[a, b]⟩, _ => ⟨a, b, rfl⟩

theorem sp_inv (v : Value) (l : Lit) (h : keyOf Tryz.prog 89 v = some l) : ∃ s, v = spV s ∧ okSp s := by
  obtain ⟨d, hd⟩ := size_twoSp
  unfold keyOf at h
  simp only [Tryz.underlying89] at h
  rw [sp_type, hd] at h
  cases v with
  | agg cs =>
    by_cases hf : (Value.agg cs).formed Tryz.prog 89 = true
    · have hs : cs.size = 2 := by simpa [Value.formed, Tryz.underlying89, sp_cells] using hf
      obtain ⟨c0, c1, rfl⟩ := arr_twoSp cs hs
      simp only [hf, Bool.and_self, if_true] at h
      rw [show (Value.agg #[c0, c1]).cells.toList = [c0, c1] from rfl, sp_keyLits] at h
      cases h0 : Tryz.prog.keyLits (d + 1) 3 [c0] with
      | none => rw [h0] at h; simp at h
      | some a =>
        cases h1 : Tryz.prog.keyLits (d + 1) 3 [c1] with
        | none => rw [h0, h1] at h; simp at h
        | some b =>
          obtain ⟨n, rfl, hn, _⟩ := int_keyLitsSp _ _ _ h0
          obtain ⟨k, rfl, hk, _⟩ := int_keyLitsSp _ _ _ h1
          exact ⟨⟨n, k⟩, rfl, hn, hk⟩
    · simp [hf] at h
  | _ => simp [Value.formed, Tryz.underlying89] at h

/-- sets of sides: map[api.Point]bool -/
noncomputable def spM : MapTy Tryz.prog Pt Bool where
  k := 89
  e := 4
  kv := spV
  ok := okSp
  kl := spK
  keyed := sp_law
  key := sp_key
  kinj := fun x y h => by cases x; cases y; simp [spV] at h; simp [h]
  inv := sp_inv
  ev := .bool
  okE := fun _ => True
  el := fun b => .lit (.bool b)
  zero := false
  okZ := trivial
  plain := fun b _ => plainElem_bool Tryz.underlying4 b
  einv := fun v z h => by
    unfold plainElem at h
    simp only [Tryz.underlying4] at h
    cases v <;> simp at h
    subst h
    exact ⟨_, rfl, trivial, rfl⟩
  einj := fun a b h => by simpa using h

/-- a set of cells as a map -/
def setC (S : Int → Int → Bool) : Pt → Option Bool := fun k => if S k.x k.y then some true else none

theorem setC_get (S : Int → Int → Bool) (x y : Int) : (setC S ⟨x, y⟩).getD false = S x y := by unfold setC; cases S x y <;> simp

theorem setC_put (S : Int → Int → Bool) (x y : Int) : (fun z => if z = (⟨x, y⟩ : Pt) then some true else setC S z) = setC (fun u v => S u v || decide (u = x ∧ v = y)) := by
  funext z
  cases z with | mk u v =>
  unfold setC
  by_cases h : u = x ∧ v = y
  · obtain ⟨rfl, rfl⟩ := h
    simp
  · simp only [Pt.mk.injEq, h, if_false, decide_false, Bool.or_false]

theorem setC_some (S : Int → Int → Bool) (k : Pt) : (setC S k).isSome = S k.x k.y := by unfold setC; cases S k.x k.y <;> simp

theorem zero_boolSp (w : World) : (zeroValue 4).run Tryz.prog w = .ok (.bool false) w := by kernel_rfl

theorem i64_wfS {n : Int} (h : -9223372036854775808 ≤ n ∧ n ≤ 9223372036854775807) : (Lit.int .i64 n).wf = true := by
  unfold Lit.wf
  simp [IntKind.wrap, i64_in h]
  exact h

theorem okSp_of {x y : Int} (hx : -9223372036854775808 ≤ x ∧ x ≤ 9223372036854775807) (hy : -9223372036854775808 ≤ y ∧ y ≤ 9223372036854775807) : okSp ⟨x, y⟩ := ⟨i64_wfS hx, i64_wfS hy⟩

/-- block b of w is a map that holds a set of cells, in at most n entries -/
def SetAt (w : World) (b n : Nat) (S : Int → Int → Bool) : Prop := MapOf spM w b n (setC S)
variable {w w' : World} {b n : Nat} {S T : Int → Int → Bool}

theorem SetAt.made (w : World) : SetAt (w.alloc (.map #[] 0)) w.heap.size 0 (fun _ _ => false) := (MapOf.made spM w).congr fun x _ => by simp [setC]

theorem SetAt.gr {r : Option Nat} (h : SetAt w b n S) (hg : w.grownBy w' r) (hr : r ≠ some b) : SetAt w' b n S := h.kept hg hr

theorem SetAt.pure (h : SetAt w b n S) (hg : w.grownBy w' none) : SetAt w' b n S := h.kept hg (by simp)

theorem SetAt.lt (h : SetAt w b n S) : b < w.heap.size := MapOf.lt h

theorem SetAt.congr (h : SetAt w b n S) (hS : ∀ x y, S x y = T x y) : SetAt w b n T := by
  have : S = T := funext fun x => funext fun y => hS x y
  rw [← this]; exact h

theorem SetAt.mono {n' : Nat} (h : SetAt w b n S) (hn : n ≤ n') : SetAt w b n' S := MapOf.mono h hn

theorem SetAt.look (h : SetAt w b n S) {x y : Int} (hx : okSp ⟨x, y⟩) : (Instr.lookup 92 (.map (some b)) (.agg #[.int .i64 x, .int .i64 y]) false).run Tryz.prog w = .ok (.bool (S x y)) w := by
  have := MapOf.look (t := 92) h Tryz.underlying92 (zero_boolSp w) hx
  rw [show spM.zero = false from rfl, setC_get] at this
  exact this

theorem SetAt.store (h : SetAt w b n S) (hn : n < maxLen) {x y : Int} (hx : okSp ⟨x, y⟩) :
    ∃ w', (Instr.mapUpdate 92 (.map (some b)) (.agg #[.int .i64 x, .int .i64 y]) (.bool true)).run Tryz.prog w = .ok () w' ∧ SetAt w' b (n + 1) (fun u v => S u v || decide (u = x ∧ v = y)) ∧ w.grownBy w' (some b) := by
  obtain ⟨w', h1, h2, h3⟩ := MapOf.store (t := 92) h Tryz.underlying92 hn hx (y := true) trivial
  refine ⟨w', h1, ?_, h3⟩
  unfold SetAt
  rw [← setC_put]
  exact h2

end Go.Proofs.YtgcpegjggakemaaGreatDoor

namespace Go.Bl
open Go Go.Maps Go.RowKit Go.WideElems Go.WideShapes
section
variable {P : Program} {α β : Type} {M : MapTy P α β} {w : World} {b n : Nat} {m : α → Option β}

theorem MapOf.size_eq (h : MapOf M w b n m) {l : List α} (hn : l.Nodup) (hl : ∀ x, x ∈ l ↔ M.ok x ∧ (m x).isSome = true) : ∃ D : DataW Unit, w.ownsMap P M.k M.R b n D ∧ Maps.size D = l.length := by
  have hh := h
  obtain ⟨D, h1, h2⟩ := h
  refine ⟨D, h1, ?_⟩
  have hhas : ∀ x, M.ok x → Maps.has D (M.kl x) = (m x).isSome := fun x hx => hh.has hx D (h2 x hx).2
  obtain ⟨es, clock, hb, F, hs, rfl⟩ := h1
  have hkey : ∀ p ∈ (es.toList.map (rg P M.k M.R)).foldr DataW.insert [], ∃ s, M.ok s ∧ p.1 = M.kl s := fun p hp => by
    obtain ⟨x, hx, rfl⟩ := List.mem_map.1 (mem_sorted.1 hp)
    obtain ⟨y, hy⟩ := F.reads x hx
    rw [rg_of hy]
    have hk := rd_key hy
    obtain ⟨s, e, hs⟩ := M.inv _ _ hk
    have := M.key s hs
    rw [← e, hk] at this
    exact ⟨s, hs, Option.some.inj this⟩
  have hap : ((es.toList.map (rg P M.k M.R)).foldr DataW.insert []).Pairwise (fun p q => p.1 ≠ q.1) := ((sorted_perm _).pairwise_iff (fun {_ _} hne => Ne.symm hne)).2 (Maps.fit_apart M.keyed F)
  generalize (es.toList.map (rg P M.k M.R)).foldr DataW.insert [] = L at *
  have hk1 : (L.map (·.1)).Nodup := by
    rw [List.Nodup, List.pairwise_map]; exact hap
  have hk2 : (l.map M.kl).Nodup := by
    rw [List.Nodup, List.pairwise_map]
    refine List.Pairwise.imp_of_mem (fun {x y} hx hy hne e => hne (M.klinj ((hl x).1 hx).1 ((hl y).1 hy).1 e)) hn
  have hp : (L.map (·.1)).Perm (l.map M.kl) := by
    rw [List.perm_ext_iff_of_nodup hk1 hk2]
    intro a
    rw [List.mem_map, List.mem_map]
    constructor
    · rintro ⟨p, hp, rfl⟩
      obtain ⟨s, hs, e⟩ := hkey p hp
      refine ⟨s, (hl s).2 ⟨hs, ?_⟩, e.symm⟩
      rw [← hhas s hs, ← e]
      show L.any (fun q => q.1.sameKey p.1) = true
      rw [List.any_eq_true]
      exact ⟨p, hp, by rw [e]; exact WideAt.sameKey_self (M.litKey hs)⟩
    · rintro ⟨s, hs, rfl⟩
      obtain ⟨ho, hi⟩ := (hl s).1 hs
      have := hhas s ho
      rw [hi] at this
      have : L.any (fun q => q.1.sameKey (M.kl s)) = true := this
      rw [List.any_eq_true] at this
      obtain ⟨p, hp, e⟩ := this
      refine ⟨p, hp, ?_⟩
      by_cases hq : p.1 = M.kl s
      · exact hq
      · rw [sameKey_ne hq] at e; cases e
  have := hp.length_eq
  rw [List.length_map, List.length_map] at this
  exact this

theorem MapOf.len {t : TypeId} (h : MapOf M w b n m) (ht : P.underlying t = some (.map M.k M.e)) {l : List α} (hn : l.Nodup) (hl : ∀ x, x ∈ l ↔ M.ok x ∧ (m x).isSome = true) (ty : TypeId) :
    (Builtin.len_ #[t] ty #[.map (some b)]).run P w = .ok (.int .i64 l.length) w := by
  obtain ⟨D, h1, h2⟩ := h.size_eq hn hl
  rw [← h2]
  exact h1.len ht ty
end

end Go.Bl

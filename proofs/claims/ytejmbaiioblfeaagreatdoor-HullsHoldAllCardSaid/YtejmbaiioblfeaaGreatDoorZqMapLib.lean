/- Contracts of functions that this seat's laws reach, each: what one call returns and what it leaves in memory; no condition beyond each theorem's own hypotheses. -/
import Derived.Test.YtejmbaiioblfeaaGreatDoorZqKit3
import Derived.Maps.Own
import Derived.Maps.OwnOps
import Derived.Maps.Views
import Derived.Maps.OwnSet
import Derived.Maps.RangeWalk
import Derived.DeepKeys4
set_option linter.unusedVariables false
set_option linter.unusedSimpArgs false
namespace Go.Bl
open Go Go.RowKit Go.WideShapes Go.Maps

/-- how the keys and the elements of a kind of map lie in memory, and how they are read -/
structure MapTy (P : Program) (α β : Type) where
  k : TypeId
  e : TypeId
  kv : α → Value
  ok : α → Prop
  kl : α → Lit
  keyed : Keyed P k
  key : ∀ x, ok x → keyOf P k (kv x) = some (kl x)
  kinj : ∀ x y, kv x = kv y → x = y
  inv : ∀ v l, keyOf P k v = some l → ∃ x, v = kv x ∧ ok x
  R : Value → Option (DataW Unit × List MemPlace) := plainElem P e
  ev : β → Value
  okE : β → Prop
  el : β → DataW Unit
  zero : β
  okZ : okE zero
  plain : ∀ b, okE b → R (ev b) = some (el b, [])
  einv : ∀ v z, R v = some z → ∃ b, v = ev b ∧ okE b ∧ z = (el b, [])
  einj : ∀ a b, el a = el b → a = b

variable {P : Program} {α β : Type}

theorem MapTy.litKey (M : MapTy P α β) {x : α} (hx : M.ok x) : WideAt.IsKeyLit (M.kl x) := M.keyed.key (M.key x hx)

theorem MapTy.klinj (M : MapTy P α β) {x y : α} (hx : M.ok x) (hy : M.ok y) (h : M.kl x = M.kl y) : x = y :=
  M.kinj _ _ (M.keyed.inj (M.key x hx) (h ▸ M.key y hy))

/-- block b of w is a map of at most n entries that holds m -/
def MapOf (M : MapTy P α β) (w : World) (b n : Nat) (m : α → Option β) : Prop :=
  ∃ D : DataW Unit, w.ownsMap P M.k M.R b n D ∧ ∀ x, M.ok x → (∀ y, m x = some y → M.okE y) ∧ ∀ zd, D.atKey (M.kl x) zd = ((m x).map M.el).getD zd

section
variable {M : MapTy P α β} {w w' : World} {b n : Nat} {m : α → Option β}

theorem MapOf.made (M : MapTy P α β) (w : World) : MapOf M (w.alloc (.map #[] 0)) w.heap.size 0 (fun _ => none) :=
  ⟨.map [], World.ownsMap_made w P M.k _, fun x _ => ⟨fun y e => by simp at e, fun zd => atKey_of_not_has rfl zd⟩⟩

theorem MapOf.lt (h : MapOf M w b n m) : b < w.heap.size := let ⟨_, h1, _⟩ := h; h1.lt

theorem MapOf.kept {row : Option Nat} (h : MapOf M w b n m) (hg : w.grownBy w' row) (hne : row ≠ some b) : MapOf M w' b n m := let ⟨D, h1, h2⟩ := h; ⟨D, h1.kept hg (fun e => hne e.symm), h2⟩

theorem MapOf.mono {n' : Nat} (h : MapOf M w b n m) (hn : n ≤ n') : MapOf M w b n' m := let ⟨D, h1, h2⟩ := h; ⟨D, h1.mono hn, h2⟩

theorem MapOf.congr {m' : α → Option β} (h : MapOf M w b n m) (hm : ∀ x, M.ok x → m' x = m x) : MapOf M w b n m' :=
  let ⟨D, h1, h2⟩ := h; ⟨D, h1, fun x hx => by rw [hm x hx]; exact h2 x hx⟩

theorem MapOf.look {t : TypeId} (h : MapOf M w b n m) (ht : P.underlying t = some (.map M.k M.e)) (hz : (zeroValue M.e).run P w = .ok (M.ev M.zero) w) {x : α} (hx : M.ok x) :
    (Instr.lookup t (.map (some b)) (M.kv x) false).run P w = .ok (M.ev ((m x).getD M.zero)) w := by
  obtain ⟨D, h1, h2⟩ := h
  obtain ⟨v, ps, hrun, hv⟩ := h1.lookup M.keyed ht hz (M.plain _ M.okZ) (M.key x hx)
  obtain ⟨c, rfl, _, hc⟩ := M.einv _ _ hv
  simp only [Prod.mk.injEq] at hc
  rw [(h2 x hx).2] at hc
  have e : M.el ((m x).getD M.zero) = M.el c := by
    rw [← hc.1]
    cases m x <;> rfl
  rw [M.einj _ _ e]
  exact hrun

theorem MapOf.has (h : MapOf M w b n m) {x : α} (hx : M.ok x) (D : DataW Unit) (hD : ∀ zd, D.atKey (M.kl x) zd = ((m x).map M.el).getD zd) : Maps.has D (M.kl x) = (m x).isSome := by
  cases hm : m x with
  | none => simp only [hm, Option.map_none, Option.getD_none] at hD; simp [has_false_of_atKey hD]
  | some y => simp only [hm, Option.map_some, Option.getD_some] at hD; simp [has_true_of_atKey hD]

theorem MapOf.store [DecidableEq α] {t : TypeId} (h : MapOf M w b n m) (ht : P.underlying t = some (.map M.k M.e)) (hn : n < maxLen) {x : α} (hx : M.ok x) {y : β} (hy : M.okE y) :
    ∃ w', (Instr.mapUpdate t (.map (some b)) (M.kv x) (M.ev y)).run P w = .ok () w' ∧ MapOf M w' b (n + 1) (fun z => if z = x then some y else m z) ∧ w.grownBy w' (some b) := by
  obtain ⟨D, h1, h2⟩ := h
  have hD := h1.isMap
  obtain ⟨w', hrun, h3, h4⟩ := h1.update M.keyed ht hn (M.key x hx) (M.plain y hy)
  refine ⟨w', hrun, ⟨_, h3, fun z hz => ?_⟩, h4⟩
  by_cases e : z = x
  · subst e
    simp only [if_true]
    exact ⟨fun y' e => by cases e; exact hy, fun zd => by rw [atKey_put_same hD (M.litKey hz)]; rfl⟩
  · simp only [e, if_false]
    exact ⟨(h2 z hz).1, fun zd => by rw [atKey_put_other (fun e' => e (M.klinj hz hx e'))]; exact (h2 z hz).2 zd⟩

/-- a range over the map, under way: S are the keys still to come, cnt how many -/
def RangeOf (M : MapTy P α β) (w : World) (b r n : Nat) (m : α → Option β) (S : α → Prop) (cnt : Nat) : Prop :=
  ∃ (D : DataW Unit) (left : Lit → Bool), w.ranges P M.k M.R b r n D left cnt ∧ (∀ x, M.ok x → (∀ y, m x = some y → M.okE y) ∧ ∀ zd, D.atKey (M.kl x) zd = ((m x).map M.el).getD zd) ∧ ∀ x, M.ok x → (left (M.kl x) = true ↔ S x)
variable {r cnt : Nat} {S : α → Prop}

theorem RangeOf.map (h : RangeOf M w b r n m S cnt) : MapOf M w b n m := let ⟨D, _, h1, h2, _⟩ := h; ⟨D, h1.owns, h2⟩

theorem RangeOf.left (h : RangeOf M w b r n m S cnt) : w.rangeLeft b r = cnt := let ⟨_, _, h1, _, _⟩ := h; h1.left_eq

theorem RangeOf.ne (h : RangeOf M w b r n m S cnt) : r ≠ b := let ⟨_, _, h1, _, _⟩ := h; h1.ne

theorem RangeOf.lt (h : RangeOf M w b r n m S cnt) : r < w.heap.size := let ⟨_, _, h1, _, _⟩ := h; h1.lt

theorem RangeOf.kept {row : Option Nat} (h : RangeOf M w b r n m S cnt) (hg : w.grownBy w' row) (h1 : row ≠ some b) (h2 : row ≠ some r) : RangeOf M w' b r n m S cnt :=
  let ⟨D, l, h3, h4, h5⟩ := h; ⟨D, l, h3.kept hg (fun e => h1 e.symm) (fun e => h2 e.symm), h4, h5⟩

theorem RangeOf.congr {S' : α → Prop} (h : RangeOf M w b r n m S cnt) (hS : ∀ x, M.ok x → (S x ↔ S' x)) : RangeOf M w b r n m S' cnt :=
  let ⟨D, l, h3, h4, h5⟩ := h; ⟨D, l, h3, h4, fun x hx => (h5 x hx).trans (hS x hx)⟩
end

section
variable (w : World) {ops : Array Oper} {rest : List Oper} {o : Oper} {a : Act} {Q : Exit → Act → World → Prop}

theorem wpList_lookup_M (M : MapTy P α β) (hg : o.guard = none) (mo x : Operand) (t : TypeId) (hop : o.op = Op.lookup t mo x false)
    (ht : P.underlying t = some (.map M.k M.e)) (hz : (zeroValue M.e).run P w = .ok (M.ev M.zero) w) (b n : Nat) (m : α → Option β) (hm : a.eval mo = .map (some b)) (hown : MapOf M w b n m) (key : α) (hx : a.eval x = M.kv key) (hok : M.ok key)
    (hK : wpList P ops Q rest (a.put o.dst (M.ev ((m key).getD M.zero))) w) :
    wpList P ops Q (o :: rest) a w := by
  refine wpList_plain hg fun K' hK' => ?_
  unfold Oper.wp
  simp [execOp, hop, hm, hx, hown.look ht hz hok, Result.andThen]
  exact hK' _ _ hK

theorem wpList_store_M [DecidableEq α] (M : MapTy P α β) (hg : o.guard = none) (mo x v : Operand) (t : TypeId) (hop : o.op = Op.mapUpdate t mo x v)
    (ht : P.underlying t = some (.map M.k M.e)) (b n : Nat) (m : α → Option β) (hm : a.eval mo = .map (some b)) (hown : MapOf M w b n m) (hn : n < maxLen) (key : α) (y : β) (hx : a.eval x = M.kv key) (hv : a.eval v = M.ev y) (hok : M.ok key) (hy : M.okE y)
    (hK : ∀ w', MapOf M w' b (n + 1) (fun z => if z = key then some y else m z) → w.grownBy w' (some b) → wpList P ops Q rest (a.put o.dst undef) w') :
    wpList P ops Q (o :: rest) a w := by
  refine wpList_plain hg fun K' hK' => ?_
  obtain ⟨w', hrun, h1, h2⟩ := hown.store ht hn hok hy
  unfold Oper.wp
  simp [execOp, hop, hm, hx, hv, hrun, Result.andThen]
  exact hK' _ _ (hK w' h1 h2)

end

end Go.Bl

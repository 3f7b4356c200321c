/- Contracts of functions that this seat's laws reach, each: what one call returns and what it leaves in memory; no condition beyond each theorem's own hypotheses. -/
import Derived.Test.YtgcfaamgilbjdaaGreatDoorZqTree
import Derived.StillTail
set_option linter.unusedVariables false
set_option linter.unusedSimpArgs false
namespace Go.Bl
open Go
variable {P : Program} {ops : Array Oper} {C : World → Prop}

/-- each operation has one value in all worlds of C, and stays in C -/
def FixL (P : Program) (C : World → Prop) : List Oper → Act → (Act → Prop) → Prop
  | [], a, K => K a
  | o :: r, a, K => ∃ v, (∀ wx, C wx → ∀ K' : Act → World → Prop, (∀ w', C w' → K' (a.put o.dst v) w') → o.wp P a wx K' NoQ) ∧ FixL P C r (a.put o.dst v) K

theorem FixL.op {o : Oper} {r : List Oper} {a : Act} {K : Act → Prop} (v : Value) (h : ∀ wx, C wx → ∀ K' : Act → World → Prop, (∀ w', C w' → K' (a.put o.dst v) w') → o.wp P a wx K' NoQ) (hr : FixL P C r (a.put o.dst v) K) : FixL P C (o :: r) a K := ⟨v, h, hr⟩

/-- what is asked: n operations at the head -/
def fixB (l : List Oper) (n : Nat) : Bool :=
  Region.noSelect l.toArray && decide (n ≤ l.length) && ((List.range l.length).all fun j => (l[j]?.map fun o => (o.after.toList.all fun e => !Region.binds .any e || decide (e.on < j)) && (!decide (j < n) ||
    (o.guard.isNone && (List.range n).all fun i => (l[i]?.map fun oi => match oi.dst with
      | none => true
      | some d => (i == j || o.dst != some d) && (!(o.looksAt l.toArray).contains d || (decide (i < j) && reachB .any l.toArray (j + 1) j i))).getD true)) && (decide (j < n) || (List.range n).all fun i => reachB .any l.toArray (j + 1) j i)).getD true) &&
  Region.seqB .any l.toArray (l.length - n) n ((List.replicate n true ++ List.replicate (l.length - n) false).toArray)

end Go.Bl

namespace Go.Bl
open Go
variable {P : Program}

/-- what is shown of each operation of the head -/
def HOps (P : Program) (I : World → Prop) (M : World → World → Prop) (F : (Nat → Value) → Act) (la : Array Oper) (Φ : Nat → Value → World → Prop) : List Oper → Nat → Prop
  | [], _ => True
  | o :: r, j => (∀ vs w, I w → (∀ i, i < j → reachB .any la (j + 1) j i = true → Φ i (vs i) w) → ∀ K : Act → World → Prop, (∀ v w', I w' → M w w' → Φ j v w' → K ((F vs).put o.dst v) w') → o.wp P (F vs) w K NoQ) ∧ HOps P I M F la Φ r (j + 1)

theorem HOps.at_ {I : World → Prop} {M : World → World → Prop} {F : (Nat → Value) → Act} {la : Array Oper} {Φ : Nat → Value → World → Prop} : ∀ {r : List Oper} {k : Nat}, HOps P I M F la Φ r k → ∀ {i : Nat} {o : Oper}, r[i]? = some o →
    ∀ vs w, I w → (∀ d, d < k + i → reachB .any la (k + i + 1) (k + i) d = true → Φ d (vs d) w) → o.wp P (F vs) w (fun a' w' => ∃ v, a' = (F vs).put o.dst v ∧ I w' ∧ M w w' ∧ Φ (k + i) v w') NoQ
  | [], _, _, _, _, h => by simp at h
  | _ :: _, k, h, 0, o, ho => by
    simp only [List.getElem?_cons_zero, Option.some.injEq] at ho
    subst ho
    exact fun vs w hI hf => h.1 vs w hI hf _ fun v w' h1 h2 h3 => ⟨v, rfl, h1, h2, h3⟩
  | _ :: r, k, h, i + 1, o, ho => by
    have := HOps.at_ h.2 (i := i) (o := o) (by simpa using ho)
    rw [Nat.add_assoc, Nat.add_comm 1 i] at this
    exact this

theorem HOps.op {I : World → Prop} {M : World → World → Prop} {F : (Nat → Value) → Act} {la : Array Oper} {Φ : Nat → Value → World → Prop} {o : Oper} {r : List Oper} {j : Nat}
    (h : ∀ vs w, I w → (∀ i, i < j → reachB .any la (j + 1) j i = true → Φ i (vs i) w) → ∀ K : Act → World → Prop, (∀ v w', I w' → M w w' → Φ j v w' → K ((F vs).put o.dst v) w') → o.wp P (F vs) w K NoQ) (hr : HOps P I M F la Φ r (j + 1)) : HOps P I M F la Φ (o :: r) j := ⟨h, hr⟩

theorem HOps.done {I : World → Prop} {M : World → World → Prop} {F : (Nat → Value) → Act} {la : Array Oper} {Φ : Nat → Value → World → Prop} {j : Nat} : HOps P I M F la Φ [] j := trivial

def StabH (M : World → World → Prop) : List (Value → World → Prop) → Prop
  | [] => True
  | φ :: r => (∀ v w w', M w w' → φ v w → φ v w') ∧ StabH M r

theorem StabH.at_ {M : World → World → Prop} : ∀ {Φ : List (Value → World → Prop)}, StabH M Φ → ∀ (i : Nat) v w w', M w w' → Φ.getD i (fun _ _ => False) v w → Φ.getD i (fun _ _ => False) v w'
  | [], _, i, _, _, _, _, h => by simp at h
  | _ :: _, hs, 0, v, w, w', hM, h => hs.1 v w w' hM h
  | _ :: r, hs, i + 1, v, w, w', hM, h => by
    have := StabH.at_ (Φ := r) hs.2 i v w w' hM (by simpa using h)
    simpa using this

end Go.Bl

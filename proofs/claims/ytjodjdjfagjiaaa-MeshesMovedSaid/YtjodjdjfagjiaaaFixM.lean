/- Regions that draw their order, all operations of one value each, effects told by an invariant that knows which operations are done. -/
import Derived.Test.YtjodjdjfagjiaaaFix
set_option linter.unusedVariables false
set_option linter.unusedSimpArgs false
namespace Go.Bl
open Go
variable {P : Program}

/-- each operation has one value in all worlds of I, and goes on in I -/
def FixML (P : Program) (I : (Nat → Bool) → World → Prop) : List Oper → Nat → Act → (Act → Prop) → Prop
  | [], _, a, K => K a
  | o :: r, j, a, K => ∃ v, (∀ wx (m : Nat → Bool), m j = false → I m wx → ∀ K' : Act → World → Prop, (∀ w', I (setm m j) w' → K' (a.put o.dst v) w') → o.wp P a wx K' NoQ) ∧ FixML P I r (j + 1) (a.put o.dst v) K

theorem fixm_b {I : (Nat → Bool) → World → Prop} {o : Oper} {r : List Oper} {j : Nat} {a : Act} {K0 : Act → Prop} (h : ∀ K : Act → Prop, (∀ a', FixML P I r (j + 1) a' K0 → K a') → ∃ v, (∀ wx (m : Nat → Bool), m j = false → I m wx → ∀ K' : Act → World → Prop, (∀ w', I (setm m j) w' → K' (a.put o.dst v) w') → o.wp P a wx K' NoQ) ∧ K (a.put o.dst v)) : FixML P I (o :: r) j a K0 :=
  h _ fun _ h => h
theorem fixm_nil {I : (Nat → Bool) → World → Prop} {j : Nat} {a : Act} {K0 : Act → Prop} (h : K0 a) : FixML P I [] j a K0 := h

theorem fixm_vals {I : (Nat → Bool) → World → Prop} {K : Act → Prop} : ∀ (l : List Oper) (k : Nat) (a : Act), FixML P I l k a K → ∃ vs : Nat → Value,
    (∀ (j : Nat) (o : Oper), l[j]? = some o → ∀ wx (m : Nat → Bool), m (k + j) = false → I m wx → o.wp P (putAll vs (l.take j) k a) wx (fun a' w' => a' = (putAll vs (l.take j) k a).put o.dst (vs (k + j)) ∧ I (setm m (k + j)) w') NoQ) ∧ K (putAll vs l k a)
  | [], _, _, h => ⟨fun _ => undef, fun j o ho => by simp at ho, h⟩
  | o :: r, k, a, ⟨v, h, hr⟩ => by
    obtain ⟨vs, h1, h2⟩ := fixm_vals r (k + 1) _ hr
    have hk : updv vs k v k = v := by simp [updv]
    have hc : ∀ (l : List Oper) (b : Act), putAll (updv vs k v) l (k + 1) b = putAll vs l (k + 1) b := fun l b => putAll_congr l (k + 1) b fun i hi _ => by simp [updv, show i ≠ k by omega]
    refine ⟨updv vs k v, fun j o' ho wx m hmj hI => ?_, ?_⟩
    · cases j with
      | zero =>
        simp only [List.getElem?_cons_zero, Option.some.injEq] at ho
        subst ho
        simp only [List.take_zero, putAll, Nat.add_zero, hk] at hmj ⊢
        exact h wx m hmj hI _ fun w' hw => ⟨rfl, hw⟩
      | succ j =>
        have e : k + 1 + j = k + (j + 1) := by omega
        have := h1 j o' (by simpa using ho) wx m (by rw [e]; exact hmj) hI
        simp only [List.take_succ_cons, putAll, hk, hc]
        rw [show updv vs k v (k + (j + 1)) = vs (k + 1 + j) by rw [e]; simp [updv], ← e]
        exact this
    · simp only [putAll, hk, hc]
      exact h2

theorem MOps.mk {I : (Nat → Bool) → Nat → World → Prop} {M : (Nat → Bool) → World → World → Prop} {tot : Nat} {a : Act} {l : List Oper} {Φ : Nat → Value → World → Prop} : ∀ (l' : List Oper) (k : Nat),
    (∀ (i : Nat) (o : Oper), l'[i]? = some o → ∀ vs w m n, m (k + i) = false → Cl l m → I m n w → n ≤ tot → (∀ d, d < k + i → reachB .any l.toArray (k + i + 1) (k + i) d = true → Φ d (vs d) w) →
      o.wp P (putAll vs l 0 a) w (fun a' w' => ∃ v, a' = (putAll vs l 0 a).put o.dst v ∧ I (setm m (k + i)) n w' ∧ M m w w' ∧ Φ (k + i) v w') NoQ) → MOps P I M tot a l Φ l' (List.replicate l'.length 0) k
  | [], _, _ => trivial
  | o :: r, k, h => ⟨fun vs w m n h1 h2 h3 h4 h5 => by
      have := h 0 o rfl vs w m n h1 h2 h3 (by simpa [List.replicate_succ] using h4) h5
      simp only [List.length_cons, List.replicate_succ, List.headD_cons, Nat.add_zero] at this ⊢
      exact this, by
      have := MOps.mk (I := I) (M := M) (tot := tot) (a := a) (l := l) (Φ := Φ) r (k + 1) fun i o' ho => by
        have := h (i + 1) o' (by simpa using ho)
        rwa [show k + (i + 1) = k + 1 + i by omega] at this
      simp only [List.length_cons, List.replicate_succ, List.tail_cons]
      exact this⟩

theorem putSome_congr2 {vs vs' : Nat → Value} {m : Nat → Bool} : ∀ (l : List Oper) (k : Nat) (a : Act), (∀ i, k ≤ i → i < k + l.length → m i = true → vs i = vs' i) → putSome vs m l k a = putSome vs' m l k a
  | [], _, _, _ => rfl
  | o :: r, k, a, h => by
    simp only [putSome]
    cases hm : m k
    · simp only [Bool.false_eq_true, if_false]
      exact putSome_congr2 r (k + 1) _ fun i h1 h2 => h i (by omega) (by simp; omega)
    · simp only [if_true, h k (Nat.le_refl _) (by simp) hm]
      exact putSome_congr2 r (k + 1) _ fun i h1 h2 => h i (by omega) (by simp; omega)

theorem wp_region_fixm {id : Nat} {Q : Exit → Act → World → Prop} {a : Act} {w : World} {l : List Oper} (I : (Nat → Bool) → World → Prop) (hm : P.follows .mixedOrders = true) (hB : invB l = true) (hI : ∀ m : Nat → Bool, (∀ i, i < l.length → m i = false) → I m w.drew)
    (h : FixML P I l 0 a fun a' => ∀ w' (m : Nat → Bool), (∀ i, i < l.length → m i = true) → I m w' → Q .normal a' w') : (Code.region id l.toArray true).wp P Q a w := by
  obtain ⟨vs0, h1, h2⟩ := fixm_vals _ 0 a h
  have hB' := hB
  simp only [invB, Bool.and_eq_true, List.all_eq_true, List.mem_range] at hB'
  obtain ⟨hsel0, hB2⟩ := hB'
  have hsel := Region.noSelect_spec hsel0
  have hsum : (List.replicate l.length 0).sum = 0 := by simp
  have hget : ∀ i, i < l.length → ((List.range l.length).map fun i => fun (v : Value) (_ : World) => v = vs0 i).getD i (fun _ _ => False) = fun v _ => v = vs0 i := fun i hi => by
    rw [List.getD_eq_getElem?_getD, List.getElem?_map, List.getElem?_range hi]; rfl
  refine wp_region_minv (fun m _ w => I m w) (fun _ _ _ => True) ((List.range l.length).map fun i => fun v _ => v = vs0 i) (List.replicate l.length 0) hm hB hI (fun i m v w w' _ _ h => ?_) ?_ (by simp) ?_
  · by_cases hi : i < l.length
    · rw [hget i hi] at h ⊢; exact h
    · rw [List.getD_eq_getElem?_getD, List.getElem?_eq_none (by simpa using hi)] at h
      exact h.elim
  · refine MOps.mk l 0 fun j o ho vs w m n hmj hcl hIm _ hf => ?_
    rw [Nat.zero_add] at hmj hf ⊢
    have hj : j < l.length := (List.getElem?_eq_some_iff.1 ho).1
    have hd := hB2 j hj
    simp only [ho, Option.map_some, Option.getD_some, Bool.and_eq_true, List.all_eq_true, List.mem_range] at hd
    have hrun := h1 j o ho w m (by rwa [Nat.zero_add]) hIm
    rw [Nat.zero_add] at hrun
    rw [putSome_take, Nat.zero_add] at hrun
    refine wp_frame (ops := l.toArray) (G := fun v w' => v = vs0 j ∧ I (setm m j) w') (fun cs b => hsel j o cs b (by simpa using ho)) ?_ ?_ (fun t ht => ?_) (Oper.wp_mono (fun a' w' hh => ⟨_, hh.1, rfl, hh.2⟩) hrun) fun v w' hG => ?_
    · rw [putSome_size, ← putSome_all (vs := vs) (m := fun _ => true) l 0 a (by simp), putSome_size]
    · rw [putSome_defs, ← putSome_all (vs := vs) (m := fun _ => true) l 0 a (by simp), putSome_defs]
    · have hdst : ∀ i oi d, l[i]? = some oi → oi.dst = some d → d ∈ o.looksAt l.toArray → i < j ∧ reachB .any l.toArray (j + 1) j i = true := fun i oi d hi hdd hm => by
        have := hd.2 i (List.getElem?_eq_some_iff.1 hi).1
        simp only [hi, Option.map_some, Option.getD_some, hdd, Bool.and_eq_true, Bool.or_eq_true, beq_iff_eq, bne_iff_ne, Bool.not_eq_true', decide_eq_true_eq, List.contains_eq_mem, decide_eq_false_iff_not] at this
        exact this.2.resolve_left (fun h => h hm)
      have e1 : (putSome vs0 (fun i => decide (i < j)) l 0 a).tmps[t]? = (putSome vs (fun i => decide (i < j) && reachB .any l.toArray (j + 1) j i) l 0 a).tmps[t]? := by
        have e2 : putSome vs (fun i => decide (i < j) && reachB .any l.toArray (j + 1) j i) l 0 a = putSome vs0 (fun i => decide (i < j) && reachB .any l.toArray (j + 1) j i) l 0 a := by
          refine putSome_congr2 l 0 a fun i _ hi hm => ?_
          simp only [Bool.and_eq_true, decide_eq_true_eq] at hm
          have := hf i hm.1 hm.2
          rw [hget i (by omega)] at this
          exact this
        rw [e2]
        refine putSome_tmp l 0 a a rfl rfl fun i oi hi hm hdd => hm ?_
        have := hdst i oi t hi hdd ht
        simp [this.1, this.2]
      rw [e1, ← putSome_all (vs := vs) (m := fun _ => true) l 0 a (by simp)]
      refine putSome_tmp l 0 a a rfl rfl fun i oi hi hm hdd => hm ?_
      have := hdst i oi t hi hdd ht
      simp [this.1, this.2]
    · obtain ⟨rfl, hG⟩ := hG
      exact ⟨_, rfl, hG, trivial, by rw [hget j hj]⟩
  · intro vs w m hmm hIm hf
    have : putAll vs l 0 a = putAll vs0 l 0 a := putAll_congr l 0 a fun i _ hi => by
      have := hf i (by omega)
      rw [hget i (by omega)] at this
      exact this
    rw [this]
    exact h2 w m hmm hIm
end Go.Bl

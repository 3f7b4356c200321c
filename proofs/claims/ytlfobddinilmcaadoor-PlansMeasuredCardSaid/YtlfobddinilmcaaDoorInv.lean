/- Regions that draw their order and whose effects wait for nothing among each other: each operation is shown once, in any world of an invariant; what it leaves (a fact about its value) stays. -/
import Derived.Test.YtlfobddinilmcaaDoorMix
set_option linter.unusedVariables false
set_option linter.unusedSimpArgs false
namespace Go.Bl
open Go

/-- the values of the operations that m names, put -/
def putSome (vs : Nat → Value) (m : Nat → Bool) : List Oper → Nat → Act → Act
  | [], _, a => a
  | o :: r, k, a => putSome vs m r (k + 1) (if m k then a.put o.dst (vs k) else a)

/-- all values put -/
def putAll (vs : Nat → Value) : List Oper → Nat → Act → Act
  | [], _, a => a
  | o :: r, k, a => putAll vs r (k + 1) (a.put o.dst (vs k))

theorem put_size (a : Act) (d : Option Tmp) (v : Value) : (a.put d v).tmps.size = a.tmps.size := by cases d <;> simp [Act.put]
theorem put_defs (a : Act) (d : Option Tmp) (v : Value) : (a.put d v).defers = a.defers := by cases d <;> simp [Act.put]

theorem putSome_all {vs : Nat → Value} {m : Nat → Bool} : ∀ (l : List Oper) (k : Nat) (a : Act), (∀ i, k ≤ i → i < k + l.length → m i = true) → putSome vs m l k a = putAll vs l k a
  | [], _, _, _ => rfl
  | o :: r, k, a, h => by
    simp only [putSome, putAll]
    rw [if_pos (h k (Nat.le_refl _) (by simp))]
    exact putSome_all r (k + 1) _ fun i h1 h2 => h i (by omega) (by simp; omega)

theorem putSome_none {vs : Nat → Value} {m : Nat → Bool} : ∀ (l : List Oper) (k : Nat) (a : Act), (∀ i, k ≤ i → i < k + l.length → m i = false) → putSome vs m l k a = a
  | [], _, _, _ => rfl
  | o :: r, k, a, h => by
    simp only [putSome]
    rw [if_neg (by simp [h k (Nat.le_refl _) (by simp)])]
    exact putSome_none r (k + 1) _ fun i h1 h2 => h i (by omega) (by simp; omega)

theorem putSome_size {vs : Nat → Value} {m : Nat → Bool} : ∀ (l : List Oper) (k : Nat) (a : Act), (putSome vs m l k a).tmps.size = a.tmps.size
  | [], _, _ => rfl
  | o :: r, k, a => by
    simp only [putSome]
    rw [putSome_size r]
    split
    · exact put_size _ _ _
    · rfl

theorem putSome_defs {vs : Nat → Value} {m : Nat → Bool} : ∀ (l : List Oper) (k : Nat) (a : Act), (putSome vs m l k a).defers = a.defers
  | [], _, _ => rfl
  | o :: r, k, a => by
    simp only [putSome]
    rw [putSome_defs r]
    split
    · exact put_defs _ _ _
    · rfl

theorem put_tmp {a b : Act} {t : Tmp} (hs : a.tmps.size = b.tmps.size) (h : a.tmps[t]? = b.tmps[t]?) (d : Option Tmp) (v : Value) : (a.put d v).tmps[t]? = (b.put d v).tmps[t]? := by
  cases d with
  | none => exact h
  | some d =>
    by_cases e : d = t
    · subst e
      simp [Act.put, Array.getElem?_setIfInBounds, hs]
    · simp [Act.put, Array.getElem?_setIfInBounds_ne e, h]

theorem put_other {a : Act} {t : Tmp} {d : Option Tmp} {v : Value} (h : d ≠ some t) : (a.put d v).tmps[t]? = a.tmps[t]? := by
  cases d with
  | none => rfl
  | some d => simp [Act.put, Array.getElem?_setIfInBounds_ne (fun e : d = t => h (by rw [e]))]

theorem putSome_tmp {vs : Nat → Value} {m m' : Nat → Bool} {t : Tmp} : ∀ (l : List Oper) (k : Nat) (a b : Act), a.tmps.size = b.tmps.size → a.tmps[t]? = b.tmps[t]? → (∀ i o, l[i]? = some o → m (k + i) ≠ m' (k + i) → o.dst ≠ some t) →
    (putSome vs m l k a).tmps[t]? = (putSome vs m' l k b).tmps[t]?
  | [], _, _, _, _, h, _ => h
  | o :: r, k, a, b, hs, h, hd => by
    simp only [putSome]
    refine putSome_tmp r (k + 1) _ _ ?_ ?_ fun i o hi hm => hd (i + 1) o (by simpa using hi) (by rwa [← Nat.add_assoc, Nat.add_right_comm])
    · split <;> split <;> simp [put_size, hs]
    · have h0 := hd 0 o rfl
      rw [Nat.add_zero] at h0
      cases hm : m k <;> cases hm' : m' k <;> simp only [hm, hm', Bool.false_eq_true, if_false, if_true]
      · exact h
      · rw [put_other (h0 (by simp [hm, hm']))]; exact h
      · rw [put_other (h0 (by simp [hm, hm']))]; exact h
      · exact put_tmp hs h _ _

def updv (vs : Nat → Value) (j : Nat) (v : Value) : Nat → Value := fun i => if i = j then v else vs i

theorem putSome_congr {vs vs' : Nat → Value} {m m' : Nat → Bool} : ∀ (l : List Oper) (k : Nat) (a : Act), (∀ i, k ≤ i → i < k + l.length → m i = m' i ∧ vs i = vs' i) → putSome vs m l k a = putSome vs' m' l k a
  | [], _, _, _ => rfl
  | o :: r, k, a, h => by
    obtain ⟨h1, h2⟩ := h k (Nat.le_refl _) (by simp)
    simp only [putSome, h1, h2]
    exact putSome_congr r (k + 1) _ fun i h1 h2 => h i (by omega) (by simp; omega)

theorem putSome_put {vs : Nat → Value} {m : Nat → Bool} {d : Option Tmp} {v : Value} : ∀ (l : List Oper) (k : Nat) (a : Act), (∀ (i : Nat) (o : Oper), l[i]? = some o → ∀ t, o.dst = some t → d ≠ some t) → (putSome vs m l k a).put d v = putSome vs m l k (a.put d v)
  | [], _, _, _ => rfl
  | o :: r, k, a, h => by
    simp only [putSome]
    rw [putSome_put r (k + 1) _ fun i o hi => h (i + 1) o (by simpa using hi)]
    split
    · rw [Act.put_comm a _ _ (fun t ht => h 0 o rfl t ht)]
    · rfl

theorem putSome_upd {vs : Nat → Value} {m : Nat → Bool} {v : Value} : ∀ (l : List Oper) (k j : Nat) (a : Act) (oj : Oper), l[j]? = some oj → m (k + j) = false → (∀ i o, l[i]? = some o → i ≠ j → ∀ t, o.dst = some t → oj.dst ≠ some t) →
    (putSome vs m l k a).put oj.dst v = putSome (updv vs (k + j) v) (fun i => i == k + j || m i) l k a
  | [], _, _, _, _, h, _, _ => by simp at h
  | o :: r, k, 0, a, oj, h, hm, hd => by
    simp only [List.getElem?_cons_zero, Option.some.injEq] at h
    subst h
    rw [Nat.add_zero] at hm ⊢
    simp only [putSome, hm, Bool.false_eq_true, if_false, beq_self_eq_true, Bool.true_or, if_true]
    rw [putSome_put r (k + 1) a fun i o' hi => hd (i + 1) o' (by simpa using hi) (by omega)]
    simp only [updv, if_true]
    exact putSome_congr r (k + 1) _ fun i h1 _ => ⟨by simp [show i ≠ k by omega], by rw [updv, if_neg (by omega)]⟩
  | o :: r, k, j + 1, a, oj, h, hm, hd => by
    have ih := putSome_upd (vs := vs) (m := m) (v := v) r (k + 1) j (if m k then a.put o.dst (vs k) else a) oj (by simpa using h) (by rwa [Nat.add_assoc, Nat.add_comm 1 j]) fun i o' hi hij => hd (i + 1) o' (by simpa using hi) (by omega)
    have e : k + 1 + j = k + (j + 1) := by omega
    simp only [putSome]
    rw [ih, e]
    have e2 : (k == k + (j + 1) || m k) = m k := by simp
    simp only [e2, show updv vs (k + (j + 1)) v k = vs k by simp [updv]]

theorem put_eq {a b : Act} {d : Option Tmp} {u v : Value} (hs : a.tmps.size = b.tmps.size) (h : a.put d u = a.put d v) : b.put d u = b.put d v := by
  cases d with
  | none => rfl
  | some d =>
    by_cases hd : d < a.tmps.size
    · have := congrArg (fun x : Act => x.tmps[d]?) h
      simp only [Act.put, Array.getElem?_setIfInBounds_self_of_lt hd, Option.some.injEq] at this
      rw [this]
    · have e : ∀ z, b.tmps.setIfInBounds d z = b.tmps := fun z => Array.setIfInBounds_eq_of_size_le (by rw [← hs]; exact Nat.le_of_not_lt hd)
      simp [Act.put, e]

variable {P : Program} {ops : Array Oper}

/-- an operation, shown in one frame, in another that is the same where it looks -/
theorem wp_frame {o : Oper} {F b : Act} {w : World} {G : Value → World → Prop} {K : Act → World → Prop} (hs : ∀ cs b, o.op ≠ .select cs b) (hsz : F.tmps.size = b.tmps.size) (hdf : F.defers = b.defers)
    (hl : ∀ t, t ∈ o.looksAt ops → F.tmps[t]? = b.tmps[t]?) (h : o.wp P F w (fun a' w' => ∃ v, a' = F.put o.dst v ∧ G v w') NoQ) (hK : ∀ v w', G v w' → K (b.put o.dst v) w') : o.wp P b w K NoQ := by
  have he : execOp b.eval o = execOp F.eval o := execOp_congr o hs fun x hx => by
    cases x with
    | tmp t =>
      have := hl t (List.mem_append_left _ (List.mem_filterMap.2 ⟨.tmp t, by simpa using hx, rfl⟩))
      simp [Act.eval, this]
    | _ => rfl
  unfold Oper.wp at *
  rw [he]
  generalize (execOp F.eval o).run P w = r at h
  have fin : ∀ u w', (∃ v, F.put o.dst u = F.put o.dst v ∧ G v w') → K (b.put o.dst u) w' := fun u w' ⟨v, hv, hg⟩ => by
    rw [put_eq hsz hv]
    exact hK v w' hg
  cases r with
  | ok n w' =>
    cases n <;> simp only [Oper.upon] at h ⊢
    case value u => exact fin u w' h
    case skip => exact fin undef w' h
    case defer d =>
      obtain ⟨v, hv, _⟩ := h
      have := congrArg (fun x : Act => x.defers.length) hv
      simp [put_defs] at this
    case enter f args =>
      refine Calls.mono h fun e w'' he => ?_
      cases e with
      | returned u => exact fin u w'' he
      | panicked c => exact absurd he id
      | outgrown => exact absurd he letsOut_noQ
    case row r args => exact Rows.mono h fun u w'' he => fin u w'' he
    all_goals exact h
  | halt x w' => cases x <;> simp only [Oper.upon] at h <;> exact absurd h id

/-- what is asked of the region -/
def invB (l : List Oper) : Bool :=
  Region.noSelect l.toArray && (List.range l.length).all fun j => (l[j]?.map fun o => o.guard.isNone && (o.after.toList.all fun e => !Region.binds .any e || decide (e.on < j)) &&
    (List.range l.length).all fun i => (l[i]?.map fun oi => match oi.dst with
      | none => true
      | some d => (i == j || o.dst != some d) && (!(o.looksAt l.toArray).contains d || (decide (i < j) && reachB .any l.toArray (j + 1) j i))).getD true).getD true

/-- what is shown of each operation -/
def Ops (P : Program) (I : Nat → World → Prop) (M : World → World → Prop) (tot : Nat) (a : Act) (l : List Oper) (Φ : Nat → Value → World → Prop) : List Oper → List Nat → Nat → Prop
  | [], _, _ => True
  | o :: r, cs, j => (∀ vs w k, I k w → k + cs.headD 0 ≤ tot → (∀ i, i < j → reachB .any l.toArray (j + 1) j i = true → Φ i (vs i) w) →
      o.wp P (putAll vs l 0 a) w (fun a' w' => ∃ v, a' = (putAll vs l 0 a).put o.dst v ∧ I (k + cs.headD 0) w' ∧ M w w' ∧ Φ j v w') NoQ) ∧ Ops P I M tot a l Φ r cs.tail (j + 1)

theorem Ops.at_ {I : Nat → World → Prop} {M : World → World → Prop} {tot : Nat} {a : Act} {l : List Oper} {Φ : Nat → Value → World → Prop} : ∀ {l' : List Oper} {cs : List Nat} {k : Nat}, Ops P I M tot a l Φ l' cs k → ∀ {i : Nat} {o : Oper}, l'[i]? = some o →
    ∀ vs w n, I n w → n + cs.getD i 0 ≤ tot → (∀ d, d < k + i → reachB .any l.toArray (k + i + 1) (k + i) d = true → Φ d (vs d) w) →
      o.wp P (putAll vs l 0 a) w (fun a' w' => ∃ v, a' = (putAll vs l 0 a).put o.dst v ∧ I (n + cs.getD i 0) w' ∧ M w w' ∧ Φ (k + i) v w') NoQ
  | [], _, _, _, _, _, h => by simp at h
  | _ :: _, cs, k, h, 0, o, ho => by
    simp only [List.getElem?_cons_zero, Option.some.injEq] at ho
    subst ho
    cases cs <;> exact h.1
  | _ :: r, cs, k, h, i + 1, o, ho => by
    have := Ops.at_ h.2 (i := i) (o := o) (by simpa using ho)
    rw [Nat.add_assoc, Nat.add_comm 1 i] at this
    cases cs
    · simpa using this
    · simpa using this

theorem inv_any {I : Nat → World → Prop} {M : World → World → Prop} {tot : Nat} {a : Act} {l : List Oper} {Φ : Nat → Value → World → Prop} {cs : List Nat} {Q : Exit → Act → World → Prop} (hB : invB l = true)
    (hst : ∀ i v w w', M w w' → Φ i v w → Φ i v w') (hO : Ops P I M tot a l Φ l cs 0) (hE : ∀ vs w, I tot w → (∀ i, i < l.length → Φ i (vs i) w) → Q .normal (putAll vs l 0 a) w) :
    ∀ (n : Nat) (L : List Nat) (listed : Array Bool) (vs : Nat → Value) (w : World) (k : Nat), L.length = n → L.Pairwise (· < ·) → (∀ i, i ∈ L ↔ i < l.toArray.size ∧ listed.getD i true = false) → listed.size = l.toArray.size → Closed .any l.toArray listed →
      k + (L.map fun i => cs.getD i 0).sum = tot → I k w → (∀ i, i < l.length → i ∉ L → Φ i (vs i) w) → wpAny P .any l.toArray Q n listed (putSome vs (fun i => !L.contains i) l 0 a) w := by
  simp only [invB, Bool.and_eq_true, List.all_eq_true, List.mem_range] at hB
  obtain ⟨hsel0, hB⟩ := hB
  have hsel := Region.noSelect_spec hsel0
  have gd : ∀ (l : Array Bool) (i : Nat), i < l.size → l.getD i true = l.getD i false := fun l i hi => by simp [hi]
  have hB1 : ∀ j o, l[j]? = some o → o.guard = none ∧ (∀ e ∈ o.after, Region.binds .any e = true → e.on < j) ∧ ∀ i oi d, l[i]? = some oi → oi.dst = some d → (i = j ∨ o.dst ≠ some d) ∧ (d ∈ o.looksAt l.toArray → i < j ∧ reachB .any l.toArray (j + 1) j i = true) := fun j o ho => by
    have hj : j < l.length := (List.getElem?_eq_some_iff.1 ho).1
    have h := hB j hj
    simp only [ho, Option.map_some, Option.getD_some, Bool.and_eq_true, List.all_eq_true, List.mem_range, Option.isNone_iff_eq_none] at h
    obtain ⟨⟨h1, h2⟩, h3⟩ := h
    refine ⟨h1, fun e he hb => ?_, fun i oi d hi hd => ?_⟩
    · have := h2 e (Array.mem_toList_iff.2 he)
      simpa [hb] using this
    · have := h3 i (List.getElem?_eq_some_iff.1 hi).1
      simp only [hi, Option.map_some, Option.getD_some, hd, Bool.and_eq_true, Bool.or_eq_true, beq_iff_eq, bne_iff_ne, Bool.not_eq_true', decide_eq_true_eq, List.contains_eq_mem, decide_eq_false_iff_not] at this
      exact ⟨this.1, fun hm => this.2.resolve_left (fun h => h hm)⟩
  intro n
  induction n with
  | zero =>
    intro L listed vs w k hn _ hL _ _ hk hI hΦ
    have hL0 : L = [] := List.eq_nil_of_length_eq_zero hn
    subst hL0
    refine ⟨?_, ?_⟩
    · rcases hr : Region.ready .any l.toArray listed with _ | ⟨j, r⟩
      · rfl
      · have hj : j ∈ Region.ready .any l.toArray listed := by rw [hr]; exact List.mem_cons_self ..
        obtain ⟨hu, o, ho, _⟩ := mem_ready.1 hj
        exact absurd ((hL j).2 ⟨(Array.getElem?_eq_some_iff.1 ho).1, hu⟩) (by simp)
    · rw [putSome_all l 0 a (by simp)]
      simp only [List.map_nil, List.sum_nil, Nat.add_zero] at hk
      subst hk
      exact hE vs w hI fun i hi => hΦ i hi (by simp)
  | succ n ih =>
    intro L listed vs w k hn hP hL hsz hcl hk hI hΦ
    refine ⟨fun hr => ?_, fun j hj => ?_⟩
    · match L, hn with
      | i :: L', _ =>
        exfalso
        obtain ⟨hi, hui⟩ := (hL i).1 (List.mem_cons_self ..)
        have : i ∈ Region.ready .any l.toArray listed := by
          rw [mem_ready]
          refine ⟨hui, l.toArray[i], Array.getElem?_eq_getElem hi, fun e he hb => ?_⟩
          have h1 := (hB1 i l.toArray[i] (by simp at hi; simp [hi])).2.1 e he hb
          rcases hx : listed.getD e.on false with _ | _
          · have hm : e.on ∈ i :: L' := (hL e.on).2 ⟨by omega, by rw [gd listed _ (by omega)]; exact hx⟩
            rcases List.mem_cons.1 hm with he | he
            · omega
            · have := (List.pairwise_cons.1 hP).1 _ he
              omega
          · rfl
        rw [hr] at this
        cases this
    · obtain ⟨hu, oj, hoj, hall⟩ := mem_ready.1 hj
      have hjs : j < l.toArray.size := (Array.getElem?_eq_some_iff.1 hoj).1
      have hojl : l[j]? = some oj := by simpa using hoj
      have hjL : j ∈ L := (hL j).2 ⟨hjs, hu⟩
      obtain ⟨L1, L2, rfl⟩ := List.append_of_mem hjL
      rw [List.pairwise_append] at hP
      obtain ⟨hP1, hP2, hP12⟩ := hP
      have hlt : ∀ i ∈ L1, i < j := fun i hi => hP12 i hi j (List.mem_cons_self ..)
      have hnd : j ∉ L1 ++ L2 := by
        intro hm
        rcases List.mem_append.1 hm with hm | hm
        · have := hlt j hm; omega
        · have := (List.pairwise_cons.1 hP2).1 j hm; omega
      obtain ⟨hg, _, hdst⟩ := hB1 j oj hojl
      have hlisted : ∀ i, reachB .any l.toArray (j + 1) j i = true → listed.getD i false = true := fun i hi =>
        reach_listed hcl (j + 1) j i hi fun o ho e he hb => by
          rw [hoj] at ho
          injection ho with ho
          subst ho
          exact hall e he hb
      have hnotin : ∀ i, i < l.length → reachB .any l.toArray (j + 1) j i = true → i ∉ L1 ++ j :: L2 := fun i hil hi hm => by
        have h1 := hlisted i hi
        have h2 := ((hL i).1 hm).2
        rw [gd listed i (by simp at hsz; omega), h1] at h2
        cases h2
      have hjl : j < l.length := by simpa using hjs
      refine wpOp_ofNoQ ?_
      rw [wpOp_noQ hoj, if_pos (by simp [Region.wanted, hg])]
      simp only [List.map_append, List.map_cons, List.sum_append, List.sum_cons] at hk
      have h := hO.at_ hojl vs w k hI (by omega) fun d hd hr => hΦ d (by omega) (hnotin d (by omega) (by simpa using hr))
      rw [← putSome_all (m := fun _ => true) l 0 a (by simp)] at h
      refine wp_frame (ops := l.toArray) (G := fun v w' => I (k + cs.getD j 0) w' ∧ M w w' ∧ Φ (0 + j) v w') (fun cs b => hsel j oj cs b hoj) ?_ ?_ (fun t ht => ?_) h fun v w' hG => ?_
      · rw [putSome_size, putSome_size]
      · rw [putSome_defs, putSome_defs]
      · refine putSome_tmp l 0 a a rfl rfl fun i oi hi hm hd => hm ?_
        have h1 := ((hdst i oi t hi hd).2 ht)
        have h2 := hnotin i (List.getElem?_eq_some_iff.1 hi).1 h1.2
        simp only [Nat.zero_add, List.contains_eq_mem, h2, decide_false, Bool.not_false]
      · obtain ⟨hI', hM, hv⟩ := hG
        rw [Nat.zero_add] at hv
        rw [putSome_upd l 0 j a oj hojl (by simp) fun i o hi hij t ht => ((hdst i o t hi ht).1.resolve_left hij)]
        have he : putSome (updv vs (0 + j) v) (fun i => i == 0 + j || !(L1 ++ j :: L2).contains i) l 0 a = putSome (updv vs j v) (fun i => !(L1 ++ L2).contains i) l 0 a := by
          rw [Nat.zero_add]
          refine putSome_congr l 0 a fun i _ _ => ⟨?_, rfl⟩
          by_cases hij : i = j
          · subst hij
            simp only [beq_self_eq_true, Bool.true_or, List.contains_eq_mem, hnd, decide_false, Bool.not_false]
          · simp [hij]
        rw [he]
        refine ih (L1 ++ L2) _ _ w' (k + cs.getD j 0) (by simp at hn ⊢; omega) ?_ (fun i => ?_) (by simpa using hsz) (fun q o ho hq e he hb => ?_) ?_ hI' fun i hi hiL => ?_
        · rw [List.pairwise_append]
          exact ⟨hP1, (List.pairwise_cons.1 hP2).2, fun x hx y hy => hP12 x hx y (List.mem_cons_of_mem _ hy)⟩
        · by_cases hij : i = j
          · subst hij
            simp only [hnd, false_iff, not_and]
            intro _
            simp [show i < listed.size by omega]
          · rw [getD_set_ne true (Ne.symm hij), ← hL i]
            simp [hij]
        · by_cases hkj : q = j
          · subst hkj
            rw [hoj] at ho
            injection ho with ho
            subst ho
            exact getD_set_true (hall e he hb)
          · rw [getD_set_ne false (Ne.symm hkj)] at hq
            exact getD_set_true (hcl q o ho hq e he hb)
        · simp only [List.map_append, List.sum_append]
          omega
        · by_cases hij : i = j
          · subst hij
            simpa [updv] using hv
          · have := hst i _ w w' hM (hΦ i hi (fun hm => hiL (by simp at hm ⊢; rcases hm with hm | hm | hm; exact .inl hm; exact absurd hm hij; exact .inr hm)))
            simpa [updv, hij] using this

/-- a region that draws, its operations written out: each is shown once -/
theorem wp_region_inv {id : Nat} {Q : Exit → Act → World → Prop} {a : Act} {w : World} {l : List Oper} (I : Nat → World → Prop) (M : World → World → Prop) (Φ : List (Value → World → Prop)) (cs : List Nat) (hm : P.follows .mixedOrders = true) (hB : invB l = true) (hI : I 0 w.drew)
    (hst : ∀ φ ∈ Φ, ∀ v w w', M w w' → φ v w → φ v w') (hO : Ops P I M cs.sum a l (fun i => Φ.getD i fun _ _ => False) l cs 0) (hcs : cs.length = l.length)
    (hE : ∀ vs w, I cs.sum w → (∀ i, i < l.length → Φ.getD i (fun _ _ => False) (vs i) w) → Q .normal (putAll vs l 0 a) w) : (Code.region id l.toArray true).wp P Q a w := by
  refine wp_region_any hm ?_
  have h := inv_any (Q := Q) hB (fun i v w w' hM h => by
    by_cases hi : i < Φ.length
    · rw [List.getD_eq_getElem?_getD, List.getElem?_eq_getElem hi, Option.getD_some] at h ⊢
      exact hst _ (List.getElem_mem hi) v w w' hM h
    · rw [List.getD_eq_getElem?_getD, List.getElem?_eq_none (by omega)] at h
      exact False.elim h) hO hE l.length (List.range' 0 l.length) (Array.replicate l.toArray.size false) (fun _ => undef) w.drew 0 (by simp) (List.pairwise_lt_range') (fun i => by
    simp [List.mem_range'_1]
    intro hi
    simp [hi]) (by simp) (fun j o ho hl => by
    exfalso
    by_cases hj : j < l.length <;> simp [hj] at hl) (by
      rw [Nat.zero_add, ← hcs]
      have : ∀ (c : List Nat) (p : List Nat), ((List.range' p.length c.length).map fun i => (p ++ c).getD i 0) = c := fun c => by
        induction c with
        | nil => intro p; rfl
        | cons x c ih =>
          intro p
          rw [List.length_cons, List.range'_succ, List.map_cons]
          have := ih (p ++ [x])
          simp only [List.length_append, List.length_cons, List.length_nil, List.append_assoc, List.cons_append, List.nil_append] at this
          rw [this]
          simp
      have := this cs []
      simp only [List.length_nil, List.nil_append] at this
      rw [this]) hI (fun i hi hn => absurd (List.mem_range'_1.2 ⟨Nat.zero_le _, by simpa using hi⟩) hn)
  rw [putSome_none l 0 a (fun i _ hi => by simp [List.mem_range'_1]; omega)] at h
  simpa using h

/-- the same, the frames written out (F), what follows an operation unknown -/
def OpsF (P : Program) (I : Nat → World → Prop) (M : World → World → Prop) (tot : Nat) (F : (Nat → Value) → Act) (l : List Oper) (Φ : Nat → Value → World → Prop) : List Oper → List Nat → Nat → Prop
  | [], _, _ => True
  | o :: r, cs, j => (∀ vs w k, I k w → k + cs.headD 0 ≤ tot → (∀ i, i < j → reachB .any l.toArray (j + 1) j i = true → Φ i (vs i) w) → ∀ K : Act → World → Prop, (∀ v w', I (k + cs.headD 0) w' → M w w' → Φ j v w' → K ((F vs).put o.dst v) w') → o.wp P (F vs) w K NoQ) ∧ OpsF P I M tot F l Φ r cs.tail (j + 1)

theorem Ops.ofF {I : Nat → World → Prop} {M : World → World → Prop} {tot : Nat} {a : Act} {F : (Nat → Value) → Act} {l : List Oper} {Φ : Nat → Value → World → Prop} (hF : ∀ vs, putAll vs l 0 a = F vs) : ∀ {r : List Oper} {cs : List Nat} {j : Nat}, OpsF P I M tot F l Φ r cs j → Ops P I M tot a l Φ r cs j
  | [], _, _, _ => trivial
  | _ :: _, _, _, h => ⟨fun vs w k hI hk hf => by
      rw [hF vs]
      exact h.1 vs w k hI hk hf _ fun v w' h1 h2 h3 => ⟨v, rfl, h1, h2, h3⟩, Ops.ofF hF h.2⟩

theorem OpsF.op {I : Nat → World → Prop} {M : World → World → Prop} {tot : Nat} {F : (Nat → Value) → Act} {l : List Oper} {Φ : Nat → Value → World → Prop} {o : Oper} {r : List Oper} {c : Nat} {cs : List Nat} {j : Nat}
    (h : ∀ vs w k, I k w → k + c ≤ tot → (∀ i, i < j → reachB .any l.toArray (j + 1) j i = true → Φ i (vs i) w) → ∀ K : Act → World → Prop, (∀ v w', I (k + c) w' → M w w' → Φ j v w' → K ((F vs).put o.dst v) w') → o.wp P (F vs) w K NoQ)
    (hr : OpsF P I M tot F l Φ r cs (j + 1)) : OpsF P I M tot F l Φ (o :: r) (c :: cs) j := ⟨h, hr⟩
theorem OpsF.done {I : Nat → World → Prop} {M : World → World → Prop} {tot : Nat} {F : (Nat → Value) → Act} {l : List Oper} {Φ : Nat → Value → World → Prop} {cs : List Nat} {j : Nat} : OpsF P I M tot F l Φ [] cs j := trivial

/-- a region that draws, its operations written out, the frame written out -/
theorem wp_region_invF {id : Nat} {Q : Exit → Act → World → Prop} {a : Act} {w : World} {l : List Oper} (I : Nat → World → Prop) (M : World → World → Prop) (Φ : List (Value → World → Prop)) (cs : List Nat) (hm : P.follows .mixedOrders = true) (hB : invB l = true) {F : (Nat → Value) → Act} (hF : ∀ vs, putAll vs l 0 a = F vs) (hI : I 0 w.drew)
    (hst : ∀ φ ∈ Φ, ∀ v w w', M w w' → φ v w → φ v w') (hcs : cs.length = l.length) (hO : OpsF P I M cs.sum F l (fun i => Φ.getD i fun _ _ => False) l cs 0)
    (hE : ∀ vs w, I cs.sum w → (∀ i, i < l.length → Φ.getD i (fun _ _ => False) (vs i) w) → Q .normal (F vs) w) : (Code.region id l.toArray true).wp P Q a w :=
  wp_region_inv I M Φ cs hm hB hI hst (Ops.ofF hF hO) hcs fun vs w h1 h2 => by rw [hF vs]; exact hE vs w h1 h2
end Go.Bl

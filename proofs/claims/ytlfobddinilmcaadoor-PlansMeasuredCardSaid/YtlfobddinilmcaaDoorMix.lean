/- Regions that draw their order: one walk in the order of the text serves every order, where each operation is either world-blind (its value is the same in every world of a class C) or one of a chain of operations that wait for one another. -/
import Derived.Test.YtlfobddinilmcaaDoorLib
set_option linter.unusedVariables false
set_option linter.unusedSimpArgs false
namespace Go.Bl
open Go

def NoQ : Exit → Act → World → Prop := fun _ _ _ => False

section
variable {P : Program} {ops : Array Oper} {C : World → Prop} {T : Nat → Bool}

/-- in every world of the class the operation yields v and leaves the world -/
def Oper.sees (P : Program) (o : Oper) (a : Act) (C : World → Prop) (v : Value) : Prop := ∀ w, C w → (execOp a.eval o).run P w = .ok (.value v) w

def Sees (P : Program) (ops : Array Oper) (C : World → Prop) (o : Oper) (v : Value) (a : Act) : Prop :=
  (Region.wanted o (yielded ops a.tmps) = true ∧ Oper.sees P o a C v) ∨ (Region.wanted o (yielded ops a.tmps) = false ∧ v = undef)

theorem Sees.uniq {o : Oper} {v u : Value} {a : Act} {w : World} (hC : C w) (h : Sees P ops C o v a) (k : Sees P ops C o u a) : v = u := by
  rcases h with ⟨hw, h⟩ | ⟨hw, rfl⟩ <;> rcases k with ⟨kw, k⟩ | ⟨kw, rfl⟩
  · have h1 := h w hC
    have h2 := k w hC
    rw [h1] at h2
    injection h2 with h2
    injection h2
  · rw [hw] at kw; cases kw
  · rw [hw] at kw; cases kw
  · rfl

theorem Sees.put {o o' : Oper} {v u : Value} {a : Act} (hs : ∀ cs b, o.op ≠ .select cs b) (hl : ∀ d, o'.dst = some d → d ∉ o.looksAt ops) : Sees P ops C o v (a.put o'.dst u) ↔ Sees P ops C o v a := by
  unfold Sees Oper.sees
  rw [wanted_put o a o'.dst u hl, execOp_put o hs a o'.dst u hl]

/-- the walk in the order of the text: T says which operations are blind -/
def mixI (P : Program) (ops : Array Oper) (C : World → Prop) (T : Nat → Bool) (Q : Act → World → Prop) : List Nat → Act → World → Prop
  | [], a, w => Q a w
  | i :: r, a, w =>
    match ops[i]? with
    | none => False
    | some o => if T i then ∃ v, Sees P ops C o v a ∧ mixI P ops C T Q r (a.put o.dst v) w
      else wpOp P ops NoQ i (fun a' w' => C w' ∧ mixI P ops C T Q r a' w') a w

theorem mixI_blind {Q : Act → World → Prop} {i : Nat} {o : Oper} (ho : ops[i]? = some o) (ht : T i = true) {r : List Nat} {a : Act} {w : World} : mixI P ops C T Q (i :: r) a w ↔ ∃ v, Sees P ops C o v a ∧ mixI P ops C T Q r (a.put o.dst v) w := by
  simp only [mixI, ho, ht, if_true]

theorem mixI_eff {Q : Act → World → Prop} {i : Nat} {o : Oper} (ho : ops[i]? = some o) (ht : T i = false) {r : List Nat} {a : Act} {w : World} : mixI P ops C T Q (i :: r) a w ↔ wpOp P ops NoQ i (fun a' w' => C w' ∧ mixI P ops C T Q r a' w') a w := by
  simp only [mixI, ho, ht, Bool.false_eq_true, if_false]

theorem letsOut_noQ : ¬ LetsOut NoQ := fun ⟨_, _, h⟩ => h

/-- an operation's wp that lets nothing out: some end of it, and what holds of every end -/
theorem wp_ends {o : Oper} {a : Act} {w : World} {K : Act → World → Prop} (h : o.wp P a w K NoQ) : ∃ (b : Act) (u : Value) (w' : World), b.tmps = a.tmps ∧ K (b.put o.dst u) w' := by
  unfold Oper.wp at h
  generalize (execOp a.eval o).run P w = r at h
  cases r with
  | ok n w' =>
    cases n <;> simp only [Oper.upon] at h
    case value v => exact ⟨a, v, w', rfl, h⟩
    case skip => exact ⟨a, undef, w', rfl, h⟩
    case defer d => exact ⟨{ a with defers := d :: a.defers }, undef, w', rfl, h⟩
    case enter f args =>
      obtain ⟨e, w'', fr, hR, _⟩ := h []
      cases e with
      | returned v => exact ⟨a, v, w'', rfl, hR⟩
      | panicked c => exact absurd hR id
      | outgrown => exact absurd hR letsOut_noQ
    case row r args =>
      obtain ⟨v, w'', hR, _⟩ := h default []
      exact ⟨a, v, w'', rfl, hR⟩
  | halt x w' => cases x <;> simp only [Oper.upon] at h <;> exact absurd h id

/-- the same operation with a slot written before that it does not look at -/
theorem wp_put {o o' : Oper} {a : Act} {w : World} {K K' : Act → World → Prop} {v : Value} (hs : ∀ cs b, o.op ≠ .select cs b) (hl : ∀ d, o'.dst = some d → d ∉ o.looksAt ops) (hd : ∀ d, o'.dst = some d → o.dst ≠ some d)
    (hK : ∀ (b : Act) (u : Value) (w' : World), b.tmps = a.tmps → K (b.put o.dst u) w' → K' ((b.put o'.dst v).put o.dst u) w') (h : o.wp P a w K NoQ) : o.wp P (a.put o'.dst v) w K' NoQ := by
  unfold Oper.wp at *
  rw [execOp_put o hs a o'.dst v hl]
  generalize (execOp a.eval o).run P w = r at h
  cases r with
  | ok n w' =>
    cases n <;> simp only [Oper.upon] at h ⊢
    case value u => exact hK a u w' rfl h
    case skip => exact hK a undef w' rfl h
    case defer d =>
      have := hK { a with defers := d :: a.defers } undef w' rfl h
      cases hx : o'.dst <;> simp only [hx] at this <;> exact this
    case enter f args =>
      refine Calls.mono h fun e w'' he => ?_
      cases e with
      | returned u => exact hK a u w'' rfl he
      | panicked c => exact absurd he id
      | outgrown => exact absurd he letsOut_noQ
    case row r args => exact Rows.mono h fun u w'' he => hK a u w'' rfl he
    all_goals exact h
  | halt x w' => cases x <;> simp only [Oper.upon] at h <;> exact absurd h id

/-- back: what holds with the slot written holds without, the slot written behind -/
theorem wp_unput {o o' : Oper} {a : Act} {w : World} {K K' : Act → World → Prop} {v : Value} (hs : ∀ cs b, o.op ≠ .select cs b) (hl : ∀ d, o'.dst = some d → d ∉ o.looksAt ops)
    (hK : ∀ (b : Act) (u : Value) (w' : World), b.tmps = a.tmps → K ((b.put o'.dst v).put o.dst u) w' → K' (b.put o.dst u) w') (h : o.wp P (a.put o'.dst v) w K NoQ) : o.wp P a w K' NoQ := by
  unfold Oper.wp at *
  rw [execOp_put o hs a o'.dst v hl] at h
  generalize (execOp a.eval o).run P w = r at h
  cases r with
  | ok n w' =>
    cases n <;> simp only [Oper.upon] at h ⊢
    case value u => exact hK a u w' rfl h
    case skip => exact hK a undef w' rfl h
    case defer d =>
      refine hK { a with defers := d :: a.defers } undef w' rfl ?_
      cases hx : o'.dst <;> rw [hx] at h <;> exact h
    case enter f args =>
      refine Calls.mono h fun e w'' he => ?_
      cases e with
      | returned u => exact hK a u w'' rfl he
      | panicked c => exact absurd he id
      | outgrown => exact absurd he letsOut_noQ
    case row r args => exact Rows.mono h fun u w'' he => hK a u w'' rfl he
    all_goals exact h
  | halt x w' => cases x <;> simp only [Oper.upon] at h <;> exact absurd h id

theorem wpOp_noQ {i : Nat} {o : Oper} (ho : ops[i]? = some o) {K : Act → World → Prop} {a : Act} {w : World} : wpOp P ops NoQ i K a w ↔ (if Region.wanted o (yielded ops a.tmps) then o.wp P a w K NoQ else K (a.put o.dst undef) w) := by
  simp only [wpOp, ho]
  split
  · exact ⟨fun h => h.resolve_right fun h => letsOut_noQ h.2, .inl⟩
  · exact Iff.rfl

theorem Sees.tmps {o : Oper} {v : Value} {a b : Act} (h : a.tmps = b.tmps) (hs : Sees P ops C o v a) : Sees P ops C o v b := by
  have he : a.eval = b.eval := by funext x; cases x <;> simp [Act.eval, h]
  unfold Sees Oper.sees at *
  rwa [← h, ← he]

variable {Q : Act → World → Prop}

theorem put_tmps {a b : Act} (h : a.tmps = b.tmps) (d : Option Tmp) (v : Value) : (a.put d v).tmps = (b.put d v).tmps := by
  cases d <;> simp [Act.put, h]

/-- a blind operation is taken first -/
theorem pull_blind {j : Nat} {oj : Oper} (hj : ops[j]? = some oj) (htj : T j = true) (hsel : ∀ (k : Nat) (o : Oper) cs b, ops[k]? = some o → o.op ≠ .select cs b) :
    ∀ (L1 L2 : List Nat) (a : Act) (w : World), (∀ i ∈ L1, ∀ oi, ops[i]? = some oi → oi.apart ops oj = true) → C w → mixI P ops C T Q (L1 ++ j :: L2) a w →
      ∃ v, Sees P ops C oj v a ∧ mixI P ops C T Q (L1 ++ L2) (a.put oj.dst v) w
  | [], L2, a, w, _, _, h => (mixI_blind hj htj).1 h
  | i :: L1, L2, a, w, hap, hC, h => by
    have hap' := fun k hk => hap k (List.mem_cons_of_mem _ hk)
    cases hoi : ops[i]? with
    | none => simp [mixI, hoi] at h
    | some oi =>
      obtain ⟨h1, h2, h3⟩ := Oper.apart_spec (hap i (List.mem_cons_self ..) oi hoi)
      have h2' : ∀ d, oj.dst = some d → oi.dst ≠ some d := fun d hd he => h2 d he hd
      cases hti : T i with
      | true =>
        rw [List.cons_append, mixI_blind hoi hti] at h
        obtain ⟨vi, hsi, h⟩ := h
        obtain ⟨v, hsj, hm⟩ := pull_blind hj htj hsel L1 L2 _ w hap' hC h
        refine ⟨v, (Sees.put (fun cs b => hsel j oj cs b hj) h1).1 hsj, ?_⟩
        rw [List.cons_append, mixI_blind hoi hti]
        refine ⟨vi, (Sees.put (fun cs b => hsel i oi cs b hoi) h3).2 hsi, ?_⟩
        rw [← Act.put_comm a vi v h2]
        exact hm
      | false =>
        rw [List.cons_append, mixI_eff hoi hti, wpOp_noQ hoi] at h
        by_cases hw : Region.wanted oi (yielded ops a.tmps) = true
        · rw [if_pos hw] at h
          have hm := Oper.wp_mono (Q := NoQ) (K' := fun a' w' => C w' ∧ ∃ v, Sees P ops C oj v a' ∧ mixI P ops C T Q (L1 ++ L2) (a'.put oj.dst v) w') (fun a' w' hk => ⟨hk.1, pull_blind hj htj hsel L1 L2 a' w' hap' hk.1 hk.2⟩) h
          obtain ⟨b, u, w', hb, _, v, hsj, _⟩ := wp_ends hm
          have hsja : Sees P ops C oj v a := ((Sees.put (fun cs b => hsel j oj cs b hj) h1).1 hsj).tmps hb
          refine ⟨v, hsja, ?_⟩
          rw [List.cons_append, mixI_eff hoi hti, wpOp_noQ hoi, wanted_put oi a oj.dst v h3, if_pos hw]
          refine wp_put (fun cs b => hsel i oi cs b hoi) h3 h2' (fun b u w' hb hk => ?_) hm
          obtain ⟨hc, v', hs', hm'⟩ := hk
          have e : v' = v := Sees.uniq hC ((Sees.put (fun cs b => hsel j oj cs b hj) h1).1 hs') (hsja.tmps hb.symm)
          subst e
          refine ⟨hc, ?_⟩
          rw [← Act.put_comm b u v' h2]
          exact hm'
        · rw [if_neg hw] at h
          obtain ⟨v, hsj, hm⟩ := pull_blind hj htj hsel L1 L2 _ w hap' hC h.2
          refine ⟨v, (Sees.put (fun cs b => hsel j oj cs b hj) h1).1 hsj, ?_⟩
          rw [List.cons_append, mixI_eff hoi hti, wpOp_noQ hoi, wanted_put oi a oj.dst v h3, if_neg hw]
          refine ⟨hC, ?_⟩
          rw [← Act.put_comm a undef v h2]
          exact hm

/-- an operation of the chain is taken before the blind ones ahead of it -/
theorem pull_eff {j : Nat} {oj : Oper} (hj : ops[j]? = some oj) (htj : T j = false) (hsel : ∀ (k : Nat) (o : Oper) cs b, ops[k]? = some o → o.op ≠ .select cs b) :
    ∀ (L1 L2 : List Nat) (a : Act) (w : World), (∀ i ∈ L1, T i = true ∧ ∀ oi, ops[i]? = some oi → oi.apart ops oj = true) → C w → mixI P ops C T Q (L1 ++ j :: L2) a w →
      wpOp P ops NoQ j (fun a' w' => C w' ∧ mixI P ops C T Q (L1 ++ L2) a' w') a w
  | [], L2, a, w, _, _, h => (mixI_eff hj htj).1 h
  | i :: L1, L2, a, w, hap, hC, h => by
    have hap' := fun k hk => hap k (List.mem_cons_of_mem _ hk)
    cases hoi : ops[i]? with
    | none => simp [mixI, hoi] at h
    | some oi =>
      obtain ⟨hti, hapi⟩ := hap i (List.mem_cons_self ..)
      obtain ⟨h1, h2, h3⟩ := Oper.apart_spec (hapi oi hoi)
      rw [List.cons_append, mixI_blind hoi hti] at h
      obtain ⟨vi, hsi, h⟩ := h
      have ih := pull_eff hj htj hsel L1 L2 _ w hap' hC h
      rw [wpOp_noQ hj, wanted_put oj a oi.dst vi h1] at ih
      rw [wpOp_noQ hj]
      have fin : ∀ (b : Act) (u : Value) (w' : World), b.tmps = a.tmps → (C w' ∧ mixI P ops C T Q (L1 ++ L2) ((b.put oi.dst vi).put oj.dst u) w') → (C w' ∧ mixI P ops C T Q (i :: L1 ++ L2) (b.put oj.dst u) w') := fun b u w' hb hk => by
        refine ⟨hk.1, ?_⟩
        rw [List.cons_append, mixI_blind hoi hti]
        refine ⟨vi, (Sees.put (fun cs b => hsel i oi cs b hoi) h3).2 (hsi.tmps hb.symm), ?_⟩
        rw [← Act.put_comm b vi u h2]
        exact hk.2
      by_cases hw : Region.wanted oj (yielded ops a.tmps) = true
      · rw [if_pos hw] at ih ⊢
        exact wp_unput (fun cs b => hsel j oj cs b hj) h1 fin ih
      · rw [if_neg hw] at ih ⊢
        exact fin a undef w rfl ih

theorem wp_ofNoQ {o : Oper} {a : Act} {w : World} {K : Act → World → Prop} {Q' : Exit → Act → World → Prop} (h : o.wp P a w K NoQ) : o.wp P a w K Q' := by
  unfold Oper.wp at *
  generalize (execOp a.eval o).run P w = r at h
  cases r with
  | ok n w' =>
    cases n <;> simp only [Oper.upon] at h ⊢ <;> first | exact h | skip
    case enter f args =>
      refine Calls.mono h fun e w'' he => ?_
      cases e with
      | returned u => exact he
      | panicked c => exact absurd he id
      | outgrown => exact absurd he letsOut_noQ
  | halt x w' => cases x <;> simp only [Oper.upon] at h <;> exact absurd h id

theorem wpOp_ofNoQ {i : Nat} {K : Act → World → Prop} {a : Act} {w : World} {Q' : Exit → Act → World → Prop} (h : wpOp P ops NoQ i K a w) : wpOp P ops Q' i K a w := by
  unfold wpOp at *
  split
  · rename_i ho; simp only [ho] at h; exact h
  · rename_i o ho
    simp only [ho] at h
    split
    · rename_i hw; simp only [hw, if_true] at h; exact .inl (wp_ofNoQ (h.resolve_right fun h => letsOut_noQ h.2))
    · rename_i hw; simp only [hw] at h; exact h

theorem wpOp_blind {i : Nat} {o : Oper} {v : Value} (ho : ops[i]? = some o) {K : Act → World → Prop} {a : Act} {w : World} (hC : C w) (hs : Sees P ops C o v a) (h : K (a.put o.dst v) w) : wpOp P ops NoQ i K a w := by
  rw [wpOp_noQ ho]
  rcases hs with ⟨hw, hv⟩ | ⟨hw, rfl⟩
  · rw [if_pos hw]
    unfold Oper.wp
    rw [hv w hC]
    exact h
  · rw [if_neg (by simp [hw])]
    exact h

/-! ### what is asked of the region: a Bool -/
/-- j waits for i, through others too -/
def reachB (md : Region.Mode) (ops : Array Oper) : Nat → Nat → Nat → Bool
  | 0, _, _ => false
  | n + 1, j, i => ((ops[j]?).map fun o => o.after.toList.any fun e => Region.binds md e && (e.on == i || reachB md ops n e.on i)).getD false
def waitsB (md : Region.Mode) (ops : Array Oper) (j i : Nat) : Bool := ((ops[j]?).map fun o => o.after.toList.any fun e => Region.binds md e && e.on == i).getD false
def pairB (md : Region.Mode) (ops : Array Oper) (T : Nat → Bool) (i j : Nat) : Bool :=
  waitsB md ops j i || (if T i || T j then ((ops[i]?).bind fun oi => (ops[j]?).map fun oj => oi.apart ops oj).getD true else reachB md ops (j + 1) j i)
def mixB (md : Region.Mode) (ops : Array Oper) (T : Nat → Bool) : Bool :=
  Region.noSelect ops && (List.range ops.size).all fun j => ((ops[j]?).map fun o => o.after.toList.all fun e => !Region.binds md e || decide (e.on < j)).getD true && (List.range j).all fun i => pairB md ops T i j

def Closed (md : Region.Mode) (ops : Array Oper) (listed : Array Bool) : Prop :=
  ∀ j o, ops[j]? = some o → listed.getD j false = true → ∀ e ∈ o.after, Region.binds md e = true → listed.getD e.on false = true

theorem reach_listed {md : Region.Mode} {listed : Array Bool} (hc : Closed md ops listed) : ∀ (n j i : Nat), reachB md ops n j i = true → (∀ o, ops[j]? = some o → ∀ e ∈ o.after, Region.binds md e = true → listed.getD e.on false = true) → listed.getD i false = true
  | 0, _, _, h, _ => by simp [reachB] at h
  | n + 1, j, i, h, hj => by
    unfold reachB at h
    cases ho : ops[j]? with
    | none => simp [ho] at h
    | some o =>
      simp only [ho, Option.map_some, Option.getD_some, List.any_eq_true, Bool.and_eq_true, Bool.or_eq_true, beq_iff_eq] at h
      obtain ⟨e, he, hb, h⟩ := h
      have hl := hj o ho e (Array.mem_toList_iff.1 he) hb
      rcases h with rfl | h
      · exact hl
      · exact reach_listed hc n e.on i h fun o' ho' e' he' hb' => hc e.on o' ho' hl e' he' hb'

theorem mix_any {md : Region.Mode} {Q' : Exit → Act → World → Prop} (hB : mixB md ops T = true) (hQ : ∀ a w, Q a w → Q' .normal a w) :
    ∀ (L : List Nat) (listed : Array Bool) (a : Act) (w : World), L.Pairwise (· < ·) → (∀ i, i ∈ L ↔ i < ops.size ∧ listed.getD i true = false) → listed.size = ops.size → Closed md ops listed → C w → mixI P ops C T Q L a w →
      wpAny P md ops Q' L.length listed a w := by
  simp only [mixB, Bool.and_eq_true, List.all_eq_true, List.mem_range] at hB
  obtain ⟨hsel0, hB⟩ := hB
  have hsel := Region.noSelect_spec hsel0
  have gd : ∀ (l : Array Bool) (i : Nat), i < l.size → l.getD i true = l.getD i false := fun l i hi => by simp [hi]
  suffices H : ∀ (n : Nat) (L : List Nat) (listed : Array Bool) (a : Act) (w : World), L.length = n → L.Pairwise (· < ·) → (∀ i, i ∈ L ↔ i < ops.size ∧ listed.getD i true = false) → listed.size = ops.size → Closed md ops listed → C w → mixI P ops C T Q L a w → wpAny P md ops Q' n listed a w from
    fun L listed a w h1 h2 h3 h4 h5 h6 => H L.length L listed a w rfl h1 h2 h3 h4 h5 h6
  intro n
  induction n with
  | zero =>
    intro L listed a w hn _ hL _ _ _ h
    have hL0 : L = [] := List.eq_nil_of_length_eq_zero hn
    subst hL0
    refine ⟨?_, hQ _ _ h⟩
    rcases hr : Region.ready md ops listed with _ | ⟨j, r⟩
    · rfl
    · have hj : j ∈ Region.ready md ops listed := by rw [hr]; exact List.mem_cons_self ..
      obtain ⟨hu, o, ho, _⟩ := mem_ready.1 hj
      exact absurd ((hL j).2 ⟨(Array.getElem?_eq_some_iff.1 ho).1, hu⟩) (by simp)
  | succ n ih =>
    intro L listed a w hn hP hL hsz hcl hC h
    refine ⟨fun hr => ?_, fun j hj => ?_⟩
    · -- something is ready: the first of L
      match L, hn with
      | i :: L', _ =>
        exfalso
        obtain ⟨hi, hui⟩ := (hL i).1 (List.mem_cons_self ..)
        have : i ∈ Region.ready md ops listed := by
          rw [mem_ready]
          refine ⟨hui, ops[i], Array.getElem?_eq_getElem hi, fun e he hb => ?_⟩
          have h1 := (hB i hi).1
          simp only [Array.getElem?_eq_getElem hi, Option.map_some, Option.getD_some, List.all_eq_true, Bool.or_eq_true, Bool.not_eq_true', decide_eq_true_eq] at h1
          have h2 := (h1 e (Array.mem_toList_iff.2 he)).resolve_left (by rw [hb]; simp)
          rcases hx : listed.getD e.on false with _ | _
          · have hm : e.on ∈ i :: L' := (hL e.on).2 ⟨by omega, by rw [gd listed _ (by omega)]; exact hx⟩
            rcases List.mem_cons.1 hm with he | he
            · omega
            · have := (List.pairwise_cons.1 hP).1 _ he
              omega
          · rfl
        rw [hr] at this
        cases this
    · obtain ⟨hu, oj, hoj, hall⟩ := mem_ready.1 hj
      have hjs : j < ops.size := (Array.getElem?_eq_some_iff.1 hoj).1
      have hjL : j ∈ L := (hL j).2 ⟨hjs, hu⟩
      obtain ⟨L1, L2, rfl⟩ := List.append_of_mem hjL
      rw [List.pairwise_append] at hP
      obtain ⟨hP1, hP2, hP12⟩ := hP
      have hlt : ∀ i ∈ L1, i < j := fun i hi => hP12 i hi j (List.mem_cons_self ..)
      have hun : ∀ i ∈ L1, i < ops.size ∧ listed.getD i false = false := fun i hi => by
        obtain ⟨h1, h2⟩ := (hL i).1 (List.mem_append_left _ hi)
        exact ⟨h1, by rw [← gd listed i (by omega)]; exact h2⟩
      have hpair : ∀ i ∈ L1, (T i = true ∨ T j = true) ∧ ∀ oi, ops[i]? = some oi → oi.apart ops oj = true := fun i hi => by
        obtain ⟨his, hif⟩ := hun i hi
        have hp := (hB j hjs).2 i (hlt i hi)
        unfold pairB at hp
        rw [Bool.or_eq_true] at hp
        have hnw : waitsB md ops j i ≠ true := fun hwt => by
          simp only [waitsB, hoj, Option.map_some, Option.getD_some, List.any_eq_true, Bool.and_eq_true, beq_iff_eq] at hwt
          obtain ⟨e, he, hb, rfl⟩ := hwt
          have := hall e (Array.mem_toList_iff.1 he) hb
          rw [hif] at this
          cases this
        have hp := hp.resolve_left hnw
        by_cases ht : T i = true ∨ T j = true
        · rw [if_pos (by simpa using ht)] at hp
          refine ⟨ht, fun oi hoi => ?_⟩
          simpa [hoi, hoj] using hp
        · rw [if_neg (by simpa using ht)] at hp
          have := reach_listed hcl (j + 1) j i hp fun o ho e he hb => by
            rw [hoj] at ho
            injection ho with ho
            subst ho
            exact hall e he hb
          rw [hif] at this
          cases this
      have hnd : j ∉ L1 ++ L2 := by
        intro hm
        rcases List.mem_append.1 hm with hm | hm
        · have := hlt j hm; omega
        · have := (List.pairwise_cons.1 hP2).1 j hm; omega
      have hnext : ∀ a' w', C w' → mixI P ops C T Q (L1 ++ L2) a' w' → wpAny P md ops Q' n (listed.setIfInBounds j true) a' w' := fun a' w' hC' hm => by
        refine ih (L1 ++ L2) _ a' w' (by simp at hn ⊢; omega) ?_ (fun i => ?_) (by simpa using hsz) (fun k o ho hk e he hb => ?_) hC' hm
        · rw [List.pairwise_append]
          exact ⟨hP1, (List.pairwise_cons.1 hP2).2, fun x hx y hy => hP12 x hx y (List.mem_cons_of_mem _ hy)⟩
        · by_cases hij : i = j
          · subst hij
            simp only [hnd, false_iff, not_and]
            intro _
            simp [show i < listed.size by omega]
          · rw [getD_set_ne true (Ne.symm hij), ← hL i]
            simp [hij]
        · by_cases hkj : k = j
          · subst hkj
            rw [hoj] at ho
            injection ho with ho
            subst ho
            exact getD_set_true (hall e he hb)
          · rw [getD_set_ne false (Ne.symm hkj)] at hk
            exact getD_set_true (hcl k o ho hk e he hb)
      refine wpOp_ofNoQ ?_
      cases htj : T j with
      | true =>
        obtain ⟨v, hs, hm⟩ := pull_blind hoj htj hsel L1 L2 a w (fun i hi => (hpair i hi).2) hC h
        exact wpOp_blind hoj hC hs (hnext _ _ hC hm)
      | false =>
        have hm := pull_eff hoj htj hsel L1 L2 a w (fun i hi => ⟨(hpair i hi).1.resolve_right (by simp [htj]), (hpair i hi).2⟩) hC h
        exact wpOp_mono (fun a' w' hk => hnext a' w' hk.1 hk.2) hm
end

/-! ### the walk -/
section
variable {P : Program} {ops : Array Oper} {C : World → Prop} {Q : Act → World → Prop}
/-- over the operations themselves; ts: which are blind -/
def mixL (P : Program) (ops : Array Oper) (C : World → Prop) (Q : Act → World → Prop) : List Oper → List Bool → Act → World → Prop
  | [], _, a, w => Q a w
  | o :: r, ts, a, w =>
    if ts.headD false then (if Region.wanted o (yielded ops a.tmps) then ∃ v, Oper.sees P o a C v ∧ mixL P ops C Q r ts.tail (a.put o.dst v) w else mixL P ops C Q r ts.tail (a.put o.dst undef) w)
    else (if Region.wanted o (yielded ops a.tmps) then o.wp P a w (fun a' w' => C w' ∧ mixL P ops C Q r ts.tail a' w') NoQ else C w ∧ mixL P ops C Q r ts.tail (a.put o.dst undef) w)

theorem mixI_of_mixL : ∀ (l : List Oper) (k : Nat) (ts : List Bool) (T : Nat → Bool) (a : Act) (w : World), (∀ j, l[j]? = ops[k + j]?) → (∀ j, T (k + j) = (ts.drop j).headD false) → mixL P ops C Q l ts a w → mixI P ops C T Q (List.range' k l.length) a w
  | [], k, ts, T, a, w, _, _, h => h
  | o :: l, k, ts, T, a, w, hl, hT, h => by
    have ho : ops[k]? = some o := by simpa using (hl 0).symm
    have ht : T k = ts.headD false := by simpa using hT 0
    have hl' : ∀ j, l[j]? = ops[k + 1 + j]? := fun j => by have := hl (j + 1); simpa [Nat.add_assoc, Nat.add_comm 1 j] using this
    have hT' : ∀ j, T (k + 1 + j) = (ts.tail.drop j).headD false := fun j => by
      have := hT (j + 1)
      rw [← Nat.add_assoc, Nat.add_right_comm] at this
      rw [this, List.drop_tail]
    have ih := fun a w h => mixI_of_mixL l (k + 1) ts.tail T a w hl' hT' h
    rw [List.length_cons, List.range'_succ]
    unfold mixL at h
    cases hb : ts.headD false with
    | true =>
      rw [hb, if_pos rfl] at h
      rw [mixI_blind ho (ht.trans hb)]
      by_cases hw : Region.wanted o (yielded ops a.tmps) = true
      · rw [if_pos hw] at h
        obtain ⟨v, hv, hm⟩ := h
        exact ⟨v, .inl ⟨hw, hv⟩, ih _ _ hm⟩
      · rw [if_neg hw] at h
        exact ⟨undef, .inr ⟨by simpa using hw, rfl⟩, ih _ _ h⟩
    | false =>
      rw [hb, if_neg (by simp)] at h
      rw [mixI_eff ho (ht.trans hb), wpOp_noQ ho]
      by_cases hw : Region.wanted o (yielded ops a.tmps) = true
      · rw [if_pos hw] at h ⊢
        exact Oper.wp_mono (fun a' w' hk => ⟨hk.1, ih _ _ hk.2⟩) h
      · rw [if_neg hw] at h ⊢
        exact ⟨h.1, ih _ _ h.2⟩

/-- a region that draws, its operations written out: ts says which are blind -/
theorem wp_region_mix {id : Nat} {Q : Exit → Act → World → Prop} {a : Act} {w : World} {l : List Oper} (C : World → Prop) (ts : List Bool) (hm : P.follows .mixedOrders = true) (hB : mixB .any l.toArray (fun i => (ts.drop i).headD false) = true) (hC : C w.drew)
    (h : mixL P l.toArray C (Q .normal) l ts a w.drew) : (Code.region id l.toArray true).wp P Q a w := by
  refine wp_region_any hm ?_
  have hI := mixI_of_mixL l 0 ts (fun i => (ts.drop i).headD false) a w.drew (by simp) (by simp) h
  have := mix_any (Q' := Q) hB (fun _ _ h => h) (List.range' 0 l.length) (Array.replicate l.toArray.size false) a w.drew (List.pairwise_lt_range') (fun i => by
    simp [List.mem_range'_1]
    intro hi
    simp [hi]) (by simp) (fun j o ho hl => by
    exfalso
    by_cases hj : j < l.length <;> simp [hj] at hl) hC hI
  simpa using this

theorem mix_nil {a : Act} {w : World} {ts : List Bool} (h : Q a w) : mixL P ops C Q [] ts a w := h
/-- operations that yield a value or panic -/
def valueOp : Op → Bool
  | .move _ | .assign _ | .pick .. | .binOp .. | .unOp .. | .convert .. | .fieldAddr .. | .field .. | .indexAddr .. | .index .. | .load .. | .extract .. | .slice .. | .lookup .. | .makeInterface .. | .build .. => true
  | .call c => match c.callee with | .builtin .len => true | .builtin .cap => true | .builtin .max => true | .builtin .min => true | _ => false
  | _ => false
theorem value_of_run {o : Oper} {ρ : Operand → Value} {w w' : World} {n : Next} (hop : valueOp o.op = true) (h : (execOp ρ o).run P w = .ok n w') : ∃ v, n = .value v := by
  have key : ∀ (s : Sem Value) (n : Next), (do pure (Next.value (← s)) : Sem Next).run P w = .ok n w' → ∃ v, n = .value v := fun s n h => by
    simp only [Sem.run_bind] at h
    cases hs : s.run P w with
    | ok v w1 =>
      rw [hs] at h
      simp only [Result.andThen_ok, Sem.run_pure, Result.ok.injEq] at h
      exact ⟨v, h.1.symm⟩
    | halt x w1 =>
      rw [hs] at h
      cases h
  have key2 : ∀ (v : Value) (n : Next), (pure (Next.value v) : Sem Next).run P w = .ok n w' → ∃ v, n = .value v := fun v n h => by
    simp only [Sem.run_pure, Result.ok.injEq] at h
    exact ⟨v, h.1.symm⟩
  have key3 : ∀ (X : Result Value), (X.andThen fun a w' => Result.ok (Next.value a) w') = .ok n w' → ∃ v, n = .value v := fun X h => by
    cases X with
    | ok v w1 =>
      simp only [Result.andThen_ok, Result.ok.injEq] at h
      exact ⟨v, h.1.symm⟩
    | halt x w1 => cases h
  unfold execOp at h
  cases hx : o.op <;> rw [hx] at hop h <;> first | (cases hop; done) | skip
  case move x => exact key2 _ _ h
  case assign x => exact key2 _ _ h
  case pick c x y =>
    simp only [Sem.run_bind] at h
    cases hs : (asBool (ρ c)).run P w with
    | ok v w1 =>
      rw [hs] at h
      simp only [Result.andThen_ok, Sem.run_pure, Result.ok.injEq] at h
      exact ⟨_, h.1.symm⟩
    | halt x w1 =>
      rw [hs] at h
      cases h
  case call c =>
    obtain ⟨cl, args, ty⟩ := c
    cases cl with
    | builtin b =>
      cases b <;> first | (cases hop; done) | skip
      all_goals
        simp only [resolve, Sem.run_bind, Sem.run_pure, Result.andThen_ok, invoke, builtin] at h
        exact key3 _ h
    | value f => cases hop
    | invoke r m => cases hop
  all_goals exact key _ _ h
theorem mix_b {o : Oper} {r : List Oper} {ts : List Bool} {a : Act} {w : World} (hg : o.guard = none) (hop : valueOp o.op = true) (d : Tmp) (hd : o.dst = some d) (hs : d < a.tmps.size)
    (h : ∀ K : Act → Prop, (∀ a', mixL P ops C Q r ts a' w → K a') → ∃ v, (∀ w', C w' → ∀ K' : Act → World → Prop, K' (a.put o.dst v) w' → o.wp P a w' K' NoQ) ∧ K (a.put o.dst v)) : mixL P ops C Q (o :: r) (true :: ts) a w := by
  obtain ⟨v, hv, hm⟩ := h _ (fun _ h => h)
  unfold mixL
  rw [if_pos (by rfl), if_pos (by simp [Region.wanted, hg])]
  refine ⟨v, fun w' hC => ?_, hm⟩
  have h1 := hv w' hC (fun a' w'' => a' = a.put o.dst v ∧ w'' = w') ⟨rfl, rfl⟩
  unfold Oper.wp at h1
  cases hr : (execOp a.eval o).run P w' with
  | ok n w1 =>
    obtain ⟨u, rfl⟩ := value_of_run hop hr
    rw [hr] at h1
    simp only [Oper.upon] at h1
    obtain ⟨h2, rfl⟩ := h1
    have h3 := congrArg (fun x : Act => x.tmps[d]?) h2
    simp only [hd, Act.put, Array.getElem?_setIfInBounds_self_of_lt hs, Option.some.injEq] at h3
    rw [h3]
  | halt x w1 =>
    rw [hr] at h1
    cases x <;> simp only [Oper.upon] at h1 <;> exact absurd h1 id
theorem mix_n {o : Oper} {r : List Oper} {ts : List Bool} {a : Act} {w : World} (hg : o.guard = none) (x : Operand) (ho : o.op = .nilCheck x) (ad : Addr) (hx : a.eval x = .pointer (some ad))
    (h : mixL P ops C Q r ts (a.put o.dst (.pointer (some ad))) w) : mixL P ops C Q (o :: r) (true :: ts) a w := by
  unfold mixL
  rw [if_pos (by rfl), if_pos (by simp [Region.wanted, hg])]
  refine ⟨_, fun w' _ => ?_, h⟩
  unfold execOp
  simp [ho, hx]
theorem mix_eff {o : Oper} {r : List Oper} {ts : List Bool} {a : Act} {w : World} (hg : o.guard = none) (h : ∀ K : Act → World → Prop, (∀ a' w', C w' → mixL P ops C Q r ts a' w' → K a' w') → o.wp P a w K NoQ) : mixL P ops C Q (o :: r) (false :: ts) a w := by
  unfold mixL
  rw [if_neg (by simp), if_pos (by simp [Region.wanted, hg])]
  exact h _ fun a' w' hC hm => ⟨hC, hm⟩
end
end Go.Bl

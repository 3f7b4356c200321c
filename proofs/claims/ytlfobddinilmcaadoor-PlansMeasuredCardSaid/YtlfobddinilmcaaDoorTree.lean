/- Regions that draw their order: a plan says how they are walked. Operations that only look (world-blind ones in a class C of worlds, and pure ones) are taken as soon as they are ready; at the others the plan parts where more than one is ready. -/
import Derived.Test.YtlfobddinilmcaaDoorMix
import Derived.Test.YtlfobddinilmcaaDoorInv2
set_option linter.unusedVariables false
set_option linter.unusedSimpArgs false
namespace Go.Bl
open Go
variable {P : Program} {ops : Array Oper} {C : World → Prop} {Q : Act → World → Prop}

inductive Plan | done | bl (j : Nat) (p : Plan) | ef (j : Nat) (p : Plan) | alt (p q : Plan)

/-- in which worlds an operation of a kind is looked at: 1 in C, 2 in all -/
def clsT (C : World → Prop) (k : Nat) : World → Prop := fun w => k = 1 → C w
def SeesT (P : Program) (ops : Array Oper) (C : World → Prop) (k : Nat) (o : Oper) (v : Value) (a : Act) : Prop := Sees P ops (clsT C k) o v a

def runP (P : Program) (ops : Array Oper) (C : World → Prop) (T : Nat → Nat) (need : Nat → Bool) (Q : Act → World → Prop) : Plan → Act → World → Prop
  | .done, a, w => Q a w
  | .bl j p, a, w => ∃ o, ops[j]? = some o ∧ ∃ v, SeesT P ops C (T j) o v a ∧ runP P ops C T need Q p (a.put o.dst v) w
  | .ef j p, a, w => wpOp P ops NoQ j (fun a' w' => (need j = true → C w') ∧ runP P ops C T need Q p a' w') a w
  | .alt p q, a, w => runP P ops C T need Q p a w ∧ runP P ops C T need Q q a w

def readyB (ops : Array Oper) (m : Nat → Bool) (j : Nat) : Bool := !m j && ((ops[j]?).map fun o => o.after.toList.all fun e => !Region.binds .any e || m e.on).getD false
def inFront (j : Nat) : Plan → Bool
  | .ef i _ => i == j
  | .alt p q => inFront j p || inFront j q
  | _ => false
def frontB (ops : Array Oper) (T : Nat → Nat) (p : Plan) (m : Nat → Bool) : Bool := (List.range ops.size).all fun j => !readyB ops m j || (T j == 0 && inFront j p)
def okP (ops : Array Oper) (T : Nat → Nat) : Plan → Bool → (Nat → Bool) → Bool
  | .done, f, m => !f && (List.range ops.size).all fun j => m j
  | .bl j p, f, m => !f && (readyB ops m j && (T j != 0 && okP ops T p false (setm m j)))
  | .ef j p, f, m => (f || frontB ops T (.ef j p) m) && (readyB ops m j && (T j == 0 && okP ops T p false (setm m j)))
  | .alt p q, f, m => (f || frontB ops T (.alt p q) m) && (okP ops T p true m && okP ops T q true m)

theorem setm_comm (m : Nat → Bool) (i j : Nat) : setm (setm m i) j = setm (setm m j) i := by
  funext x; simp only [setm]; rw [Bool.or_left_comm]
theorem readyB_setm {m : Nat → Bool} {i j : Nat} (h : readyB ops m j = true) (hij : j ≠ i) : readyB ops (setm m i) j = true := by
  unfold readyB at h ⊢
  rw [Bool.and_eq_true] at h ⊢
  obtain ⟨h1, h2⟩ := h
  refine ⟨by simp only [setm, show (j == i) = false from beq_eq_false_iff_ne.2 hij, Bool.false_or]; exact h1, ?_⟩
  cases ho : ops[j]? with
  | none => rw [ho] at h2; simp at h2
  | some o =>
    rw [ho] at h2
    simp only [Option.map_some, Option.getD_some, List.all_eq_true, Bool.or_eq_true] at h2 ⊢
    intro e he
    rcases h2 e he with h | h
    · exact .inl h
    · exact .inr (by simp only [setm, h, Bool.or_true])
theorem readyB_not {m : Nat → Bool} {j : Nat} (h : readyB ops m j = true) : m j = false := by
  unfold readyB at h; rw [Bool.and_eq_true] at h; simpa using h.1
theorem readyB_some {m : Nat → Bool} {j : Nat} (h : readyB ops m j = true) : ∃ o, ops[j]? = some o := by
  unfold readyB at h; rw [Bool.and_eq_true] at h
  cases ho : ops[j]? with
  | none => rw [ho] at h; simp at h
  | some o => exact ⟨o, rfl⟩

/-- what is asked of the operations two by two -/
def apartB (ops : Array Oper) (T : Nat → Nat) : Bool :=
  Region.noSelect ops && ((List.range ops.size).all fun j => ((ops[j]?).map fun o => o.after.toList.all fun e => !Region.binds .any e || decide (e.on < j)).getD true &&
    (List.range ops.size).all fun i => i == j || T i == 0 || waitsB .any ops j i || waitsB .any ops i j || ((ops[i]?).bind fun oi => (ops[j]?).map fun oj => oi.apart ops oj).getD true)
def needB (ops : Array Oper) (T : Nat → Nat) (k : Nat) : Bool := (List.range ops.size).any fun i => T i == 1 && !reachB .any ops (k + 1) k i

theorem runP_front {T : Nat → Nat} {need : Nat → Bool} {j : Nat} : ∀ {p : Plan} {m : Nat → Bool} {a : Act} {w : World}, inFront j p = true → okP ops T p true m = true → runP P ops C T need Q p a w →
    ∃ p', okP ops T p' false (setm m j) = true ∧ wpOp P ops NoQ j (fun a' w' => (need j = true → C w') ∧ runP P ops C T need Q p' a' w') a w
  | .done, m, a, w, hf, _, _ => by simp [inFront] at hf
  | .bl _ _, m, a, w, hf, _, _ => by simp [inFront] at hf
  | .ef i p, m, a, w, hf, hok, h => by
    simp only [inFront, beq_iff_eq] at hf
    subst hf
    simp only [okP, Bool.true_or, Bool.true_and, Bool.and_eq_true] at hok
    exact ⟨p, hok.2.2, h⟩
  | .alt p q, m, a, w, hf, hok, h => by
    simp only [inFront, Bool.or_eq_true] at hf
    simp only [okP, Bool.true_or, Bool.true_and, Bool.and_eq_true] at hok
    rcases hf with hf | hf
    · exact runP_front hf hok.1 h.1
    · exact runP_front hf hok.2 h.2

section
variable {T : Nat → Nat} {need : Nat → Bool} (hsel : ∀ (k : Nat) (o : Oper) cs b, ops[k]? = some o → o.op ≠ .select cs b)
  (hap : ∀ (m : Nat → Bool) (i j : Nat) oi oj, i ≠ j → T i ≠ 0 → readyB ops m i = true → readyB ops m j = true → ops[i]? = some oi → ops[j]? = some oj → oi.apart ops oj = true)
include hsel hap

theorem runP_eff {j : Nat} {oj : Oper} (hj : ops[j]? = some oj) (htj : T j = 0) : ∀ {p : Plan} {m : Nat → Bool} {a : Act} {w : World}, okP ops T p false m = true → readyB ops m j = true → runP P ops C T need Q p a w →
    ∃ p', okP ops T p' false (setm m j) = true ∧ wpOp P ops NoQ j (fun a' w' => (need j = true → C w') ∧ runP P ops C T need Q p' a' w') a w
  | .done, m, a, w, hok, hr, h => by
    have h1 := readyB_not hr
    simp only [okP, Bool.not_false, Bool.true_and, List.all_eq_true, List.mem_range] at hok
    rw [hok j (Array.getElem?_eq_some_iff.1 hj).1] at h1
    cases h1
  | .ef i p, m, a, w, hok, hr, h => by
    have hok' := hok
    simp only [okP, Bool.false_or, Bool.and_eq_true, frontB, List.all_eq_true, List.mem_range] at hok
    have := hok.1 j (Array.getElem?_eq_some_iff.1 hj).1
    simp only [hr, Bool.not_true, Bool.false_or, Bool.and_eq_true] at this
    refine runP_front this.2 ?_ h
    simp only [okP, Bool.true_or, Bool.true_and, Bool.and_eq_true]
    exact hok.2
  | .alt p q, m, a, w, hok, hr, h => by
    simp only [okP, Bool.false_or, Bool.and_eq_true, frontB, List.all_eq_true, List.mem_range] at hok
    have := hok.1 j (Array.getElem?_eq_some_iff.1 hj).1
    simp only [hr, Bool.not_true, Bool.false_or, Bool.and_eq_true] at this
    refine runP_front this.2 ?_ h
    simp only [okP, Bool.true_or, Bool.true_and, Bool.and_eq_true]
    exact hok.2
  | .bl i p, m, a, w, hok, hr, h => by
    simp only [okP, Bool.not_false, Bool.true_and, Bool.and_eq_true, bne_iff_ne] at hok
    obtain ⟨hri, hti, hokp⟩ := hok
    obtain ⟨oi, hoi, vi, hsi, h⟩ := h
    have hij : i ≠ j := by rintro rfl; exact hti htj
    have hapij := hap m i j oi oj hij hti hri hr hoi hj
    obtain ⟨h1, h2, h3⟩ := Oper.apart_spec hapij
    obtain ⟨p', hp', ih⟩ := runP_eff hj htj hokp (readyB_setm hr (Ne.symm hij)) h
    rw [setm_comm] at hp'
    refine ⟨.bl i p', ?_, ?_⟩
    · simp only [okP, Bool.not_false, Bool.true_and, Bool.and_eq_true, bne_iff_ne]
      exact ⟨readyB_setm hri hij, hti, hp'⟩
    · rw [wpOp_noQ hj, wanted_put oj a oi.dst vi h1] at ih
      rw [wpOp_noQ hj]
      have fin : ∀ (b : Act) (u : Value) (w' : World), b.tmps = a.tmps → ((need j = true → C w') ∧ runP P ops C T need Q p' ((b.put oi.dst vi).put oj.dst u) w') → ((need j = true → C w') ∧ runP P ops C T need Q (.bl i p') (b.put oj.dst u) w') := fun b u w' hb hk => by
        refine ⟨hk.1, oi, hoi, vi, (Sees.put (fun cs b => hsel i oi cs b hoi) h3).2 (hsi.tmps hb.symm), ?_⟩
        rw [← Act.put_comm b vi u h2]
        exact hk.2
      by_cases hw : Region.wanted oj (yielded ops a.tmps) = true
      · rw [if_pos hw] at ih ⊢
        exact wp_unput (fun cs b => hsel j oj cs b hj) h1 fin ih
      · rw [if_neg hw] at ih ⊢
        exact fin a undef w rfl ih

theorem runP_blind {j : Nat} {oj : Oper} (hj : ops[j]? = some oj) (htj : T j ≠ 0) : ∀ {p : Plan} {m : Nat → Bool} {a : Act} {w : World}, okP ops T p false m = true → readyB ops m j = true → runP P ops C T need Q p a w →
    ∃ v p', SeesT P ops C (T j) oj v a ∧ okP ops T p' false (setm m j) = true ∧ runP P ops C T need Q p' (a.put oj.dst v) w
  | .done, m, a, w, hok, hr, h => by
    have h1 := readyB_not hr
    simp only [okP, Bool.not_false, Bool.true_and, List.all_eq_true, List.mem_range] at hok
    rw [hok j (Array.getElem?_eq_some_iff.1 hj).1] at h1
    cases h1
  | .ef i p, m, a, w, hok, hr, h => by
    simp only [okP, Bool.false_or, Bool.and_eq_true, frontB, List.all_eq_true, List.mem_range] at hok
    have := hok.1 j (Array.getElem?_eq_some_iff.1 hj).1
    simp only [hr, Bool.not_true, Bool.false_or, Bool.and_eq_true, beq_iff_eq] at this
    exact absurd this.1 htj
  | .alt p q, m, a, w, hok, hr, h => by
    simp only [okP, Bool.false_or, Bool.and_eq_true, frontB, List.all_eq_true, List.mem_range] at hok
    have := hok.1 j (Array.getElem?_eq_some_iff.1 hj).1
    simp only [hr, Bool.not_true, Bool.false_or, Bool.and_eq_true, beq_iff_eq] at this
    exact absurd this.1 htj
  | .bl i p, m, a, w, hok, hr, h => by
    simp only [okP, Bool.not_false, Bool.true_and, Bool.and_eq_true, bne_iff_ne] at hok
    obtain ⟨hri, hti, hokp⟩ := hok
    obtain ⟨oi, hoi, vi, hsi, h⟩ := h
    by_cases hij : i = j
    · subst hij
      rw [hoi] at hj
      injection hj with hj
      subst hj
      exact ⟨vi, p, hsi, hokp, h⟩
    · have hapij := hap m i j oi oj hij hti hri hr hoi hj
      obtain ⟨h1, h2, h3⟩ := Oper.apart_spec hapij
      obtain ⟨v, p', hsj, hp', ih⟩ := runP_blind hj htj hokp (readyB_setm hr (Ne.symm hij)) h
      rw [setm_comm] at hp'
      refine ⟨v, .bl i p', (Sees.put (fun cs b => hsel j oj cs b hj) h1).1 hsj, ?_, oi, hoi, vi, (Sees.put (fun cs b => hsel i oi cs b hoi) h3).2 hsi, ?_⟩
      · simp only [okP, Bool.not_false, Bool.true_and, Bool.and_eq_true, bne_iff_ne]
        exact ⟨readyB_setm hri hij, hti, hp'⟩
      · rw [← Act.put_comm a vi v h2]
        exact ih
end

theorem okP_in_ready {T : Nat → Nat} : ∀ {p : Plan} {m : Nat → Bool}, okP ops T p true m = true → ∃ j, readyB ops m j = true
  | .done, m, h => by simp [okP] at h
  | .bl _ _, m, h => by simp [okP] at h
  | .ef j p, m, h => by simp only [okP, Bool.true_or, Bool.true_and, Bool.and_eq_true] at h; exact ⟨j, h.1⟩
  | .alt p q, m, h => by simp only [okP, Bool.true_or, Bool.true_and, Bool.and_eq_true] at h; exact okP_in_ready h.1

theorem tree_any {Q' : Exit → Act → World → Prop} {T : Nat → Nat} (hB : apartB ops T = true) (hQ : ∀ a w, Q a w → Q' .normal a w) :
    ∀ (n : Nat) (L : List Nat) (listed : Array Bool) (p : Plan) (m : Nat → Bool) (a : Act) (w : World), L.length = n → L.Pairwise (· < ·) → (∀ i, i ∈ L ↔ i < ops.size ∧ listed.getD i true = false) → (∀ i, i < ops.size → m i = listed.getD i true) → listed.size = ops.size → Closed .any ops listed → ((∃ i, i < ops.size ∧ m i = false ∧ T i = 1) → C w) → okP ops T p false m = true → runP P ops C T (needB ops T) Q p a w →
      wpAny P .any ops Q' n listed a w := by
  simp only [apartB, Bool.and_eq_true, List.all_eq_true, List.mem_range] at hB
  obtain ⟨hsel0, hB⟩ := hB
  have hsel := Region.noSelect_spec hsel0
  have gd : ∀ (l : Array Bool) (i : Nat), i < l.size → l.getD i true = l.getD i false := fun l i hi => by simp [hi]
  have hwt : ∀ (m : Nat → Bool) (i j : Nat), readyB ops m i = true → readyB ops m j = true → waitsB .any ops j i = true → False := fun m i j hi hj hw => by
    have h1 := readyB_not hi
    obtain ⟨o, ho⟩ := readyB_some hj
    unfold readyB at hj
    simp only [ho, Option.map_some, Option.getD_some, Bool.and_eq_true, List.all_eq_true, Bool.or_eq_true, Bool.not_eq_true'] at hj
    simp only [waitsB, ho, Option.map_some, Option.getD_some, List.any_eq_true, Bool.and_eq_true, beq_iff_eq] at hw
    obtain ⟨e, he, hb, rfl⟩ := hw
    rcases hj.2 e he with h | h
    · rw [hb] at h; cases h
    · rw [h] at h1; cases h1
  have hap : ∀ (m : Nat → Bool) (i j : Nat) oi oj, i ≠ j → T i ≠ 0 → readyB ops m i = true → readyB ops m j = true → ops[i]? = some oi → ops[j]? = some oj → oi.apart ops oj = true := fun m i j oi oj hij ht hi hj hoi hoj => by
    have := (hB j (Array.getElem?_eq_some_iff.1 hoj).1).2 i (Array.getElem?_eq_some_iff.1 hoi).1
    simp only [Bool.or_eq_true, beq_iff_eq, hoi, hoj, Option.bind_some, Option.map_some, Option.getD_some] at this
    rcases this with (((h | h) | h) | h) | h
    · exact absurd h hij
    · exact absurd h ht
    · exact absurd h (fun h => hwt m i j hi hj h)
    · exact absurd h (fun h => hwt m j i hj hi h)
    · exact h
  intro n
  induction n with
  | zero =>
    intro L listed p m a w hn _ hL hm _ _ _ hok h
    have hL0 : L = [] := List.eq_nil_of_length_eq_zero hn
    subst hL0
    have hall : ∀ i, i < ops.size → m i = true := fun i hi => by
      rw [hm i hi]
      rcases hx : listed.getD i true with _ | _
      · exact absurd ((hL i).2 ⟨hi, hx⟩) (by simp)
      · rfl
    have hno : ∀ j, readyB ops m j = true → False := fun j hr => by
      obtain ⟨o, ho⟩ := readyB_some hr
      have h1 := readyB_not hr
      rw [hall j (Array.getElem?_eq_some_iff.1 ho).1] at h1
      cases h1
    refine ⟨?_, ?_⟩
    · rcases hr : Region.ready .any ops listed with _ | ⟨j, r⟩
      · rfl
      · have hj : j ∈ Region.ready .any ops listed := by rw [hr]; exact List.mem_cons_self ..
        obtain ⟨hu, o, ho, _⟩ := mem_ready.1 hj
        exact absurd ((hL j).2 ⟨(Array.getElem?_eq_some_iff.1 ho).1, hu⟩) (by simp)
    · cases p with
      | done => exact hQ _ _ h
      | bl j p => simp only [okP, Bool.and_eq_true] at hok; exact (hno j hok.2.1).elim
      | ef j p => simp only [okP, Bool.and_eq_true] at hok; exact (hno j hok.2.1).elim
      | alt p q => simp only [okP, Bool.and_eq_true] at hok; obtain ⟨j, hj⟩ := okP_in_ready hok.2.1; exact (hno j hj).elim
  | succ n ih =>
    intro L listed p m a w hn hP hL hm hsz hcl hC hok h
    refine ⟨fun hr => ?_, fun j hj => ?_⟩
    · match L, hn with
      | i :: L', _ =>
        exfalso
        obtain ⟨hi, hui⟩ := (hL i).1 (List.mem_cons_self ..)
        have : i ∈ Region.ready .any ops listed := by
          rw [mem_ready]
          refine ⟨hui, ops[i], Array.getElem?_eq_getElem hi, fun e he hb => ?_⟩
          have h1 := (hB i hi).1
          simp only [Array.getElem?_eq_getElem hi, Option.map_some, Option.getD_some, List.all_eq_true, Bool.or_eq_true, Bool.not_eq_true', decide_eq_true_eq] at h1
          have h2 := (h1 e (Array.mem_toList_iff.2 he)).resolve_left (by rw [hb]; simp)
          rcases hx : listed.getD e.on false with _ | _
          · have hmm : e.on ∈ i :: L' := (hL e.on).2 ⟨by omega, by rw [gd listed _ (by omega)]; exact hx⟩
            rcases List.mem_cons.1 hmm with he | he
            · omega
            · have := (List.pairwise_cons.1 hP).1 _ he
              omega
          · rfl
        rw [hr] at this
        cases this
    · obtain ⟨hu, oj, hoj, hall⟩ := mem_ready.1 hj
      have hjs : j < ops.size := (Array.getElem?_eq_some_iff.1 hoj).1
      have hjL : j ∈ L := (hL j).2 ⟨hjs, hu⟩
      have hrj : readyB ops m j = true := by
        unfold readyB
        rw [hm j hjs, hu]
        simp only [hoj, Option.map_some, Option.getD_some, Bool.not_false, Bool.true_and, List.all_eq_true, Bool.or_eq_true, Bool.not_eq_true']
        intro e he
        cases hb : Region.binds .any e with
        | false => exact .inl rfl
        | true =>
          right
          have h1 := hall e (Array.mem_toList_iff.1 he) hb
          have h2 := (hB j hjs).1
          simp only [hoj, Option.map_some, Option.getD_some, List.all_eq_true, Bool.or_eq_true, Bool.not_eq_true', decide_eq_true_eq] at h2
          have h3 := (h2 e he).resolve_left (by rw [hb]; simp)
          rw [hm e.on (by omega), gd listed e.on (by omega)]
          exact h1
      obtain ⟨L1, L2, rfl⟩ := List.append_of_mem hjL
      rw [List.pairwise_append] at hP
      obtain ⟨hP1, hP2, hP12⟩ := hP
      have hnd : j ∉ L1 ++ L2 := by
        intro hx
        rcases List.mem_append.1 hx with hx | hx
        · have := hP12 j hx j (List.mem_cons_self ..); omega
        · have := (List.pairwise_cons.1 hP2).1 j hx; omega
      have hnext : ∀ p' a' w', ((∃ i, i < ops.size ∧ setm m j i = false ∧ T i = 1) → C w') → okP ops T p' false (setm m j) = true → runP P ops C T (needB ops T) Q p' a' w' → wpAny P .any ops Q' n (listed.setIfInBounds j true) a' w' := fun p' a' w' hC' hok' hrun => by
        refine ih (L1 ++ L2) _ p' (setm m j) a' w' (by simp at hn ⊢; omega) ?_ (fun i => ?_) (fun i hi => ?_) (by simpa using hsz) (fun k o ho hk e he hb => ?_) hC' hok' hrun
        · rw [List.pairwise_append]
          exact ⟨hP1, (List.pairwise_cons.1 hP2).2, fun x hx y hy => hP12 x hx y (List.mem_cons_of_mem _ hy)⟩
        · by_cases hij : i = j
          · subst hij
            simp only [hnd, false_iff, not_and]
            intro _
            simp [show i < listed.size by omega]
          · rw [getD_set_ne true (Ne.symm hij), ← hL i]
            simp [hij]
        · by_cases hij : i = j
          · subst hij
            simp [setm, show i < listed.size by omega]
          · rw [getD_set_ne true (Ne.symm hij), ← hm i hi]
            simp [setm, hij]
        · by_cases hkj : k = j
          · subst hkj
            rw [hoj] at ho
            injection ho with ho
            subst ho
            exact getD_set_true (hall e he hb)
          · rw [getD_set_ne false (Ne.symm hkj)] at hk
            exact getD_set_true (hcl k o ho hk e he hb)
      refine wpOp_ofNoQ ?_
      by_cases htj : T j = 0
      · obtain ⟨p', hp', hw⟩ := runP_eff hsel hap hoj htj hok hrj h
        refine wpOp_mono (fun a' w' hk => hnext p' a' w' (fun ⟨i, hi, hmi, hti⟩ => hk.1 ?_) hp' hk.2) hw
        have hlj : ∀ i, i < ops.size → reachB .any ops (j + 1) j i = true → m i = true := fun i hi hr => by
          rw [hm i hi, gd listed i (by omega)]
          exact reach_listed hcl (j + 1) j i hr fun o ho e he hb => by
            rw [hoj] at ho
            injection ho with ho
            subst ho
            exact hall e he hb
        unfold needB
        rw [List.any_eq_true]
        refine ⟨i, List.mem_range.2 hi, ?_⟩
        rw [Bool.and_eq_true, beq_iff_eq]
        refine ⟨hti, ?_⟩
        cases hx : reachB .any ops (j + 1) j i with
        | false => rfl
        | true =>
          have := hlj i hi hx
          simp only [setm, this, Bool.or_true] at hmi
          cases hmi
      · obtain ⟨v, p', hs, hp', hrun⟩ := runP_blind hsel hap hoj htj hok hrj h
        have hcw : clsT C (T j) w := by
          intro h1
          exact hC ⟨j, hjs, readyB_not hrj, h1⟩
        exact wpOp_blind hoj hcw hs (hnext p' _ w (fun ⟨i, hi, hmi, hti⟩ => hC ⟨i, hi, by
          simp only [setm, Bool.or_eq_false_iff] at hmi; exact hmi.2, hti⟩) hp' hrun)

/-- a region that draws, its operations written out: ts says what they are (0: they act; 1: they look, in worlds of C; 2: they only compute) -/
theorem wp_region_tree {id : Nat} {Q : Exit → Act → World → Prop} {a : Act} {w : World} {l : List Oper} (C : World → Prop) (ts : List Nat) (pl : Plan) (hm : P.follows .mixedOrders = true) (hB : (apartB l.toArray (fun i => ts.getD i 0) && okP l.toArray (fun i => ts.getD i 0) pl false fun _ => false) = true) (hC : C w.drew)
    (h : runP P l.toArray C (fun i => ts.getD i 0) (needB l.toArray fun i => ts.getD i 0) (Q .normal) pl a w.drew) : (Code.region id l.toArray true).wp P Q a w := by
  refine wp_region_any hm ?_
  rw [Bool.and_eq_true] at hB
  have := tree_any (Q' := Q) hB.1 (fun _ _ h => h) l.length (List.range' 0 l.length) (Array.replicate l.toArray.size false) pl (fun _ => false) a w.drew (by simp) (List.pairwise_lt_range') (fun i => by
    simp [List.mem_range'_1]
    intro hi
    simp [hi]) (fun i hi => by simp at hi; simp [hi]) (by simp) (fun j o ho hl => by
    exfalso
    by_cases hj : j < l.length <;> simp [hj] at hl) (fun _ => hC) hB.2 h
  simpa using this

section
variable {l : List Oper} {T : Nat → Nat} {need : Nat → Bool} {j : Nat} {p : Plan} {o : Oper} {a : Act} {w : World}
theorem tree_done (h : Q a w) : runP P ops C T need Q .done a w := h
theorem tree_alt {q : Plan} (h1 : runP P ops C T need Q p a w) (h2 : runP P ops C T need Q q a w) : runP P ops C T need Q (.alt p q) a w := ⟨h1, h2⟩
theorem tree_look (k : Nat) (hk : T j = k) (ho : l[j]? = some o) (hw : Region.wanted o (yielded l.toArray a.tmps) = true) (hop : valueOp o.op = true) (d : Tmp) (hd : o.dst = some d) (hs : d < a.tmps.size)
    (h : ∀ K : Act → Prop, (∀ a', runP P l.toArray C T need Q p a' w → K a') → ∃ v, (∀ w', (k = 1 → C w') → ∀ K' : Act → World → Prop, K' (a.put o.dst v) w' → o.wp P a w' K' NoQ) ∧ K (a.put o.dst v)) : runP P l.toArray C T need Q (.bl j p) a w := by
  obtain ⟨v, hv, hm⟩ := h _ (fun _ h => h)
  subst hk
  refine ⟨o, by simpa using ho, v, .inl ⟨hw, fun w' hC => ?_⟩, hm⟩
  have h1 := hv w' hC (fun a' w'' => a' = a.put o.dst v ∧ w'' = w') ⟨rfl, rfl⟩
  unfold Oper.wp at h1
  cases hr : (execOp a.eval o).run P w' with
  | ok n w1 =>
    obtain ⟨u, rfl⟩ := value_of_run hop hr
    rw [hr] at h1
    simp only [Oper.upon] at h1
    obtain ⟨h2, rfl⟩ := h1
    have h3 := congrArg (fun x : Act => x.tmps[d]?) h2
    simp only [hd, Act.put, Array.getElem?_setIfInBounds_self_of_lt hs, Option.some.injEq] at h3
    rw [h3]
  | halt x w1 =>
    rw [hr] at h1
    cases x <;> simp only [Oper.upon] at h1 <;> exact absurd h1 id
/-- a look, in worlds of C -/
theorem tree_b (hk : T j = 1) (ho : l[j]? = some o) (hw : Region.wanted o (yielded l.toArray a.tmps) = true) (hop : valueOp o.op = true) (d : Tmp) (hd : o.dst = some d) (hs : d < a.tmps.size)
    (h : ∀ K : Act → Prop, (∀ a', runP P l.toArray C T need Q p a' w → K a') → ∃ v, (∀ w', C w' → ∀ K' : Act → World → Prop, K' (a.put o.dst v) w' → o.wp P a w' K' NoQ) ∧ K (a.put o.dst v)) : runP P l.toArray C T need Q (.bl j p) a w :=
  tree_look 1 hk ho hw hop d hd hs fun K hK => let ⟨v, h1, h2⟩ := h K hK; ⟨v, fun w' hC => h1 w' (hC rfl), h2⟩
/-- what only computes -/
theorem tree_p (hk : T j = 2) (ho : l[j]? = some o) (hw : Region.wanted o (yielded l.toArray a.tmps) = true) (hop : valueOp o.op = true) (d : Tmp) (hd : o.dst = some d) (hs : d < a.tmps.size)
    (h : ∀ K : Act → Prop, (∀ a', runP P l.toArray C T need Q p a' w → K a') → ∃ v, (∀ w', ∀ K' : Act → World → Prop, K' (a.put o.dst v) w' → o.wp P a w' K' NoQ) ∧ K (a.put o.dst v)) : runP P l.toArray C T need Q (.bl j p) a w :=
  tree_look 2 hk ho hw hop d hd hs fun K hK => let ⟨v, h1, h2⟩ := h K hK; ⟨v, fun w' _ => h1 w', h2⟩
theorem tree_skip (ho : l[j]? = some o) (hw : Region.wanted o (yielded l.toArray a.tmps) = false) (h : runP P l.toArray C T need Q p (a.put o.dst undef) w) : runP P l.toArray C T need Q (.bl j p) a w :=
  ⟨o, by simpa using ho, undef, .inr ⟨hw, rfl⟩, h⟩
theorem tree_n (ho : l[j]? = some o) (hw : Region.wanted o (yielded l.toArray a.tmps) = true) (x : Operand) (hop : o.op = .nilCheck x) (ad : Addr) (hx : a.eval x = .pointer (some ad))
    (h : runP P l.toArray C T need Q p (a.put o.dst (.pointer (some ad))) w) : runP P l.toArray C T need Q (.bl j p) a w := by
  refine ⟨o, by simpa using ho, _, .inl ⟨hw, fun w' _ => ?_⟩, h⟩
  unfold execOp
  simp [hop, hx]
/-- what acts -/
theorem tree_e (ho : l[j]? = some o) (hw : Region.wanted o (yielded l.toArray a.tmps) = true) (h : ∀ K : Act → World → Prop, (∀ a' w', C w' → runP P l.toArray C T need Q p a' w' → K a' w') → o.wp P a w K NoQ) : runP P l.toArray C T need Q (.ef j p) a w := by
  have h1 : l.toArray[j]? = some o := by simpa using ho
  unfold runP
  rw [wpOp_noQ h1, if_pos hw]
  exact h _ fun a' w' hC hm => ⟨(fun _ => hC), hm⟩
/-- what acts, behind all looks -/
theorem tree_e0 (hn : need j = false) (ho : l[j]? = some o) (hw : Region.wanted o (yielded l.toArray a.tmps) = true) (h : ∀ K : Act → World → Prop, (∀ a' w', True → runP P l.toArray C T need Q p a' w' → K a' w') → o.wp P a w K NoQ) : runP P l.toArray C T need Q (.ef j p) a w := by
  have h1 : l.toArray[j]? = some o := by simpa using ho
  unfold runP
  rw [wpOp_noQ h1, if_pos hw]
  exact h _ fun a' w' _ hm => ⟨(fun h => by rw [hn] at h; cases h), hm⟩
theorem tree_eskip (hC : need j = true → C w) (ho : l[j]? = some o) (hw : Region.wanted o (yielded l.toArray a.tmps) = false) (h : runP P l.toArray C T need Q p (a.put o.dst undef) w) : runP P l.toArray C T need Q (.ef j p) a w := by
  have h1 : l.toArray[j]? = some o := by simpa using ho
  unfold runP
  rw [wpOp_noQ h1, if_neg (by simp [hw])]
  exact ⟨hC, h⟩
end
end Go.Bl

/- Regions that draw their order: each operation is shown once, in any world of an invariant that knows which operations are done (m) and what they cost (k). -/
import Derived.Test.YtlfobddinilmcaaDoorInv
set_option linter.unusedVariables false
set_option linter.unusedSimpArgs false
namespace Go.Bl
open Go
variable {P : Program} {ops : Array Oper}
def setm (m : Nat → Bool) (j : Nat) : Nat → Bool := fun i => i == j || m i
theorem setm_ne {m : Nat → Bool} {j i : Nat} (h : (i == j) = false) : setm m j i = m i := by simp [setm, h]
theorem setm_eq {m : Nat → Bool} {j : Nat} : setm m j j = true := by simp [setm]
/-- what is done has all done that it waits for -/
def Cl (l : List Oper) (m : Nat → Bool) : Prop := ∀ i x, i < l.length → x < l.length → m i = true → reachB .any l.toArray (i + 1) i x = true → m x = true

/-- what is shown of each operation -/
def MOps (P : Program) (I : (Nat → Bool) → Nat → World → Prop) (M : (Nat → Bool) → World → World → Prop) (tot : Nat) (a : Act) (l : List Oper) (Φ : Nat → Value → World → Prop) : List Oper → List Nat → Nat → Prop
  | [], _, _ => True
  | o :: r, cs, j => (∀ vs w m k, m j = false → Cl l m → I m k w → k + cs.headD 0 ≤ tot → (∀ i, i < j → reachB .any l.toArray (j + 1) j i = true → Φ i (vs i) w) →
      o.wp P (putAll vs l 0 a) w (fun a' w' => ∃ v, a' = (putAll vs l 0 a).put o.dst v ∧ I (setm m j) (k + cs.headD 0) w' ∧ M m w w' ∧ Φ j v w') NoQ) ∧ MOps P I M tot a l Φ r cs.tail (j + 1)

theorem MOps.at_ {I : (Nat → Bool) → Nat → World → Prop} {M : (Nat → Bool) → World → World → Prop} {tot : Nat} {a : Act} {l : List Oper} {Φ : Nat → Value → World → Prop} : ∀ {l' : List Oper} {cs : List Nat} {k : Nat}, MOps P I M tot a l Φ l' cs k → ∀ {i : Nat} {o : Oper}, l'[i]? = some o →
    ∀ vs w m n, m (k + i) = false → Cl l m → I m n w → n + cs.getD i 0 ≤ tot → (∀ d, d < k + i → reachB .any l.toArray (k + i + 1) (k + i) d = true → Φ d (vs d) w) →
      o.wp P (putAll vs l 0 a) w (fun a' w' => ∃ v, a' = (putAll vs l 0 a).put o.dst v ∧ I (setm m (k + i)) (n + cs.getD i 0) w' ∧ M m w w' ∧ Φ (k + i) v w') NoQ
  | [], _, _, _, _, _, h => by simp at h
  | _ :: _, cs, k, h, 0, o, ho => by
    simp only [List.getElem?_cons_zero, Option.some.injEq] at ho
    subst ho
    cases cs <;> exact h.1
  | _ :: r, cs, k, h, i + 1, o, ho => by
    have := MOps.at_ h.2 (i := i) (o := o) (by simpa using ho)
    rw [Nat.add_assoc, Nat.add_comm 1 i] at this
    cases cs
    · simpa using this
    · simpa using this

theorem minv_any {I : (Nat → Bool) → Nat → World → Prop} {M : (Nat → Bool) → World → World → Prop} {tot : Nat} {a : Act} {l : List Oper} {Φ : Nat → Value → World → Prop} {cs : List Nat} {Q : Exit → Act → World → Prop} (hB : invB l = true)
    (hst : ∀ i (m : Nat → Bool) v w w', m i = true → M m w w' → Φ i v w → Φ i v w') (hO : MOps P I M tot a l Φ l cs 0) (hE : ∀ vs w m, (∀ i, i < l.length → m i = true) → I m tot w → (∀ i, i < l.length → Φ i (vs i) w) → Q .normal (putAll vs l 0 a) w) :
    ∀ (n : Nat) (L : List Nat) (listed : Array Bool) (vs : Nat → Value) (w : World) (k : Nat), L.length = n → L.Pairwise (· < ·) → (∀ i, i ∈ L ↔ i < l.toArray.size ∧ listed.getD i true = false) → listed.size = l.toArray.size → Closed .any l.toArray listed →
      k + (L.map fun i => cs.getD i 0).sum = tot → I (fun i => !L.contains i) k w → (∀ i, i < l.length → i ∉ L → Φ i (vs i) w) → wpAny P .any l.toArray Q n listed (putSome vs (fun i => !L.contains i) l 0 a) w := by
  simp only [invB, Bool.and_eq_true, List.all_eq_true, List.mem_range] at hB
  obtain ⟨hsel0, hB⟩ := hB
  have hsel := Region.noSelect_spec hsel0
  have gd : ∀ (l : Array Bool) (i : Nat), i < l.size → l.getD i true = l.getD i false := fun l i hi => by simp [hi]
  have hB1 : ∀ j o, l[j]? = some o → o.guard = none ∧ (∀ e ∈ o.after, Region.binds .any e = true → e.on < j) ∧ ∀ i oi d, l[i]? = some oi → oi.dst = some d → (i = j ∨ o.dst ≠ some d) ∧ (d ∈ o.looksAt l.toArray → i < j ∧ reachB .any l.toArray (j + 1) j i = true) := fun j o ho => by
    have hj : j < l.length := (List.getElem?_eq_some_iff.1 ho).1
    have h := hB j hj
    simp only [ho, Option.map_some, Option.getD_some, Bool.and_eq_true, List.all_eq_true, List.mem_range, Option.isNone_iff_eq_none] at h
    obtain ⟨⟨h1, h2⟩, h3⟩ := h
    refine ⟨h1, fun e he hb => ?_, fun i oi d hi hd => ?_⟩
    · have := h2 e (Array.mem_toList_iff.2 he)
      simpa [hb] using this
    · have := h3 i (List.getElem?_eq_some_iff.1 hi).1
      simp only [hi, Option.map_some, Option.getD_some, hd, Bool.and_eq_true, Bool.or_eq_true, beq_iff_eq, bne_iff_ne, Bool.not_eq_true', decide_eq_true_eq, List.contains_eq_mem, decide_eq_false_iff_not] at this
      exact ⟨this.1, fun hm => this.2.resolve_left (fun h => h hm)⟩
  intro n
  induction n with
  | zero =>
    intro L listed vs w k hn _ hL _ _ hk hI hΦ
    have hL0 : L = [] := List.eq_nil_of_length_eq_zero hn
    subst hL0
    refine ⟨?_, ?_⟩
    · rcases hr : Region.ready .any l.toArray listed with _ | ⟨j, r⟩
      · rfl
      · have hj : j ∈ Region.ready .any l.toArray listed := by rw [hr]; exact List.mem_cons_self ..
        obtain ⟨hu, o, ho, _⟩ := mem_ready.1 hj
        exact absurd ((hL j).2 ⟨(Array.getElem?_eq_some_iff.1 ho).1, hu⟩) (by simp)
    · rw [putSome_all l 0 a (by simp)]
      simp only [List.map_nil, List.sum_nil, Nat.add_zero] at hk
      subst hk
      exact hE vs w _ (by simp) hI fun i hi => hΦ i hi (by simp)
  | succ n ih =>
    intro L listed vs w k hn hP hL hsz hcl hk hI hΦ
    refine ⟨fun hr => ?_, fun j hj => ?_⟩
    · match L, hn with
      | i :: L', _ =>
        exfalso
        obtain ⟨hi, hui⟩ := (hL i).1 (List.mem_cons_self ..)
        have : i ∈ Region.ready .any l.toArray listed := by
          rw [mem_ready]
          refine ⟨hui, l.toArray[i], Array.getElem?_eq_getElem hi, fun e he hb => ?_⟩
          have h1 := (hB1 i l.toArray[i] (by simp at hi; simp [hi])).2.1 e he hb
          rcases hx : listed.getD e.on false with _ | _
          · have hm : e.on ∈ i :: L' := (hL e.on).2 ⟨by omega, by rw [gd listed _ (by omega)]; exact hx⟩
            rcases List.mem_cons.1 hm with he | he
            · omega
            · have := (List.pairwise_cons.1 hP).1 _ he
              omega
          · rfl
        rw [hr] at this
        cases this
    · obtain ⟨hu, oj, hoj, hall⟩ := mem_ready.1 hj
      have hjs : j < l.toArray.size := (Array.getElem?_eq_some_iff.1 hoj).1
      have hojl : l[j]? = some oj := by simpa using hoj
      have hjL : j ∈ L := (hL j).2 ⟨hjs, hu⟩
      obtain ⟨L1, L2, rfl⟩ := List.append_of_mem hjL
      rw [List.pairwise_append] at hP
      obtain ⟨hP1, hP2, hP12⟩ := hP
      have hlt : ∀ i ∈ L1, i < j := fun i hi => hP12 i hi j (List.mem_cons_self ..)
      have hnd : j ∉ L1 ++ L2 := by
        intro hm
        rcases List.mem_append.1 hm with hm | hm
        · have := hlt j hm; omega
        · have := (List.pairwise_cons.1 hP2).1 j hm; omega
      obtain ⟨hg, _, hdst⟩ := hB1 j oj hojl
      have hlisted : ∀ i, reachB .any l.toArray (j + 1) j i = true → listed.getD i false = true := fun i hi =>
        reach_listed hcl (j + 1) j i hi fun o ho e he hb => by
          rw [hoj] at ho
          injection ho with ho
          subst ho
          exact hall e he hb
      have hnotin : ∀ i, i < l.length → reachB .any l.toArray (j + 1) j i = true → i ∉ L1 ++ j :: L2 := fun i hil hi hm => by
        have h1 := hlisted i hi
        have h2 := ((hL i).1 hm).2
        rw [gd listed i (by simp at hsz; omega), h1] at h2
        cases h2
      have hjl : j < l.length := by simpa using hjs
      refine wpOp_ofNoQ ?_
      rw [wpOp_noQ hoj, if_pos (by simp [Region.wanted, hg])]
      simp only [List.map_append, List.map_cons, List.sum_append, List.sum_cons] at hk
      have hclm : Cl l (fun i => !(L1 ++ j :: L2).contains i) := fun i x hi hx hm hr => by
        have hil : i ∉ L1 ++ j :: L2 := by simpa using hm
        have hli : listed.getD i false = true := by
          rcases hy : listed.getD i false with _ | _
          · exact absurd ((hL i).2 ⟨by simpa using hi, by rw [gd listed i (by simp at hsz; omega)]; exact hy⟩) hil
          · rfl
        have hlx : listed.getD x false = true := reach_listed hcl (i + 1) i x hr fun o ho e he hb => hcl i o ho hli e he hb
        have hxl : x ∉ L1 ++ j :: L2 := fun hm2 => by
          have h2 := ((hL x).1 hm2).2
          rw [gd listed x (by simp at hsz; omega), hlx] at h2
          cases h2
        simpa using hxl
      have h := hO.at_ hojl vs w _ k (by simp) hclm hI (by omega) fun d hd hr => hΦ d (by omega) (hnotin d (by omega) (by simpa using hr))
      rw [← putSome_all (m := fun _ => true) l 0 a (by simp)] at h
      refine wp_frame (ops := l.toArray) (G := fun v w' => I (setm (fun i => !(L1 ++ j :: L2).contains i) (0 + j)) (k + cs.getD j 0) w' ∧ M (fun i => !(L1 ++ j :: L2).contains i) w w' ∧ Φ (0 + j) v w') (fun cs b => hsel j oj cs b hoj) ?_ ?_ (fun t ht => ?_) h fun v w' hG => ?_
      · rw [putSome_size, putSome_size]
      · rw [putSome_defs, putSome_defs]
      · refine putSome_tmp l 0 a a rfl rfl fun i oi hi hm hd => hm ?_
        have h1 := ((hdst i oi t hi hd).2 ht)
        have h2 := hnotin i (List.getElem?_eq_some_iff.1 hi).1 h1.2
        simp only [Nat.zero_add, List.contains_eq_mem, h2, decide_false, Bool.not_false]
      · obtain ⟨hI', hM, hv⟩ := hG
        rw [Nat.zero_add] at hv
        rw [putSome_upd l 0 j a oj hojl (by simp) fun i o hi hij t ht => ((hdst i o t hi ht).1.resolve_left hij)]
        have he : putSome (updv vs (0 + j) v) (fun i => i == 0 + j || !(L1 ++ j :: L2).contains i) l 0 a = putSome (updv vs j v) (fun i => !(L1 ++ L2).contains i) l 0 a := by
          rw [Nat.zero_add]
          refine putSome_congr l 0 a fun i _ _ => ⟨?_, rfl⟩
          by_cases hij : i = j
          · subst hij
            simp only [beq_self_eq_true, Bool.true_or, List.contains_eq_mem, hnd, decide_false, Bool.not_false]
          · simp [hij]
        rw [he]
        have hmm : setm (fun i => !(L1 ++ j :: L2).contains i) (0 + j) = fun i => !(L1 ++ L2).contains i := by
          funext i
          rw [Nat.zero_add]
          by_cases hij : i = j
          · subst hij
            simp only [setm, beq_self_eq_true, Bool.true_or, List.contains_eq_mem, hnd, decide_false, Bool.not_false]
          · simp [setm, hij]
        rw [hmm] at hI'
        refine ih (L1 ++ L2) _ _ w' (k + cs.getD j 0) (by simp at hn ⊢; omega) ?_ (fun i => ?_) (by simpa using hsz) (fun q o ho hq e he hb => ?_) ?_ hI' fun i hi hiL => ?_
        · rw [List.pairwise_append]
          exact ⟨hP1, (List.pairwise_cons.1 hP2).2, fun x hx y hy => hP12 x hx y (List.mem_cons_of_mem _ hy)⟩
        · by_cases hij : i = j
          · subst hij
            simp only [hnd, false_iff, not_and]
            intro _
            simp [show i < listed.size by omega]
          · rw [getD_set_ne true (Ne.symm hij), ← hL i]
            simp [hij]
        · by_cases hkj : q = j
          · subst hkj
            rw [hoj] at ho
            injection ho with ho
            subst ho
            exact getD_set_true (hall e he hb)
          · rw [getD_set_ne false (Ne.symm hkj)] at hq
            exact getD_set_true (hcl q o ho hq e he hb)
        · simp only [List.map_append, List.sum_append]
          omega
        · by_cases hij : i = j
          · subst hij
            simpa [updv] using hv
          · have hiN : i ∉ L1 ++ j :: L2 := fun hm => hiL (by simp at hm ⊢; rcases hm with hm | hm | hm; exact .inl hm; exact absurd hm hij; exact .inr hm)
            have := hst i _ _ w w' (by simpa using hiN) hM (hΦ i hi hiN)
            simpa [updv, hij] using this

/-- a region that draws, its operations written out: each is shown once -/
theorem wp_region_minv {id : Nat} {Q : Exit → Act → World → Prop} {a : Act} {w : World} {l : List Oper} (I : (Nat → Bool) → Nat → World → Prop) (M : (Nat → Bool) → World → World → Prop) (Φ : List (Value → World → Prop)) (cs : List Nat) (hm : P.follows .mixedOrders = true) (hB : invB l = true) (hI : ∀ m : Nat → Bool, (∀ i, i < l.length → m i = false) → I m 0 w.drew)
    (hst : ∀ (i : Nat) (m : Nat → Bool) v w w', m i = true → M m w w' → Φ.getD i (fun _ _ => False) v w → Φ.getD i (fun _ _ => False) v w') (hO : MOps P I M cs.sum a l (fun i => Φ.getD i fun _ _ => False) l cs 0) (hcs : cs.length = l.length)
    (hE : ∀ vs w m, (∀ i, i < l.length → m i = true) → I m cs.sum w → (∀ i, i < l.length → Φ.getD i (fun _ _ => False) (vs i) w) → Q .normal (putAll vs l 0 a) w) : (Code.region id l.toArray true).wp P Q a w := by
  refine wp_region_any hm ?_
  have h := minv_any (Q := Q) hB hst hO (fun vs w m hm h1 h2 => hE vs w m hm h1 h2) l.length (List.range' 0 l.length) (Array.replicate l.toArray.size false) (fun _ => undef) w.drew 0 (by simp) (List.pairwise_lt_range') (fun i => by
    simp [List.mem_range'_1]
    intro hi
    simp [hi]) (by simp) (fun j o ho hl => by
    exfalso
    by_cases hj : j < l.length <;> simp [hj] at hl) (by
      rw [Nat.zero_add, ← hcs]
      have : ∀ (c : List Nat) (p : List Nat), ((List.range' p.length c.length).map fun i => (p ++ c).getD i 0) = c := fun c => by
        induction c with
        | nil => intro p; rfl
        | cons x c ih =>
          intro p
          rw [List.length_cons, List.range'_succ, List.map_cons]
          have := ih (p ++ [x])
          simp only [List.length_append, List.length_cons, List.length_nil, List.append_assoc, List.cons_append, List.nil_append] at this
          rw [this]
          simp
      have := this cs []
      simp only [List.length_nil, List.nil_append] at this
      rw [this]) (hI _ fun i hi => by simp [List.mem_range'_1, hi]) (fun i hi hn => absurd (List.mem_range'_1.2 ⟨Nat.zero_le _, by simpa using hi⟩) hn)
  rw [putSome_none l 0 a (fun i _ hi => by simp [List.mem_range'_1]; omega)] at h
  simpa using h

/-- the same, the frames written out (F), what follows an operation unknown -/
def MOpsF (P : Program) (I : (Nat → Bool) → Nat → World → Prop) (M : (Nat → Bool) → World → World → Prop) (tot : Nat) (F : (Nat → Value) → Act) (l : List Oper) (Φ : Nat → Value → World → Prop) : List Oper → List Nat → Nat → Prop
  | [], _, _ => True
  | o :: r, cs, j => (∀ vs w m k, m j = false → Cl l m → I m k w → k + cs.headD 0 ≤ tot → (∀ i, i < j → reachB .any l.toArray (j + 1) j i = true → Φ i (vs i) w) → ∀ K : Act → World → Prop, (∀ v w', I (setm m j) (k + cs.headD 0) w' → M m w w' → Φ j v w' → K ((F vs).put o.dst v) w') → o.wp P (F vs) w K NoQ) ∧ MOpsF P I M tot F l Φ r cs.tail (j + 1)

theorem MOps.ofF {I : (Nat → Bool) → Nat → World → Prop} {M : (Nat → Bool) → World → World → Prop} {tot : Nat} {a : Act} {F : (Nat → Value) → Act} {l : List Oper} {Φ : Nat → Value → World → Prop} (hF : ∀ vs, putAll vs l 0 a = F vs) : ∀ {r : List Oper} {cs : List Nat} {j : Nat}, MOpsF P I M tot F l Φ r cs j → MOps P I M tot a l Φ r cs j
  | [], _, _, _ => trivial
  | _ :: _, _, _, h => ⟨fun vs w m k hj hc hI hk hf => by
      rw [hF vs]
      exact h.1 vs w m k hj hc hI hk hf _ fun v w' h1 h2 h3 => ⟨v, rfl, h1, h2, h3⟩, MOps.ofF hF h.2⟩

theorem MOpsF.op {I : (Nat → Bool) → Nat → World → Prop} {M : (Nat → Bool) → World → World → Prop} {tot : Nat} {F : (Nat → Value) → Act} {l : List Oper} {Φ : Nat → Value → World → Prop} {o : Oper} {r : List Oper} {c : Nat} {cs : List Nat} {j : Nat}
    (h : ∀ vs w m k, m j = false → Cl l m → I m k w → k + c ≤ tot → (∀ i, i < j → reachB .any l.toArray (j + 1) j i = true → Φ i (vs i) w) → ∀ K : Act → World → Prop, (∀ v w', I (setm m j) (k + c) w' → M m w w' → Φ j v w' → K ((F vs).put o.dst v) w') → o.wp P (F vs) w K NoQ)
    (hr : MOpsF P I M tot F l Φ r cs (j + 1)) : MOpsF P I M tot F l Φ (o :: r) (c :: cs) j := ⟨h, hr⟩
theorem MOpsF.done {I : (Nat → Bool) → Nat → World → Prop} {M : (Nat → Bool) → World → World → Prop} {tot : Nat} {F : (Nat → Value) → Act} {l : List Oper} {Φ : Nat → Value → World → Prop} {cs : List Nat} {j : Nat} : MOpsF P I M tot F l Φ [] cs j := trivial

/-- a region that draws, its operations written out, the frame written out -/
theorem wp_region_minvF {id : Nat} {Q : Exit → Act → World → Prop} {a : Act} {w : World} {l : List Oper} (I : (Nat → Bool) → Nat → World → Prop) (M : (Nat → Bool) → World → World → Prop) (Φ : List (Value → World → Prop)) (cs : List Nat) (hm : P.follows .mixedOrders = true) (hB : invB l = true) {F : (Nat → Value) → Act} (hF : ∀ vs, putAll vs l 0 a = F vs) (hI : ∀ m : Nat → Bool, (∀ i, i < l.length → m i = false) → I m 0 w.drew)
    (hst : ∀ (i : Nat) (m : Nat → Bool) v w w', m i = true → M m w w' → Φ.getD i (fun _ _ => False) v w → Φ.getD i (fun _ _ => False) v w') (hcs : cs.length = l.length) (hO : MOpsF P I M cs.sum F l (fun i => Φ.getD i fun _ _ => False) l cs 0)
    (hE : ∀ vs w m, (∀ i, i < l.length → m i = true) → I m cs.sum w → (∀ i, i < l.length → Φ.getD i (fun _ _ => False) (vs i) w) → Q .normal (F vs) w) : (Code.region id l.toArray true).wp P Q a w :=
  wp_region_minv I M Φ cs hm hB hI hst (MOps.ofF hF hO) hcs fun vs w m hm h1 h2 => by rw [hF vs]; exact hE vs w m hm h1 h2
end Go.Bl

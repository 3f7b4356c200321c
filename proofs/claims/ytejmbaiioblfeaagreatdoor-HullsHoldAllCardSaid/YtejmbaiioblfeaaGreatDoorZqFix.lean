/- Contracts of functions that this seat's laws reach, each: what one call returns and what it leaves in memory; no condition beyond each theorem's own hypotheses. -/
import Derived.Test.YtejmbaiioblfeaaGreatDoorZqTree
import Derived.StillTail
set_option linter.unusedVariables false
set_option linter.unusedSimpArgs false
namespace Go.Bl
open Go
variable {P : Program} {ops : Array Oper} {C : World → Prop}

/-- each operation has one value in all worlds of C, and stays in C -/
def FixL (P : Program) (C : World → Prop) : List Oper → Act → (Act → Prop) → Prop
  | [], a, K => K a
  | o :: r, a, K => ∃ v, (∀ wx, C wx → ∀ K' : Act → World → Prop, (∀ w', C w' → K' (a.put o.dst v) w') → o.wp P a wx K' NoQ) ∧ FixL P C r (a.put o.dst v) K

theorem FixL.op {o : Oper} {r : List Oper} {a : Act} {K : Act → Prop} (v : Value) (h : ∀ wx, C wx → ∀ K' : Act → World → Prop, (∀ w', C w' → K' (a.put o.dst v) w') → o.wp P a wx K' NoQ) (hr : FixL P C r (a.put o.dst v) K) : FixL P C (o :: r) a K := ⟨v, h, hr⟩

theorem fix_b {o : Oper} {r : List Oper} {a : Act} {K0 : Act → Prop} (h : ∀ K : Act → Prop, (∀ a', FixL P C r a' K0 → K a') → ∃ v, (∀ wx, C wx → ∀ K' : Act → World → Prop, (∀ w', C w' → K' (a.put o.dst v) w') → o.wp P a wx K' NoQ) ∧ K (a.put o.dst v)) : FixL P C (o :: r) a K0 :=
  h _ fun _ h => h

theorem fix_nil {a : Act} {K0 : Act → Prop} (h : K0 a) : FixL P C [] a K0 := h

theorem putAll_congr {vs vs' : Nat → Value} : ∀ (l : List Oper) (k : Nat) (a : Act), (∀ i, k ≤ i → i < k + l.length → vs i = vs' i) → putAll vs l k a = putAll vs' l k a
  | [], _, _, _ => rfl
  | o :: r, k, a, h => by
    simp only [putAll, h k (Nat.le_refl _) (by simp)]
    exact putAll_congr r (k + 1) _ fun i h1 h2 => h i (by omega) (by simp; omega)

theorem fix_vals {K : Act → Prop} : ∀ (l : List Oper) (k : Nat) (a : Act), FixL P C l a K → ∃ vs : Nat → Value,
    (∀ (j : Nat) (o : Oper), l[j]? = some o → ∀ wx, C wx → o.wp P (putAll vs (l.take j) k a) wx (fun a' w' => a' = (putAll vs (l.take j) k a).put o.dst (vs (k + j)) ∧ C w') NoQ) ∧ K (putAll vs l k a)
  | [], _, _, h => ⟨fun _ => undef, fun j o ho => by simp at ho, h⟩
  | o :: r, k, a, ⟨v, h, hr⟩ => by
    obtain ⟨vs, h1, h2⟩ := fix_vals r (k + 1) _ hr
    have hk : updv vs k v k = v := by simp [updv]
    have hc : ∀ (l : List Oper) (b : Act), putAll (updv vs k v) l (k + 1) b = putAll vs l (k + 1) b := fun l b => putAll_congr l (k + 1) b fun i hi _ => by simp [updv, show i ≠ k by omega]
    refine ⟨updv vs k v, fun j o' ho wx hC => ?_, ?_⟩
    · cases j with
      | zero =>
        simp only [List.getElem?_cons_zero, Option.some.injEq] at ho
        subst ho
        simp only [List.take_zero, putAll, Nat.add_zero, hk]
        exact h wx hC _ fun w' hw => ⟨rfl, hw⟩
      | succ j =>
        have := h1 j o' (by simpa using ho) wx hC
        simp only [List.take_succ_cons, putAll, hk, hc]
        rw [show updv vs k v (k + (j + 1)) = vs (k + 1 + j) by rw [show k + (j + 1) = k + 1 + j by omega]; simp [updv]; omega]
        exact this
    · simp only [putAll, hk, hc]
      exact h2

theorem putSome_take {vs : Nat → Value} : ∀ (l : List Oper) (k j : Nat) (a : Act), putAll vs (l.take j) k a = putSome vs (fun i => decide (i < k + j)) l k a
  | [], _, _, _ => by simp [putAll, putSome]
  | o :: r, k, 0, a => by
    rw [putSome_none _ _ _ (fun i h1 _ => by simp; omega)]; rfl
  | o :: r, k, j + 1, a => by
    simp only [List.take_succ_cons, putAll, putSome]
    rw [if_pos (by simp), putSome_take r (k + 1) j]
    exact putSome_congr r (k + 1) _ fun i _ _ => ⟨by simp only [show k + 1 + j = k + (j + 1) by omega], rfl⟩

/-- what is asked: n operations at the head -/
def fixB (l : List Oper) (n : Nat) : Bool :=
  Region.noSelect l.toArray && decide (n ≤ l.length) && ((List.range l.length).all fun j => (l[j]?.map fun o => (o.after.toList.all fun e => !Region.binds .any e || decide (e.on < j)) && (!decide (j < n) ||
    (o.guard.isNone && (List.range n).all fun i => (l[i]?.map fun oi => match oi.dst with
      | none => true
      | some d => (i == j || o.dst != some d) && (!(o.looksAt l.toArray).contains d || (decide (i < j) && reachB .any l.toArray (j + 1) j i))).getD true)) && (decide (j < n) || (List.range n).all fun i => reachB .any l.toArray (j + 1) j i)).getD true) &&
  Region.seqB .any l.toArray (l.length - n) n ((List.replicate n true ++ List.replicate (l.length - n) false).toArray)

theorem fix_any {a : Act} {l : List Oper} {n : Nat} {Q : Exit → Act → World → Prop} {vs : Nat → Value} (hB : fixB l n = true)
    (hO : ∀ (j : Nat) (o : Oper), (l.take n)[j]? = some o → ∀ wx, C wx → o.wp P (putAll vs ((l.take n).take j) 0 a) wx (fun a' w' => a' = (putAll vs ((l.take n).take j) 0 a).put o.dst (vs j) ∧ C w') NoQ)
    (hE : ∀ w', C w' → wpList P l.toArray Q (l.drop n) (putAll vs (l.take n) 0 a) w') :
    ∀ (q : Nat) (L : List Nat) (listed : Array Bool) (w : World), L.length = q → L.Pairwise (· < ·) → (∀ i, i ∈ L ↔ i < n ∧ listed.getD i true = false) → (∀ i, n ≤ i → i < l.length → listed.getD i true = false) → listed.size = l.toArray.size → Closed .any l.toArray listed →
      C w → wpAny P .any l.toArray Q (q + (l.length - n)) listed (putSome vs (fun i => !L.contains i) (l.take n) 0 a) w := by
  simp only [fixB, Bool.and_eq_true, List.all_eq_true, List.mem_range, decide_eq_true_eq] at hB
  obtain ⟨⟨⟨hsel0, hnl⟩, hB⟩, hseq⟩ := hB
  have hsel := Region.noSelect_spec hsel0
  have gd : ∀ (l : Array Bool) (i : Nat), i < l.size → l.getD i true = l.getD i false := fun l i hi => by simp [hi]
  have htl : (l.take n).length = n := by simp; omega
  have hB1 : ∀ j o, l[j]? = some o → (∀ e ∈ o.after, Region.binds .any e = true → e.on < j) ∧ (j < n → o.guard = none ∧ ∀ i oi d, i < n → l[i]? = some oi → oi.dst = some d → (i = j ∨ o.dst ≠ some d) ∧ (d ∈ o.looksAt l.toArray → i < j ∧ reachB .any l.toArray (j + 1) j i = true)) ∧ (n ≤ j → ∀ i, i < n → reachB .any l.toArray (j + 1) j i = true) := fun j o ho => by
    have hj : j < l.length := (List.getElem?_eq_some_iff.1 ho).1
    have h := hB j hj
    simp only [ho, Option.map_some, Option.getD_some, Bool.and_eq_true, List.all_eq_true, List.mem_range, Option.isNone_iff_eq_none, Bool.or_eq_true, Bool.not_eq_true', decide_eq_false_iff_not, decide_eq_true_eq] at h
    obtain ⟨⟨h1, h2⟩, h3⟩ := h
    refine ⟨fun e he hb => ?_, fun hjn => ?_, fun hjn => h3.resolve_left (by omega)⟩
    · have := h1 e (Array.mem_toList_iff.2 he)
      simpa [hb] using this
    · obtain ⟨hg, h2⟩ := h2.resolve_left (by omega)
      refine ⟨hg, fun i oi d hi hio hd => ?_⟩
      have := h2 i hi
      simp only [hio, Option.map_some, Option.getD_some, hd, Bool.and_eq_true, Bool.or_eq_true, beq_iff_eq, bne_iff_ne, Bool.not_eq_true', decide_eq_true_eq, List.contains_eq_mem, decide_eq_false_iff_not] at this
      exact ⟨this.1, fun hm => this.2.resolve_left (fun h => h hm)⟩
  intro q
  induction q with
  | zero =>
    intro L listed w hq _ hL hT hsz hcl hC
    have hL0 : L = [] := List.eq_nil_of_length_eq_zero hq
    subst hL0
    rw [Nat.zero_add, putSome_all _ 0 a (by simp)]
    have hlist : listed = (List.replicate n true ++ List.replicate (l.length - n) false).toArray := by
      apply Array.ext_getElem?
      intro i
      by_cases hi : i < l.length
      · have his : i < listed.size := by rw [hsz]; simpa using hi
        rw [Array.getElem?_eq_getElem his, List.getElem?_toArray]
        by_cases hin : i < n
        · have h1 : listed.getD i true ≠ false := fun h => absurd ((hL i).2 ⟨hin, h⟩) (by simp)
          simp [his] at h1
          rw [h1, List.getElem?_append_left (by simpa using hin), List.getElem?_replicate, if_pos hin]
        · have h1 := hT i (by omega) hi
          simp [his] at h1
          rw [h1, List.getElem?_append_right (by simp; omega), List.getElem?_replicate, if_pos (by simp; omega)]
      · rw [Array.getElem?_eq_none (by rw [hsz]; simpa using hi), List.getElem?_toArray, List.getElem?_eq_none (by simp; omega)]
    subst hlist
    have := wpAny_of_seq (P := P) (md := .any) (ops := l.toArray) (Q' := Q) (l.drop n) n _ _ w (fun j => by simp [List.getElem?_drop]) (by rw [List.length_drop]; exact hseq) (hE w hC)
    rwa [List.length_drop] at this
  | succ q ih =>
    intro L listed w hq hP hL hT hsz hcl hC
    rw [show q + 1 + (l.length - n) = (q + (l.length - n)) + 1 by omega]
    have hreadyn : ∀ j ∈ Region.ready .any l.toArray listed, j < n := fun j hj => by
      obtain ⟨hu, oj, hoj, hall⟩ := mem_ready.1 hj
      rcases Nat.lt_or_ge j n with h | h
      · exact h
      · match L, hq with
        | i :: L', _ =>
          obtain ⟨hin, hui⟩ := (hL i).1 (List.mem_cons_self ..)
          have hr := (hB1 j oj (by simpa using hoj)).2.2 h i hin
          have := reach_listed hcl (j + 1) j i hr fun o ho e he hb => by
            rw [hoj] at ho
            injection ho with ho
            subst ho
            exact hall e he hb
          rw [gd listed i (by rw [hsz]; simp; omega), this] at hui
          cases hui
    refine ⟨fun hr => ?_, fun j hj => ?_⟩
    · match L, hq with
      | i :: L', _ =>
        exfalso
        obtain ⟨hin, hui⟩ := (hL i).1 (List.mem_cons_self ..)
        have hi : i < l.toArray.size := by simp; omega
        have : i ∈ Region.ready .any l.toArray listed := by
          rw [mem_ready]
          refine ⟨hui, l.toArray[i], Array.getElem?_eq_getElem hi, fun e he hb => ?_⟩
          have h1 := (hB1 i l.toArray[i] (by simp at hi; simp [hi])).1 e he hb
          rcases hx : listed.getD e.on false with _ | _
          · have hm : e.on ∈ i :: L' := (hL e.on).2 ⟨by omega, by rw [gd listed _ (by rw [hsz]; omega)]; exact hx⟩
            rcases List.mem_cons.1 hm with he | he
            · omega
            · have := (List.pairwise_cons.1 hP).1 _ he
              omega
          · rfl
        rw [hr] at this
        cases this
    · have hjn := hreadyn j hj
      obtain ⟨hu, oj, hoj, hall⟩ := mem_ready.1 hj
      have hjs : j < l.toArray.size := (Array.getElem?_eq_some_iff.1 hoj).1
      have hojl : l[j]? = some oj := by simpa using hoj
      have hojt : (l.take n)[j]? = some oj := by rw [List.getElem?_take, if_pos hjn]; exact hojl
      have hjL : j ∈ L := (hL j).2 ⟨hjn, hu⟩
      obtain ⟨L1, L2, rfl⟩ := List.append_of_mem hjL
      rw [List.pairwise_append] at hP
      obtain ⟨hP1, hP2, hP12⟩ := hP
      have hnd : j ∉ L1 ++ L2 := by
        intro hm
        rcases List.mem_append.1 hm with hm | hm
        · have := hP12 j hm j (List.mem_cons_self ..); omega
        · have := (List.pairwise_cons.1 hP2).1 j hm; omega
      obtain ⟨_, hhead, _⟩ := hB1 j oj hojl
      obtain ⟨hg, hdst⟩ := hhead hjn
      have hnotin : ∀ i, i < n → reachB .any l.toArray (j + 1) j i = true → i ∉ L1 ++ j :: L2 := fun i hil hi hm => by
        have h1 := reach_listed hcl (j + 1) j i hi fun o ho e he hb => by
          rw [hoj] at ho
          injection ho with ho
          subst ho
          exact hall e he hb
        have h2 := ((hL i).1 hm).2
        rw [gd listed i (by rw [hsz]; simp; omega), h1] at h2
        cases h2
      refine wpOp_ofNoQ ?_
      rw [wpOp_noQ hoj, if_pos (by simp [Region.wanted, hg])]
      have h := hO j oj hojt w hC
      rw [putSome_take, Nat.zero_add] at h
      refine wp_frame (ops := l.toArray) (G := fun v w' => v = vs j ∧ C w') (fun cs b => hsel j oj cs b hoj) ?_ ?_ (fun t ht => ?_) (Oper.wp_mono (fun a' w' hh => ⟨_, hh.1, rfl, hh.2⟩) h) fun v w' hG => ?_
      · rw [putSome_size, putSome_size]
      · rw [putSome_defs, putSome_defs]
      · refine putSome_tmp (l.take n) 0 a a rfl rfl fun i oi hi hm hd => hm ?_
        have hin : i < n := by have := (List.getElem?_eq_some_iff.1 hi).1; rw [htl] at this; exact this
        have hil : l[i]? = some oi := by rw [List.getElem?_take, if_pos hin] at hi; exact hi
        have h1 := ((hdst i oi t hin hil hd).2 ht)
        have h2 := hnotin i hin h1.2
        simp only [Nat.zero_add, List.contains_eq_mem, h2, decide_false, Bool.not_false, h1.1, decide_true]
      · obtain ⟨rfl, hC'⟩ := hG
        rw [putSome_upd (l.take n) 0 j a oj hojt (by simp) fun i o hi hij t ht => by
          have hin : i < n := by have := (List.getElem?_eq_some_iff.1 hi).1; rw [htl] at this; exact this
          have hil : l[i]? = some o := by rw [List.getElem?_take, if_pos hin] at hi; exact hi
          exact ((hdst i o t hin hil ht).1.resolve_left hij)]
        have he : putSome (updv vs (0 + j) (vs j)) (fun i => i == 0 + j || !(L1 ++ j :: L2).contains i) (l.take n) 0 a = putSome vs (fun i => !(L1 ++ L2).contains i) (l.take n) 0 a := by
          rw [Nat.zero_add]
          refine putSome_congr (l.take n) 0 a fun i _ _ => ⟨?_, ?_⟩
          · by_cases hij : i = j
            · subst hij
              simp only [beq_self_eq_true, Bool.true_or, List.contains_eq_mem, hnd, decide_false, Bool.not_false]
            · simp [hij]
          · unfold updv; split
            · rename_i h; rw [h]
            · rfl
        rw [he]
        refine ih (L1 ++ L2) _ w' (by simp at hq ⊢; omega) ?_ (fun i => ?_) (fun i h1 h2 => ?_) (by simpa using hsz) (fun x o ho hx e he hb => ?_) hC'
        · rw [List.pairwise_append]
          exact ⟨hP1, (List.pairwise_cons.1 hP2).2, fun x hx y hy => hP12 x hx y (List.mem_cons_of_mem _ hy)⟩
        · by_cases hij : i = j
          · subst hij
            simp only [hnd, false_iff, not_and]
            intro _
            simp [show i < listed.size by rw [hsz]; exact hjs]
          · rw [getD_set_ne true (Ne.symm hij), ← hL i]
            simp [hij]
        · rw [getD_set_ne true (by omega)]; exact hT i h1 h2
        · by_cases hkj : j = x
          · subst hkj
            rw [hoj] at ho
            injection ho with ho
            subst ho
            exact getD_set_true (hall e he hb)
          · rw [getD_set_ne false hkj] at hx
            exact getD_set_true (hcl x o ho hx e he hb)

/-- a region that draws: n operations of one value each, then the rest in order -/
theorem wp_region_fix {id : Nat} {Q : Exit → Act → World → Prop} {a : Act} {w : World} {l : List Oper} (n : Nat) (C : World → Prop) (hm : P.follows .mixedOrders = true) (hB : fixB l n = true) (hC : C w.drew)
    (h : FixL P C (l.take n) a fun a' => ∀ w', C w' → wpList P l.toArray Q (l.drop n) a' w') : (Code.region id l.toArray true).wp P Q a w := by
  refine wp_region_any hm ?_
  obtain ⟨vs, h1, h2⟩ := fix_vals _ 0 a h
  have hnl : n ≤ l.length := by
    simp only [fixB, Bool.and_eq_true, decide_eq_true_eq] at hB
    exact hB.1.1.2
  have H := fix_any (Q := Q) hB (fun j o ho wx hC => by have := h1 j o ho wx hC; rwa [Nat.zero_add] at this) h2 n (List.range' 0 n) (Array.replicate l.toArray.size false) w.drew (by simp) (List.pairwise_lt_range') (fun i => by
    simp [List.mem_range'_1]
    intro hi
    simp [show i < l.length by omega]) (fun i _ hi => by simp [hi]) (by simp) (fun j o ho hl => by
    exfalso
    by_cases hj : j < l.length <;> simp [hj] at hl) hC
  rw [putSome_none _ 0 a (fun i _ hi => by simp [List.mem_range'_1] at hi ⊢; omega), show n + (l.length - n) = l.toArray.size by simp; omega] at H
  exact H

end Go.Bl

/- Contracts of functions that this seat's laws reach, each: what one call returns and what it leaves in memory; no condition beyond each theorem's own hypotheses. -/
import Derived.Test.YtjodjdjfagjiaaaQ1
import Derived.StillTail
import Derived.Maps.Own
import Derived.Maps.OwnOps
import Derived.Maps.Views
import Derived.Maps.OwnSet
import Derived.Maps.RangeWalk
import Derived.DeepKeys4
import Derived.Test.YtjodjdjfagjiaaaShelf
import Derived.Deep.DeepAppendRoom
set_option linter.unusedVariables false
set_option linter.unusedSimpArgs false
namespace Go.Bl
open Go
variable {P : Program} {ops : Array Oper} {C : World → Prop}

/-- each operation has one value in all worlds of C, and stays in C -/
def FixL (P : Program) (C : World → Prop) : List Oper → Act → (Act → Prop) → Prop
  | [], a, K => K a
  | o :: r, a, K => ∃ v, (∀ wx, C wx → ∀ K' : Act → World → Prop, (∀ w', C w' → K' (a.put o.dst v) w') → o.wp P a wx K' NoQ) ∧ FixL P C r (a.put o.dst v) K

theorem FixL.op {o : Oper} {r : List Oper} {a : Act} {K : Act → Prop} (v : Value) (h : ∀ wx, C wx → ∀ K' : Act → World → Prop, (∀ w', C w' → K' (a.put o.dst v) w') → o.wp P a wx K' NoQ) (hr : FixL P C r (a.put o.dst v) K) : FixL P C (o :: r) a K := ⟨v, h, hr⟩

theorem fix_b {o : Oper} {r : List Oper} {a : Act} {K0 : Act → Prop} (h : ∀ K : Act → Prop, (∀ a', FixL P C r a' K0 → K a') → ∃ v, (∀ wx, C wx → ∀ K' : Act → World → Prop, (∀ w', C w' → K' (a.put o.dst v) w') → o.wp P a wx K' NoQ) ∧ K (a.put o.dst v)) : FixL P C (o :: r) a K0 :=
  h _ fun _ h => h
theorem fix_nil {a : Act} {K0 : Act → Prop} (h : K0 a) : FixL P C [] a K0 := h

theorem putAll_congr {vs vs' : Nat → Value} : ∀ (l : List Oper) (k : Nat) (a : Act), (∀ i, k ≤ i → i < k + l.length → vs i = vs' i) → putAll vs l k a = putAll vs' l k a
  | [], _, _, _ => rfl
  | o :: r, k, a, h => by
    simp only [putAll, h k (Nat.le_refl _) (by simp)]
    exact putAll_congr r (k + 1) _ fun i h1 h2 => h i (by omega) (by simp; omega)

theorem fix_vals {K : Act → Prop} : ∀ (l : List Oper) (k : Nat) (a : Act), FixL P C l a K → ∃ vs : Nat → Value,
    (∀ (j : Nat) (o : Oper), l[j]? = some o → ∀ wx, C wx → o.wp P (putAll vs (l.take j) k a) wx (fun a' w' => a' = (putAll vs (l.take j) k a).put o.dst (vs (k + j)) ∧ C w') NoQ) ∧ K (putAll vs l k a)
  | [], _, _, h => ⟨fun _ => undef, fun j o ho => by simp at ho, h⟩
  | o :: r, k, a, ⟨v, h, hr⟩ => by
    obtain ⟨vs, h1, h2⟩ := fix_vals r (k + 1) _ hr
    have hk : updv vs k v k = v := by simp [updv]
    have hc : ∀ (l : List Oper) (b : Act), putAll (updv vs k v) l (k + 1) b = putAll vs l (k + 1) b := fun l b => putAll_congr l (k + 1) b fun i hi _ => by simp [updv, show i ≠ k by omega]
    refine ⟨updv vs k v, fun j o' ho wx hC => ?_, ?_⟩
    · cases j with
      | zero =>
        simp only [List.getElem?_cons_zero, Option.some.injEq] at ho
        subst ho
        simp only [List.take_zero, putAll, Nat.add_zero, hk]
        exact h wx hC _ fun w' hw => ⟨rfl, hw⟩
      | succ j =>
        have := h1 j o' (by simpa using ho) wx hC
        simp only [List.take_succ_cons, putAll, hk, hc]
        rw [show updv vs k v (k + (j + 1)) = vs (k + 1 + j) by rw [show k + (j + 1) = k + 1 + j by omega]; simp [updv]; omega]
        exact this
    · simp only [putAll, hk, hc]
      exact h2

theorem putSome_take {vs : Nat → Value} : ∀ (l : List Oper) (k j : Nat) (a : Act), putAll vs (l.take j) k a = putSome vs (fun i => decide (i < k + j)) l k a
  | [], _, _, _ => by simp [putAll, putSome]
  | o :: r, k, 0, a => by
    rw [putSome_none _ _ _ (fun i h1 _ => by simp; omega)]; rfl
  | o :: r, k, j + 1, a => by
    simp only [List.take_succ_cons, putAll, putSome]
    rw [if_pos (by simp), putSome_take r (k + 1) j]
    exact putSome_congr r (k + 1) _ fun i _ _ => ⟨by simp only [show k + 1 + j = k + (j + 1) by omega], rfl⟩

/-- what is asked: n operations at the head -/
def fixB (l : List Oper) (n : Nat) : Bool :=
  Region.noSelect l.toArray && decide (n ≤ l.length) && ((List.range l.length).all fun j => (l[j]?.map fun o => (o.after.toList.all fun e => !Region.binds .any e || decide (e.on < j)) && (!decide (j < n) ||
    (o.guard.isNone && (List.range n).all fun i => (l[i]?.map fun oi => match oi.dst with
      | none => true
      | some d => (i == j || o.dst != some d) && (!(o.looksAt l.toArray).contains d || (decide (i < j) && reachB .any l.toArray (j + 1) j i))).getD true)) && (decide (j < n) || (List.range n).all fun i => reachB .any l.toArray (j + 1) j i)).getD true) &&
  Region.seqB .any l.toArray (l.length - n) n ((List.replicate n true ++ List.replicate (l.length - n) false).toArray)

theorem fix_any {a : Act} {l : List Oper} {n : Nat} {Q : Exit → Act → World → Prop} {vs : Nat → Value} (hB : fixB l n = true)
    (hO : ∀ (j : Nat) (o : Oper), (l.take n)[j]? = some o → ∀ wx, C wx → o.wp P (putAll vs ((l.take n).take j) 0 a) wx (fun a' w' => a' = (putAll vs ((l.take n).take j) 0 a).put o.dst (vs j) ∧ C w') NoQ)
    (hE : ∀ w', C w' → wpList P l.toArray Q (l.drop n) (putAll vs (l.take n) 0 a) w') :
    ∀ (q : Nat) (L : List Nat) (listed : Array Bool) (w : World), L.length = q → L.Pairwise (· < ·) → (∀ i, i ∈ L ↔ i < n ∧ listed.getD i true = false) → (∀ i, n ≤ i → i < l.length → listed.getD i true = false) → listed.size = l.toArray.size → Closed .any l.toArray listed →
      C w → wpAny P .any l.toArray Q (q + (l.length - n)) listed (putSome vs (fun i => !L.contains i) (l.take n) 0 a) w := by
  simp only [fixB, Bool.and_eq_true, List.all_eq_true, List.mem_range, decide_eq_true_eq] at hB
  obtain ⟨⟨⟨hsel0, hnl⟩, hB⟩, hseq⟩ := hB
  have hsel := Region.noSelect_spec hsel0
  have gd : ∀ (l : Array Bool) (i : Nat), i < l.size → l.getD i true = l.getD i false := fun l i hi => by simp [hi]
  have htl : (l.take n).length = n := by simp; omega
  have hB1 : ∀ j o, l[j]? = some o → (∀ e ∈ o.after, Region.binds .any e = true → e.on < j) ∧ (j < n → o.guard = none ∧ ∀ i oi d, i < n → l[i]? = some oi → oi.dst = some d → (i = j ∨ o.dst ≠ some d) ∧ (d ∈ o.looksAt l.toArray → i < j ∧ reachB .any l.toArray (j + 1) j i = true)) ∧ (n ≤ j → ∀ i, i < n → reachB .any l.toArray (j + 1) j i = true) := fun j o ho => by
    have hj : j < l.length := (List.getElem?_eq_some_iff.1 ho).1
    have h := hB j hj
    simp only [ho, Option.map_some, Option.getD_some, Bool.and_eq_true, List.all_eq_true, List.mem_range, Option.isNone_iff_eq_none, Bool.or_eq_true, Bool.not_eq_true', decide_eq_false_iff_not, decide_eq_true_eq] at h
    obtain ⟨⟨h1, h2⟩, h3⟩ := h
    refine ⟨fun e he hb => ?_, fun hjn => ?_, fun hjn => h3.resolve_left (by omega)⟩
    · have := h1 e (Array.mem_toList_iff.2 he)
      simpa [hb] using this
    · obtain ⟨hg, h2⟩ := h2.resolve_left (by omega)
      refine ⟨hg, fun i oi d hi hio hd => ?_⟩
      have := h2 i hi
      simp only [hio, Option.map_some, Option.getD_some, hd, Bool.and_eq_true, Bool.or_eq_true, beq_iff_eq, bne_iff_ne, Bool.not_eq_true', decide_eq_true_eq, List.contains_eq_mem, decide_eq_false_iff_not] at this
      exact ⟨this.1, fun hm => this.2.resolve_left (fun h => h hm)⟩
  intro q
  induction q with
  | zero =>
    intro L listed w hq _ hL hT hsz hcl hC
    have hL0 : L = [] := List.eq_nil_of_length_eq_zero hq
    subst hL0
    rw [Nat.zero_add, putSome_all _ 0 a (by simp)]
    have hlist : listed = (List.replicate n true ++ List.replicate (l.length - n) false).toArray := by
      apply Array.ext_getElem?
      intro i
      by_cases hi : i < l.length
      · have his : i < listed.size := by rw [hsz]; simpa using hi
        rw [Array.getElem?_eq_getElem his, List.getElem?_toArray]
        by_cases hin : i < n
        · have h1 : listed.getD i true ≠ false := fun h => absurd ((hL i).2 ⟨hin, h⟩) (by simp)
          simp [his] at h1
          rw [h1, List.getElem?_append_left (by simpa using hin), List.getElem?_replicate, if_pos hin]
        · have h1 := hT i (by omega) hi
          simp [his] at h1
          rw [h1, List.getElem?_append_right (by simp; omega), List.getElem?_replicate, if_pos (by simp; omega)]
      · rw [Array.getElem?_eq_none (by rw [hsz]; simpa using hi), List.getElem?_toArray, List.getElem?_eq_none (by simp; omega)]
    subst hlist
    have := wpAny_of_seq (P := P) (md := .any) (ops := l.toArray) (Q' := Q) (l.drop n) n _ _ w (fun j => by simp [List.getElem?_drop]) (by rw [List.length_drop]; exact hseq) (hE w hC)
    rwa [List.length_drop] at this
  | succ q ih =>
    intro L listed w hq hP hL hT hsz hcl hC
    rw [show q + 1 + (l.length - n) = (q + (l.length - n)) + 1 by omega]
    have hreadyn : ∀ j ∈ Region.ready .any l.toArray listed, j < n := fun j hj => by
      obtain ⟨hu, oj, hoj, hall⟩ := mem_ready.1 hj
      rcases Nat.lt_or_ge j n with h | h
      · exact h
      · match L, hq with
        | i :: L', _ =>
          obtain ⟨hin, hui⟩ := (hL i).1 (List.mem_cons_self ..)
          have hr := (hB1 j oj (by simpa using hoj)).2.2 h i hin
          have := reach_listed hcl (j + 1) j i hr fun o ho e he hb => by
            rw [hoj] at ho
            injection ho with ho
            subst ho
            exact hall e he hb
          rw [gd listed i (by rw [hsz]; simp; omega), this] at hui
          cases hui
    refine ⟨fun hr => ?_, fun j hj => ?_⟩
    · match L, hq with
      | i :: L', _ =>
        exfalso
        obtain ⟨hin, hui⟩ := (hL i).1 (List.mem_cons_self ..)
        have hi : i < l.toArray.size := by simp; omega
        have : i ∈ Region.ready .any l.toArray listed := by
          rw [mem_ready]
          refine ⟨hui, l.toArray[i], Array.getElem?_eq_getElem hi, fun e he hb => ?_⟩
          have h1 := (hB1 i l.toArray[i] (by simp at hi; simp [hi])).1 e he hb
          rcases hx : listed.getD e.on false with _ | _
          · have hm : e.on ∈ i :: L' := (hL e.on).2 ⟨by omega, by rw [gd listed _ (by rw [hsz]; omega)]; exact hx⟩
            rcases List.mem_cons.1 hm with he | he
            · omega
            · have := (List.pairwise_cons.1 hP).1 _ he
              omega
          · rfl
        rw [hr] at this
        cases this
    · have hjn := hreadyn j hj
      obtain ⟨hu, oj, hoj, hall⟩ := mem_ready.1 hj
      have hjs : j < l.toArray.size := (Array.getElem?_eq_some_iff.1 hoj).1
      have hojl : l[j]? = some oj := by simpa using hoj
      have hojt : (l.take n)[j]? = some oj := by rw [List.getElem?_take, if_pos hjn]; exact hojl
      have hjL : j ∈ L := (hL j).2 ⟨hjn, hu⟩
      obtain ⟨L1, L2, rfl⟩ := List.append_of_mem hjL
      rw [List.pairwise_append] at hP
      obtain ⟨hP1, hP2, hP12⟩ := hP
      have hnd : j ∉ L1 ++ L2 := by
        intro hm
        rcases List.mem_append.1 hm with hm | hm
        · have := hP12 j hm j (List.mem_cons_self ..); omega
        · have := (List.pairwise_cons.1 hP2).1 j hm; omega
      obtain ⟨_, hhead, _⟩ := hB1 j oj hojl
      obtain ⟨hg, hdst⟩ := hhead hjn
      have hnotin : ∀ i, i < n → reachB .any l.toArray (j + 1) j i = true → i ∉ L1 ++ j :: L2 := fun i hil hi hm => by
        have h1 := reach_listed hcl (j + 1) j i hi fun o ho e he hb => by
          rw [hoj] at ho
          injection ho with ho
          subst ho
          exact hall e he hb
        have h2 := ((hL i).1 hm).2
        rw [gd listed i (by rw [hsz]; simp; omega), h1] at h2
        cases h2
      refine wpOp_ofNoQ ?_
      rw [wpOp_noQ hoj, if_pos (by simp [Region.wanted, hg])]
      have h := hO j oj hojt w hC
      rw [putSome_take, Nat.zero_add] at h
      refine wp_frame (ops := l.toArray) (G := fun v w' => v = vs j ∧ C w') (fun cs b => hsel j oj cs b hoj) ?_ ?_ (fun t ht => ?_) (Oper.wp_mono (fun a' w' hh => ⟨_, hh.1, rfl, hh.2⟩) h) fun v w' hG => ?_
      · rw [putSome_size, putSome_size]
      · rw [putSome_defs, putSome_defs]
      · refine putSome_tmp (l.take n) 0 a a rfl rfl fun i oi hi hm hd => hm ?_
        have hin : i < n := by have := (List.getElem?_eq_some_iff.1 hi).1; rw [htl] at this; exact this
        have hil : l[i]? = some oi := by rw [List.getElem?_take, if_pos hin] at hi; exact hi
        have h1 := ((hdst i oi t hin hil hd).2 ht)
        have h2 := hnotin i hin h1.2
        simp only [Nat.zero_add, List.contains_eq_mem, h2, decide_false, Bool.not_false, h1.1, decide_true]
      · obtain ⟨rfl, hC'⟩ := hG
        rw [putSome_upd (l.take n) 0 j a oj hojt (by simp) fun i o hi hij t ht => by
          have hin : i < n := by have := (List.getElem?_eq_some_iff.1 hi).1; rw [htl] at this; exact this
          have hil : l[i]? = some o := by rw [List.getElem?_take, if_pos hin] at hi; exact hi
          exact ((hdst i o t hin hil ht).1.resolve_left hij)]
        have he : putSome (updv vs (0 + j) (vs j)) (fun i => i == 0 + j || !(L1 ++ j :: L2).contains i) (l.take n) 0 a = putSome vs (fun i => !(L1 ++ L2).contains i) (l.take n) 0 a := by
          rw [Nat.zero_add]
          refine putSome_congr (l.take n) 0 a fun i _ _ => ⟨?_, ?_⟩
          · by_cases hij : i = j
            · subst hij
              simp only [beq_self_eq_true, Bool.true_or, List.contains_eq_mem, hnd, decide_false, Bool.not_false]
            · simp [hij]
          · unfold updv; split
            · rename_i h; rw [h]
            · rfl
        rw [he]
        refine ih (L1 ++ L2) _ w' (by simp at hq ⊢; omega) ?_ (fun i => ?_) (fun i h1 h2 => ?_) (by simpa using hsz) (fun x o ho hx e he hb => ?_) hC'
        · rw [List.pairwise_append]
          exact ⟨hP1, (List.pairwise_cons.1 hP2).2, fun x hx y hy => hP12 x hx y (List.mem_cons_of_mem _ hy)⟩
        · by_cases hij : i = j
          · subst hij
            simp only [hnd, false_iff, not_and]
            intro _
            simp [show i < listed.size by rw [hsz]; exact hjs]
          · rw [getD_set_ne true (Ne.symm hij), ← hL i]
            simp [hij]
        · rw [getD_set_ne true (by omega)]; exact hT i h1 h2
        · by_cases hkj : j = x
          · subst hkj
            rw [hoj] at ho
            injection ho with ho
            subst ho
            exact getD_set_true (hall e he hb)
          · rw [getD_set_ne false hkj] at hx
            exact getD_set_true (hcl x o ho hx e he hb)

/-- a region that draws: n operations of one value each, then the rest in order -/
theorem wp_region_fix {id : Nat} {Q : Exit → Act → World → Prop} {a : Act} {w : World} {l : List Oper} (n : Nat) (C : World → Prop) (hm : P.follows .mixedOrders = true) (hB : fixB l n = true) (hC : C w.drew)
    (h : FixL P C (l.take n) a fun a' => ∀ w', C w' → wpList P l.toArray Q (l.drop n) a' w') : (Code.region id l.toArray true).wp P Q a w := by
  refine wp_region_any hm ?_
  obtain ⟨vs, h1, h2⟩ := fix_vals _ 0 a h
  have hnl : n ≤ l.length := by
    simp only [fixB, Bool.and_eq_true, decide_eq_true_eq] at hB
    exact hB.1.1.2
  have H := fix_any (Q := Q) hB (fun j o ho wx hC => by have := h1 j o ho wx hC; rwa [Nat.zero_add] at this) h2 n (List.range' 0 n) (Array.replicate l.toArray.size false) w.drew (by simp) (List.pairwise_lt_range') (fun i => by
    simp [List.mem_range'_1]
    intro hi
    simp [show i < l.length by omega]) (fun i _ hi => by simp [hi]) (by simp) (fun j o ho hl => by
    exfalso
    by_cases hj : j < l.length <;> simp [hj] at hl) hC
  rw [putSome_none _ 0 a (fun i _ hi => by simp [List.mem_range'_1] at hi ⊢; omega), show n + (l.length - n) = l.toArray.size by simp; omega] at H
  exact H
end Go.Bl

namespace Go.Bl
open Go
variable {P : Program}

/-- each operation has one value in all worlds of I, and goes on in I -/
def FixML (P : Program) (I : (Nat → Bool) → World → Prop) : List Oper → Nat → Act → (Act → Prop) → Prop
  | [], _, a, K => K a
  | o :: r, j, a, K => ∃ v, (∀ wx (m : Nat → Bool), m j = false → I m wx → ∀ K' : Act → World → Prop, (∀ w', I (setm m j) w' → K' (a.put o.dst v) w') → o.wp P a wx K' NoQ) ∧ FixML P I r (j + 1) (a.put o.dst v) K

theorem fixm_b {I : (Nat → Bool) → World → Prop} {o : Oper} {r : List Oper} {j : Nat} {a : Act} {K0 : Act → Prop} (h : ∀ K : Act → Prop, (∀ a', FixML P I r (j + 1) a' K0 → K a') → ∃ v, (∀ wx (m : Nat → Bool), m j = false → I m wx → ∀ K' : Act → World → Prop, (∀ w', I (setm m j) w' → K' (a.put o.dst v) w') → o.wp P a wx K' NoQ) ∧ K (a.put o.dst v)) : FixML P I (o :: r) j a K0 :=
  h _ fun _ h => h
theorem fixm_nil {I : (Nat → Bool) → World → Prop} {j : Nat} {a : Act} {K0 : Act → Prop} (h : K0 a) : FixML P I [] j a K0 := h

theorem fixm_vals {I : (Nat → Bool) → World → Prop} {K : Act → Prop} : ∀ (l : List Oper) (k : Nat) (a : Act), FixML P I l k a K → ∃ vs : Nat → Value,
    (∀ (j : Nat) (o : Oper), l[j]? = some o → ∀ wx (m : Nat → Bool), m (k + j) = false → I m wx → o.wp P (putAll vs (l.take j) k a) wx (fun a' w' => a' = (putAll vs (l.take j) k a).put o.dst (vs (k + j)) ∧ I (setm m (k + j)) w') NoQ) ∧ K (putAll vs l k a)
  | [], _, _, h => ⟨fun _ => undef, fun j o ho => by simp at ho, h⟩
  | o :: r, k, a, ⟨v, h, hr⟩ => by
    obtain ⟨vs, h1, h2⟩ := fixm_vals r (k + 1) _ hr
    have hk : updv vs k v k = v := by simp [updv]
    have hc : ∀ (l : List Oper) (b : Act), putAll (updv vs k v) l (k + 1) b = putAll vs l (k + 1) b := fun l b => putAll_congr l (k + 1) b fun i hi _ => by simp [updv, show i ≠ k by omega]
    refine ⟨updv vs k v, fun j o' ho wx m hmj hI => ?_, ?_⟩
    · cases j with
      | zero =>
        simp only [List.getElem?_cons_zero, Option.some.injEq] at ho
        subst ho
        simp only [List.take_zero, putAll, Nat.add_zero, hk] at hmj ⊢
        exact h wx m hmj hI _ fun w' hw => ⟨rfl, hw⟩
      | succ j =>
        have e : k + 1 + j = k + (j + 1) := by omega
        have := h1 j o' (by simpa using ho) wx m (by rw [e]; exact hmj) hI
        simp only [List.take_succ_cons, putAll, hk, hc]
        rw [show updv vs k v (k + (j + 1)) = vs (k + 1 + j) by rw [e]; simp [updv], ← e]
        exact this
    · simp only [putAll, hk, hc]
      exact h2

theorem MOps.mk {I : (Nat → Bool) → Nat → World → Prop} {M : (Nat → Bool) → World → World → Prop} {tot : Nat} {a : Act} {l : List Oper} {Φ : Nat → Value → World → Prop} : ∀ (l' : List Oper) (k : Nat),
    (∀ (i : Nat) (o : Oper), l'[i]? = some o → ∀ vs w m n, m (k + i) = false → Cl l m → I m n w → n ≤ tot → (∀ d, d < k + i → reachB .any l.toArray (k + i + 1) (k + i) d = true → Φ d (vs d) w) →
      o.wp P (putAll vs l 0 a) w (fun a' w' => ∃ v, a' = (putAll vs l 0 a).put o.dst v ∧ I (setm m (k + i)) n w' ∧ M m w w' ∧ Φ (k + i) v w') NoQ) → MOps P I M tot a l Φ l' (List.replicate l'.length 0) k
  | [], _, _ => trivial
  | o :: r, k, h => ⟨fun vs w m n h1 h2 h3 h4 h5 => by
      have := h 0 o rfl vs w m n h1 h2 h3 (by simpa [List.replicate_succ] using h4) h5
      simp only [List.length_cons, List.replicate_succ, List.headD_cons, Nat.add_zero] at this ⊢
      exact this, by
      have := MOps.mk (I := I) (M := M) (tot := tot) (a := a) (l := l) (Φ := Φ) r (k + 1) fun i o' ho => by
        have := h (i + 1) o' (by simpa using ho)
        rwa [show k + (i + 1) = k + 1 + i by omega] at this
      simp only [List.length_cons, List.replicate_succ, List.tail_cons]
      exact this⟩

theorem putSome_congr2 {vs vs' : Nat → Value} {m : Nat → Bool} : ∀ (l : List Oper) (k : Nat) (a : Act), (∀ i, k ≤ i → i < k + l.length → m i = true → vs i = vs' i) → putSome vs m l k a = putSome vs' m l k a
  | [], _, _, _ => rfl
  | o :: r, k, a, h => by
    simp only [putSome]
    cases hm : m k
    · simp only [Bool.false_eq_true, if_false]
      exact putSome_congr2 r (k + 1) _ fun i h1 h2 => h i (by omega) (by simp; omega)
    · simp only [if_true, h k (Nat.le_refl _) (by simp) hm]
      exact putSome_congr2 r (k + 1) _ fun i h1 h2 => h i (by omega) (by simp; omega)

theorem wp_region_fixm {id : Nat} {Q : Exit → Act → World → Prop} {a : Act} {w : World} {l : List Oper} (I : (Nat → Bool) → World → Prop) (hm : P.follows .mixedOrders = true) (hB : invB l = true) (hI : ∀ m : Nat → Bool, (∀ i, i < l.length → m i = false) → I m w.drew)
    (h : FixML P I l 0 a fun a' => ∀ w' (m : Nat → Bool), (∀ i, i < l.length → m i = true) → I m w' → Q .normal a' w') : (Code.region id l.toArray true).wp P Q a w := by
  obtain ⟨vs0, h1, h2⟩ := fixm_vals _ 0 a h
  have hB' := hB
  simp only [invB, Bool.and_eq_true, List.all_eq_true, List.mem_range] at hB'
  obtain ⟨hsel0, hB2⟩ := hB'
  have hsel := Region.noSelect_spec hsel0
  have hsum : (List.replicate l.length 0).sum = 0 := by simp
  have hget : ∀ i, i < l.length → ((List.range l.length).map fun i => fun (v : Value) (_ : World) => v = vs0 i).getD i (fun _ _ => False) = fun v _ => v = vs0 i := fun i hi => by
    rw [List.getD_eq_getElem?_getD, List.getElem?_map, List.getElem?_range hi]; rfl
  refine wp_region_minv (fun m _ w => I m w) (fun _ _ _ => True) ((List.range l.length).map fun i => fun v _ => v = vs0 i) (List.replicate l.length 0) hm hB hI (fun i m v w w' _ _ h => ?_) ?_ (by simp) ?_
  · by_cases hi : i < l.length
    · rw [hget i hi] at h ⊢; exact h
    · rw [List.getD_eq_getElem?_getD, List.getElem?_eq_none (by simpa using hi)] at h
      exact h.elim
  · refine MOps.mk l 0 fun j o ho vs w m n hmj hcl hIm _ hf => ?_
    rw [Nat.zero_add] at hmj hf ⊢
    have hj : j < l.length := (List.getElem?_eq_some_iff.1 ho).1
    have hd := hB2 j hj
    simp only [ho, Option.map_some, Option.getD_some, Bool.and_eq_true, List.all_eq_true, List.mem_range] at hd
    have hrun := h1 j o ho w m (by rwa [Nat.zero_add]) hIm
    rw [Nat.zero_add] at hrun
    rw [putSome_take, Nat.zero_add] at hrun
    refine wp_frame (ops := l.toArray) (G := fun v w' => v = vs0 j ∧ I (setm m j) w') (fun cs b => hsel j o cs b (by simpa using ho)) ?_ ?_ (fun t ht => ?_) (Oper.wp_mono (fun a' w' hh => ⟨_, hh.1, rfl, hh.2⟩) hrun) fun v w' hG => ?_
    · rw [putSome_size, ← putSome_all (vs := vs) (m := fun _ => true) l 0 a (by simp), putSome_size]
    · rw [putSome_defs, ← putSome_all (vs := vs) (m := fun _ => true) l 0 a (by simp), putSome_defs]
    · have hdst : ∀ i oi d, l[i]? = some oi → oi.dst = some d → d ∈ o.looksAt l.toArray → i < j ∧ reachB .any l.toArray (j + 1) j i = true := fun i oi d hi hdd hm => by
        have := hd.2 i (List.getElem?_eq_some_iff.1 hi).1
        simp only [hi, Option.map_some, Option.getD_some, hdd, Bool.and_eq_true, Bool.or_eq_true, beq_iff_eq, bne_iff_ne, Bool.not_eq_true', decide_eq_true_eq, List.contains_eq_mem, decide_eq_false_iff_not] at this
        exact this.2.resolve_left (fun h => h hm)
      have e1 : (putSome vs0 (fun i => decide (i < j)) l 0 a).tmps[t]? = (putSome vs (fun i => decide (i < j) && reachB .any l.toArray (j + 1) j i) l 0 a).tmps[t]? := by
        have e2 : putSome vs (fun i => decide (i < j) && reachB .any l.toArray (j + 1) j i) l 0 a = putSome vs0 (fun i => decide (i < j) && reachB .any l.toArray (j + 1) j i) l 0 a := by
          refine putSome_congr2 l 0 a fun i _ hi hm => ?_
          simp only [Bool.and_eq_true, decide_eq_true_eq] at hm
          have := hf i hm.1 hm.2
          rw [hget i (by omega)] at this
          exact this
        rw [e2]
        refine putSome_tmp l 0 a a rfl rfl fun i oi hi hm hdd => hm ?_
        have := hdst i oi t hi hdd ht
        simp [this.1, this.2]
      rw [e1, ← putSome_all (vs := vs) (m := fun _ => true) l 0 a (by simp)]
      refine putSome_tmp l 0 a a rfl rfl fun i oi hi hm hdd => hm ?_
      have := hdst i oi t hi hdd ht
      simp [this.1, this.2]
    · obtain ⟨rfl, hG⟩ := hG
      exact ⟨_, rfl, hG, trivial, by rw [hget j hj]⟩
  · intro vs w m hmm hIm hf
    have : putAll vs l 0 a = putAll vs0 l 0 a := putAll_congr l 0 a fun i _ hi => by
      have := hf i (by omega)
      rw [hget i (by omega)] at this
      exact this
    rw [this]
    exact h2 w m hmm hIm
end Go.Bl

namespace Go.Proofs.Ytjodjdjfagjiaaa
open Go.RowKit Go.Bl

set_option maxHeartbeats 2000000 in
set_option maxRecDepth 100000 in
theorem normalOf_any (A : Option Addr) (c : Nat) (vs : List V3) (B : Option Addr) (m d : Nat) (f : Fc) (w : World) (hl : Sl w 0 A vs) (hf : vs.any farV = false) (hin : inF vs.length f = true) :
    Calls Try.prog 51 #[.agg #[.slice A vs.length c, .slice B m d], .agg #[.int .i64 f.a, .int .i64 f.b, .int .i64 f.c]] w fun e w' => e = .returned (.agg #[.int .i64 (normV vs f).x, .int .i64 (normV vs f).y, .int .i64 (normV vs f).z]) ∧ w.grownBy w' none := by
  have ba := atV_bd hf f.a
  have bb := atV_bd hf f.b
  have bc := atV_bd hf f.c
  have hN : Hid (normV vs f = crossV (lessV (atV vs f.b) (atV vs f.a)) (lessV (atV vs f.c) (atV vs f.a))) := rfl
  generalize normV vs f = N at *
  clear hf
  have hm := hl.1
  unfold maxLen at hm
  obtain ⟨i, j, k, hi, hj, hk, rfl, ea, eb, ec⟩ := inF_at hin
  rw [ea] at ba hN
  rw [eb] at bb hN
  rw [ec] at bc hN
  clear ea eb ec hin
  obtain ⟨g, o, rfl, hb0, hb1, hcell⟩ := hl.v3 (by omega)
  obtain ⟨x0, x1, x2⟩ := hcell i hi
  obtain ⟨y0, y1, y2⟩ := hcell j hj
  obtain ⟨z0, z1, z2⟩ := hcell k hk
  clear hcell
  have hb2 : g < w.heap.size + 1 := by omega
  have hb3 : g < w.heap.size + 1 + 1 := by omega
  have hb4 : g < w.heap.size + 1 + 1 + 1 := by omega
  generalize vs[i] = va at *
  generalize vs[j] = vb at *
  generalize vs[k] = vc at *
  generalize vs.length = n at *
  go_enter Try.func51, Try.ntmps51
  go_wp2_with fail
  obtain ⟨W, hW⟩ : ∃ W, W = (((w.alloc (.cells #[.slice (some ⟨g, o, none⟩) n c, .slice B m d] 29)).alloc (.cells #[.int .i64 i, .int .i64 j, .int .i64 k] 67)).alloc (.cells #[.int .i64 0, .int .i64 0, .int .i64 0] 49)).alloc (.cells #[.int .i64 va.x, .int .i64 va.y, .int .i64 va.z] 49) := ⟨_, rfl⟩
  have hg : w.grownBy W none := by rw [hW]; exact (by repeat (first | exact World.grownBy.refl _ _ | assumption | refine gr_alloc ?_ _ | (apply gr_tail; assumption) | refine gr_drewN ?_ _ | refine gr_drew ?_))
  have hz : w.heap.size + 1 + 1 < W.heap.size := by rw [hW]; simp
  have b0 : W.cell? ⟨w.heap.size, 0, none⟩ = some (.slice (some ⟨g, o, none⟩) n c) := by rw [hW]; go_simp
  have b3 : W.cell? ⟨w.heap.size + 1, 0, none⟩ = some (.int .i64 i) := by rw [hW]; go_simp
  have b4 : W.cell? ⟨w.heap.size + 1, 1, none⟩ = some (.int .i64 j) := by rw [hW]; go_simp
  have b5 : W.cell? ⟨w.heap.size + 1, 2, none⟩ = some (.int .i64 k) := by rw [hW]; go_simp
  have b6 : W.cell? ⟨w.heap.size + 1 + 1 + 1, 0, none⟩ = some (.int .i64 va.x) := by rw [hW]; go_simp
  have b7 : W.cell? ⟨w.heap.size + 1 + 1 + 1, 1, none⟩ = some (.int .i64 va.y) := by rw [hW]; go_simp
  have b8 : W.cell? ⟨w.heap.size + 1 + 1 + 1, 2, none⟩ = some (.int .i64 va.z) := by rw [hW]; go_simp
  have k0 : Cell W (w.heap.size + 1 + 1) 0 (.int .i64 0) := by rw [hW]; exact ⟨by go_simp, by go_simp⟩
  have k1 : Cell W (w.heap.size + 1 + 1) 1 (.int .i64 0) := by rw [hW]; exact ⟨by go_simp, by go_simp⟩
  have k2 : Cell W (w.heap.size + 1 + 1) 2 (.int .i64 0) := by rw [hW]; exact ⟨by go_simp, by go_simp⟩
  rw [← hW]
  clear hW
  replace y0 := hg.k y0
  replace y1 := hg.k y1
  replace y2 := hg.k y2
  replace z0 := hg.k z0
  replace z1 := hg.k z1
  replace z2 := hg.k z2
  refine wp_region_fix 17 ((fun wx => W.grownBy wx none)) (by kernel_rfl) (by kernel_rfl) (gr_drew (World.grownBy.refl _ _)) ?_
  simp only [List.take_succ_cons, List.take_zero, List.drop_succ_cons, List.drop_zero]
  iterate 7 ((refine fix_b (fun K hK => ?_); apply Exists.intro; refine ⟨fun wx hC K' hK' => ?_, ?_⟩; (focus (replace hK' := hide hK'; (have d0 := hC.k b0; have d3 := hC.k b3; have d4 := hC.k b4; have d5 := hC.k b5; have d6 := hC.k b6; have d7 := hC.k b7; have d8 := hC.k b8; have d9 := hC.k y0; have e1 := hC.k y1; have e2 := hC.k y2; have e3 := hC.k z0; have e4 := hC.k z1; have e5 := hC.k z2); go_wp2_with fail; exact hK'.out _ hC)); go_simp; refine hK _ ?_; clear hK K))
  (refine fix_b (fun K hK => ?_); apply Exists.intro; refine ⟨fun wx hC K' hK' => ?_, ?_⟩; (focus (replace hK' := hide hK'; (have d0 := hC.k b0; have d3 := hC.k b3; have d4 := hC.k b4; have d5 := hC.k b5; have d6 := hC.k b6; have d7 := hC.k b7; have d8 := hC.k b8; have d9 := hC.k y0; have e1 := hC.k y1; have e2 := hC.k y2; have e3 := hC.k z0; have e4 := hC.k z1; have e5 := hC.k z2); go_wp2_with fail; (refine (less_any vb va _ (bb.mono (by decide)) (ba.mono (by decide))).mono ?_; rintro e w' ⟨rfl, hg'⟩; go_wp2_with fail; exact hK'.out _ (gr_trans hC hg')))); go_simp; refine hK _ ?_; clear hK K)
  iterate 7 ((refine fix_b (fun K hK => ?_); apply Exists.intro; refine ⟨fun wx hC K' hK' => ?_, ?_⟩; (focus (replace hK' := hide hK'; (have d0 := hC.k b0; have d3 := hC.k b3; have d4 := hC.k b4; have d5 := hC.k b5; have d6 := hC.k b6; have d7 := hC.k b7; have d8 := hC.k b8; have d9 := hC.k y0; have e1 := hC.k y1; have e2 := hC.k y2; have e3 := hC.k z0; have e4 := hC.k z1; have e5 := hC.k z2); go_wp2_with fail; exact hK'.out _ hC)); go_simp; refine hK _ ?_; clear hK K))
  (refine fix_b (fun K hK => ?_); apply Exists.intro; refine ⟨fun wx hC K' hK' => ?_, ?_⟩; (focus (replace hK' := hide hK'; (have d0 := hC.k b0; have d3 := hC.k b3; have d4 := hC.k b4; have d5 := hC.k b5; have d6 := hC.k b6; have d7 := hC.k b7; have d8 := hC.k b8; have d9 := hC.k y0; have e1 := hC.k y1; have e2 := hC.k y2; have e3 := hC.k z0; have e4 := hC.k z1; have e5 := hC.k z2); go_wp2_with fail; (refine (less_any vc va _ (bc.mono (by decide)) (ba.mono (by decide))).mono ?_; rintro e w' ⟨rfl, hg'⟩; go_wp2_with fail; exact hK'.out _ (gr_trans hC hg')))); go_simp; refine hK _ ?_; clear hK K)
  (refine fix_b (fun K hK => ?_); apply Exists.intro; refine ⟨fun wx hC K' hK' => ?_, ?_⟩; (focus (replace hK' := hide hK'; (have d0 := hC.k b0; have d3 := hC.k b3; have d4 := hC.k b4; have d5 := hC.k b5; have d6 := hC.k b6; have d7 := hC.k b7; have d8 := hC.k b8; have d9 := hC.k y0; have e1 := hC.k y1; have e2 := hC.k y2; have e3 := hC.k z0; have e4 := hC.k z1; have e5 := hC.k z2); go_wp2_with fail; (refine (cross_any (lessV vb va) (lessV vc va) _ ((bb.less ba).mono (by decide)) ((bc.less ba).mono (by decide))).mono ?_; rintro e w' ⟨rfl, hg'⟩; go_wp2_with fail; exact hK'.out _ (gr_trans hC hg')))); go_simp; refine hK _ ?_; clear hK K)
  refine fix_nil ?_
  intro wz hC
  obtain ⟨k0, f0⟩ := k0.gr hC (by simp)
  obtain ⟨k1, f1⟩ := k1.gr hC (by simp)
  obtain ⟨k2, f2⟩ := k2.gr hC (by simp)
  go_wp2_with fail
  refine bodyPost_ret (v := .agg #[.int .i64 (crossV (lessV vb va) (lessV vc va)).x, .int .i64 (crossV (lessV vb va) (lessV vc va)).y, .int .i64 (crossV (lessV vb va) (lessV vc va)).z]) (by simp [results, Try.results51, go_sem, k0, k1, k2, f0, f1, f2]) rfl ⟨by rw [hN.out], ?_⟩
  exact gr_set (gr_set (gr_set (gr_trans hg hC) (.inr (show w.heap.size ≤ w.heap.size + 1 + 1 by omega)) _) (.inr (show w.heap.size ≤ w.heap.size + 1 + 1 by omega)) _) (.inr (show w.heap.size ≤ w.heap.size + 1 + 1 by omega)) _

/-- three cells of a vector -/
def Box3 (w : World) (g : Nat) (v : V3) : Prop := Cell w g 0 (.int .i64 v.x) ∧ Cell w g 1 (.int .i64 v.y) ∧ Cell w g 2 (.int .i64 v.z)
theorem Box3.set {w : World} {g : Nat} {v : V3} (h : Box3 w g v) (u : V3) : Box3 (((w.setCell ⟨g, 0, none⟩ (.int .i64 u.x)).setCell ⟨g, 1, none⟩ (.int .i64 u.y)).setCell ⟨g, 2, none⟩ (.int .i64 u.z)) g u :=
  ⟨((h.1.set_ _).set_ne _ (by decide)).set_ne _ (by decide), ((h.2.1.set_ne _ (by decide)).set_ _).set_ne _ (by decide), ((h.2.2.set_ne _ (by decide)).set_ne _ (by decide)).set_ _⟩
theorem gr_set3 {w : World} (g : Nat) (a b c : Value) : w.grownBy (((w.setCell ⟨g, 0, none⟩ a).setCell ⟨g, 1, none⟩ b).setCell ⟨g, 2, none⟩ c) (some g) :=
  have h1 := gr_set (r := some g) (p := ⟨g, 0, none⟩) (World.grownBy.refl w _) (.inl rfl) a
  have h2 := gr_set (p := ⟨g, 1, none⟩) h1 (.inl rfl) b
  gr_set (p := ⟨g, 2, none⟩) h2 (.inl rfl) c
theorem Box3.gr {w w' : World} {g : Nat} {r : Option Nat} {v : V3} (h : Box3 w g v) (hg : w.grownBy w' r) (hr : r ≠ some g) : Box3 w' g v := ⟨h.1.gr hg hr, h.2.1.gr hg hr, h.2.2.gr hg hr⟩

/-- three vectors are handed back -/
def CornI (w W : World) (va vb vc : V3) (m : Nat → Bool) (wx : World) : Prop :=
  w.grownBy wx none ∧ (∀ p v, p.block < w.heap.size + 1 + 1 → W.cell? p = some v → wx.cell? p = some v) ∧ Box3 wx (w.heap.size + 1 + 1) (if m 18 then va else ⟨0, 0, 0⟩) ∧ Box3 wx (w.heap.size + 1 + 1 + 1) (if m 19 then vb else ⟨0, 0, 0⟩) ∧ Box3 wx (w.heap.size + 1 + 1 + 1 + 1) (if m 20 then vc else ⟨0, 0, 0⟩)
section
variable {w W wx : World} {va vb vc : V3} {m : Nat → Bool}
theorem CornI.same {j : Nat} (hj : (j == 18) = false ∧ (j == 19) = false ∧ (j == 20) = false) (h : CornI w W va vb vc m wx) : CornI w W va vb vc (setm m j) wx := by
  obtain ⟨h1, h2, h3, h4, h5⟩ := h
  have e : ∀ i, (i == j) = false → setm m j i = m i := fun i hi => setm_ne hi
  have c : ∀ i : Nat, (j == i) = false → (i == j) = false := fun i hi => by simp at hi ⊢; omega
  exact ⟨h1, h2, by rw [e 18 (c _ hj.1)]; exact h3, by rw [e 19 (c _ hj.2.1)]; exact h4, by rw [e 20 (c _ hj.2.2)]; exact h5⟩
theorem CornI.grs {g : Nat} {a b c : Value} (h : CornI w W va vb vc m wx) (hg : w.heap.size + 1 + 1 ≤ g) : w.grownBy (((wx.setCell ⟨g, 0, none⟩ a).setCell ⟨g, 1, none⟩ b).setCell ⟨g, 2, none⟩ c) none ∧
    (∀ p v, p.block < w.heap.size + 1 + 1 → W.cell? p = some v → (((wx.setCell ⟨g, 0, none⟩ a).setCell ⟨g, 1, none⟩ b).setCell ⟨g, 2, none⟩ c).cell? p = some v) :=
  ⟨gr_new h.1 (gr_set3 g a b c) (by omega), fun p v hp hv => gr_cell (gr_set3 g a b c) (h.2.1 p v hp hv) (by intro e; cases e; omega)⟩
theorem CornI.st0 (h : CornI w W va vb vc m wx) : CornI w W va vb vc (setm m 18) (((wx.setCell ⟨w.heap.size + 1 + 1, 0, none⟩ (.int .i64 va.x)).setCell ⟨w.heap.size + 1 + 1, 1, none⟩ (.int .i64 va.y)).setCell ⟨w.heap.size + 1 + 1, 2, none⟩ (.int .i64 va.z)) := by
  have hx := gr_set3 (w := wx) (w.heap.size + 1 + 1) (.int .i64 va.x) (.int .i64 va.y) (.int .i64 va.z)
  have hs := h.grs (g := w.heap.size + 1 + 1) (a := .int .i64 va.x) (b := .int .i64 va.y) (c := .int .i64 va.z) (by omega)
  obtain ⟨h1, h2, h3, h4, h5⟩ := h
  refine ⟨hs.1, hs.2, ?_, ?_, ?_⟩
  · rw [if_pos setm_eq]; exact h3.set va
  · rw [setm_ne (by decide)]; exact h4.gr hx (by intro e; injection e with e; omega)
  · rw [setm_ne (by decide)]; exact h5.gr hx (by intro e; injection e with e; omega)
theorem CornI.st1 (h : CornI w W va vb vc m wx) : CornI w W va vb vc (setm m 19) (((wx.setCell ⟨w.heap.size + 1 + 1 + 1, 0, none⟩ (.int .i64 vb.x)).setCell ⟨w.heap.size + 1 + 1 + 1, 1, none⟩ (.int .i64 vb.y)).setCell ⟨w.heap.size + 1 + 1 + 1, 2, none⟩ (.int .i64 vb.z)) := by
  have hx := gr_set3 (w := wx) (w.heap.size + 1 + 1 + 1) (.int .i64 vb.x) (.int .i64 vb.y) (.int .i64 vb.z)
  have hs := h.grs (g := w.heap.size + 1 + 1 + 1) (a := .int .i64 vb.x) (b := .int .i64 vb.y) (c := .int .i64 vb.z) (by omega)
  obtain ⟨h1, h2, h3, h4, h5⟩ := h
  refine ⟨hs.1, hs.2, ?_, ?_, ?_⟩
  · rw [setm_ne (by decide)]; exact h3.gr hx (by intro e; injection e with e; omega)
  · rw [if_pos setm_eq]; exact h4.set vb
  · rw [setm_ne (by decide)]; exact h5.gr hx (by intro e; injection e with e; omega)
theorem CornI.st2 (h : CornI w W va vb vc m wx) : CornI w W va vb vc (setm m 20) (((wx.setCell ⟨w.heap.size + 1 + 1 + 1 + 1, 0, none⟩ (.int .i64 vc.x)).setCell ⟨w.heap.size + 1 + 1 + 1 + 1, 1, none⟩ (.int .i64 vc.y)).setCell ⟨w.heap.size + 1 + 1 + 1 + 1, 2, none⟩ (.int .i64 vc.z)) := by
  have hx := gr_set3 (w := wx) (w.heap.size + 1 + 1 + 1 + 1) (.int .i64 vc.x) (.int .i64 vc.y) (.int .i64 vc.z)
  have hs := h.grs (g := w.heap.size + 1 + 1 + 1 + 1) (a := .int .i64 vc.x) (b := .int .i64 vc.y) (c := .int .i64 vc.z) (by omega)
  obtain ⟨h1, h2, h3, h4, h5⟩ := h
  refine ⟨hs.1, hs.2, ?_, ?_, ?_⟩
  · rw [setm_ne (by decide)]; exact h3.gr hx (by intro e; injection e with e; omega)
  · rw [setm_ne (by decide)]; exact h4.gr hx (by intro e; injection e with e; omega)
  · rw [if_pos setm_eq]; exact h5.set vc
end
set_option maxHeartbeats 2000000 in
set_option maxRecDepth 100000 in
theorem corners_any (A : Option Addr) (c : Nat) (vs : List V3) (B : Option Addr) (m d : Nat) (f : Fc) (w : World) (hl : Sl w 0 A vs) (hin : inF vs.length f = true) :
    Calls Try.prog 59 #[.agg #[.slice A vs.length c, .slice B m d], .agg #[.int .i64 f.a, .int .i64 f.b, .int .i64 f.c]] w fun e w' => e = .returned (.tuple #[.agg #[.int .i64 (atV vs f.a).x, .int .i64 (atV vs f.a).y, .int .i64 (atV vs f.a).z], .agg #[.int .i64 (atV vs f.b).x, .int .i64 (atV vs f.b).y, .int .i64 (atV vs f.b).z], .agg #[.int .i64 (atV vs f.c).x, .int .i64 (atV vs f.c).y, .int .i64 (atV vs f.c).z]]) ∧ w.grownBy w' none := by
  have hm := hl.1
  unfold maxLen at hm
  obtain ⟨i, j, k, hi, hj, hk, rfl, ea, eb, ec⟩ := inF_at hin
  rw [ea, eb, ec]
  clear ea eb ec hin
  obtain ⟨g, o, rfl, hb0, hb1, hcell⟩ := hl.v3 (by omega)
  obtain ⟨x0, x1, x2⟩ := hcell i hi
  obtain ⟨y0, y1, y2⟩ := hcell j hj
  obtain ⟨z0, z1, z2⟩ := hcell k hk
  clear hcell
  have hb2 : g < w.heap.size + 1 := by omega
  have hb3 : g < w.heap.size + 1 + 1 := by omega
  have hb4 : g < w.heap.size + 1 + 1 + 1 := by omega
  generalize vs[i] = va at *
  generalize vs[j] = vb at *
  generalize vs[k] = vc at *
  generalize vs.length = n at *
  go_enter Try.func59, Try.ntmps59
  go_wp2_with fail
  obtain ⟨W, hW⟩ : ∃ W, W = ((((w.alloc (.cells #[.slice (some ⟨g, o, none⟩) n c, .slice B m d] 29)).alloc (.cells #[.int .i64 i, .int .i64 j, .int .i64 k] 67)).alloc (.cells #[.int .i64 0, .int .i64 0, .int .i64 0] 49)).alloc (.cells #[.int .i64 0, .int .i64 0, .int .i64 0] 49)).alloc (.cells #[.int .i64 0, .int .i64 0, .int .i64 0] 49) := ⟨_, rfl⟩
  have hg : w.grownBy W none := by rw [hW]; exact (by repeat (first | exact World.grownBy.refl _ _ | assumption | refine gr_alloc ?_ _ | (apply gr_tail; assumption) | refine gr_drewN ?_ _ | refine gr_drew ?_))
  have b0 : W.cell? ⟨w.heap.size, 0, none⟩ = some (.slice (some ⟨g, o, none⟩) n c) := by rw [hW]; go_simp
  have b3 : W.cell? ⟨w.heap.size + 1, 0, none⟩ = some (.int .i64 i) := by rw [hW]; go_simp
  have b4 : W.cell? ⟨w.heap.size + 1, 1, none⟩ = some (.int .i64 j) := by rw [hW]; go_simp
  have b5 : W.cell? ⟨w.heap.size + 1, 2, none⟩ = some (.int .i64 k) := by rw [hW]; go_simp
  have k0 : Cell W (w.heap.size + 1 + 1) 0 (.int .i64 0) := by rw [hW]; exact ⟨by go_simp, by go_simp⟩
  have k1 : Cell W (w.heap.size + 1 + 1) 1 (.int .i64 0) := by rw [hW]; exact ⟨by go_simp, by go_simp⟩
  have k2 : Cell W (w.heap.size + 1 + 1) 2 (.int .i64 0) := by rw [hW]; exact ⟨by go_simp, by go_simp⟩
  have k3 : Cell W (w.heap.size + 1 + 1 + 1) 0 (.int .i64 0) := by rw [hW]; exact ⟨by go_simp, by go_simp⟩
  have k4 : Cell W (w.heap.size + 1 + 1 + 1) 1 (.int .i64 0) := by rw [hW]; exact ⟨by go_simp, by go_simp⟩
  have k5 : Cell W (w.heap.size + 1 + 1 + 1) 2 (.int .i64 0) := by rw [hW]; exact ⟨by go_simp, by go_simp⟩
  have k6 : Cell W (w.heap.size + 1 + 1 + 1 + 1) 0 (.int .i64 0) := by rw [hW]; exact ⟨by go_simp, by go_simp⟩
  have k7 : Cell W (w.heap.size + 1 + 1 + 1 + 1) 1 (.int .i64 0) := by rw [hW]; exact ⟨by go_simp, by go_simp⟩
  have k8 : Cell W (w.heap.size + 1 + 1 + 1 + 1) 2 (.int .i64 0) := by rw [hW]; exact ⟨by go_simp, by go_simp⟩
  rw [← hW]
  clear hW
  replace x0 := hg.k x0
  replace x1 := hg.k x1
  replace x2 := hg.k x2
  replace y0 := hg.k y0
  replace y1 := hg.k y1
  replace y2 := hg.k y2
  replace z0 := hg.k z0
  replace z1 := hg.k z1
  replace z2 := hg.k z2
  refine wp_region_fixm (CornI w W va vb vc) (by kernel_rfl) (by kernel_rfl) ?fa ?fb
  case fa =>
    intro m hm0
    have e := gr_drew (r := none) (World.grownBy.refl W none)
    refine ⟨gr_trans hg e, fun p v _ h => e.k h, ?_, ?_, ?_⟩
    · rw [if_neg (by simp [hm0 18 (by decide)])]; exact ⟨k0.gr e (by simp), k1.gr e (by simp), k2.gr e (by simp)⟩
    · rw [if_neg (by simp [hm0 19 (by decide)])]; exact ⟨k3.gr e (by simp), k4.gr e (by simp), k5.gr e (by simp)⟩
    · rw [if_neg (by simp [hm0 20 (by decide)])]; exact ⟨k6.gr e (by simp), k7.gr e (by simp), k8.gr e (by simp)⟩
  case fb =>
    have hb5 : g < w.heap.size + 1 + 1 := hb3
    iterate 18 ((refine fixm_b (fun K hK => ?_); apply Exists.intro; refine ⟨fun wx m hmj hC K' hK' => ?_, ?_⟩; (focus (replace hK' := hide hK'; (have d0 := hC.2.1 _ _ (by simp only; omega) b0; have d3 := hC.2.1 _ _ (by simp only; omega) b3; have d4 := hC.2.1 _ _ (by simp only; omega) b4; have d5 := hC.2.1 _ _ (by simp only; omega) b5; have d6 := hC.2.1 _ _ hb5 x0; have d7 := hC.2.1 _ _ hb5 x1; have d8 := hC.2.1 _ _ hb5 x2; have d9 := hC.2.1 _ _ hb5 y0; have e1 := hC.2.1 _ _ hb5 y1; have e2 := hC.2.1 _ _ hb5 y2; have e3 := hC.2.1 _ _ hb5 z0; have e4 := hC.2.1 _ _ hb5 z1; have e5 := hC.2.1 _ _ hb5 z2); go_wp2_with fail; exact hK'.out _ (CornI.same (by decide) hC))); go_simp; refine hK _ ?_; clear hK K))
    (refine fixm_b (fun K hK => ?_); refine ⟨undef, fun wx m hmj hC K' hK' => ?_, ?_⟩; (focus (replace hK' := hide hK'; (have hC2 := hC; obtain ⟨_, _, h3, h4, h5⟩ := hC2; obtain ⟨⟨c0, g0⟩, ⟨c1, g1⟩, ⟨c2, g2⟩⟩ := h3); go_wp2_with fail; exact hK'.out _ hC.st0)); go_simp; refine hK _ ?_; clear hK K)
    (refine fixm_b (fun K hK => ?_); refine ⟨undef, fun wx m hmj hC K' hK' => ?_, ?_⟩; (focus (replace hK' := hide hK'; (have hC2 := hC; obtain ⟨_, _, h3, h4, h5⟩ := hC2; obtain ⟨⟨c0, g0⟩, ⟨c1, g1⟩, ⟨c2, g2⟩⟩ := h4); go_wp2_with fail; exact hK'.out _ hC.st1)); go_simp; refine hK _ ?_; clear hK K)
    (refine fixm_b (fun K hK => ?_); refine ⟨undef, fun wx m hmj hC K' hK' => ?_, ?_⟩; (focus (replace hK' := hide hK'; (have hC2 := hC; obtain ⟨_, _, h3, h4, h5⟩ := hC2; obtain ⟨⟨c0, g0⟩, ⟨c1, g1⟩, ⟨c2, g2⟩⟩ := h5); go_wp2_with fail; exact hK'.out _ hC.st2)); go_simp; refine hK _ ?_; clear hK K)
    refine fixm_nil ?_
    intro wz m hmm hC
    obtain ⟨h1, _, h3, h4, h5⟩ := hC
    rw [if_pos (hmm 18 (by decide))] at h3
    rw [if_pos (hmm 19 (by decide))] at h4
    rw [if_pos (hmm 20 (by decide))] at h5
    obtain ⟨⟨k0, f0⟩, ⟨k1, f1⟩, ⟨k2, f2⟩⟩ := h3
    obtain ⟨⟨k3, f3⟩, ⟨k4, f4⟩, ⟨k5, f5⟩⟩ := h4
    obtain ⟨⟨k6, f6⟩, ⟨k7, f7⟩, ⟨k8, f8⟩⟩ := h5
    go_wp2_with fail
    refine bodyPost_ret (v := .tuple #[.agg #[.int .i64 va.x, .int .i64 va.y, .int .i64 va.z], .agg #[.int .i64 vb.x, .int .i64 vb.y, .int .i64 vb.z], .agg #[.int .i64 vc.x, .int .i64 vc.y, .int .i64 vc.z]]) (by simp [results, Try.results59, go_sem, k0, k1, k2, k3, k4, k5, k6, k7, k8, f0, f1, f2, f3, f4, f5, f6, f7, f8]) rfl ⟨rfl, h1⟩

set_option maxHeartbeats 2000000 in
set_option maxRecDepth 100000 in
theorem normalRef_any (A : Option Addr) (c : Nat) (vs : List V3) (B : Option Addr) (m d : Nat) (f : Fc) (w : World) (hl : Sl w 0 A vs) (hf : vs.any farV = false) (hin : inF vs.length f = true) :
    Calls Try.prog 45 #[.agg #[.slice A vs.length c, .slice B m d], .agg #[.int .i64 f.a, .int .i64 f.b, .int .i64 f.c]] w fun e w' => e = .returned (.agg #[.int .i64 (normV vs f).x, .int .i64 (normV vs f).y, .int .i64 (normV vs f).z]) ∧ w.grownBy w' none := by
  have ba := atV_bd hf f.a
  have bb := atV_bd hf f.b
  have bc := atV_bd hf f.c
  have hN : Hid (normV vs f = crossV (lessV (atV vs f.b) (atV vs f.a)) (lessV (atV vs f.c) (atV vs f.a))) := rfl
  generalize normV vs f = N at *
  clear hf
  have hm := hl.1
  unfold maxLen at hm
  have hg0 := gr_alloc (gr_alloc (gr_alloc (World.grownBy.refl w none) (.cells #[.slice A vs.length c, .slice B m d] 29)) (.cells #[.int .i64 f.a, .int .i64 f.b, .int .i64 f.c] 67)) (.cells #[.int .i64 0, .int .i64 0, .int .i64 0] 49)
  have k0 : Cell (((w.alloc (.cells #[.slice A vs.length c, .slice B m d] 29)).alloc (.cells #[.int .i64 f.a, .int .i64 f.b, .int .i64 f.c] 67)).alloc (.cells #[.int .i64 0, .int .i64 0, .int .i64 0] 49)) (w.heap.size + 1 + 1) 0 (.int .i64 0) := ⟨by go_simp, by go_simp⟩
  have k1 : Cell (((w.alloc (.cells #[.slice A vs.length c, .slice B m d] 29)).alloc (.cells #[.int .i64 f.a, .int .i64 f.b, .int .i64 f.c] 67)).alloc (.cells #[.int .i64 0, .int .i64 0, .int .i64 0] 49)) (w.heap.size + 1 + 1) 1 (.int .i64 0) := ⟨by go_simp, by go_simp⟩
  have k2 : Cell (((w.alloc (.cells #[.slice A vs.length c, .slice B m d] 29)).alloc (.cells #[.int .i64 f.a, .int .i64 f.b, .int .i64 f.c] 67)).alloc (.cells #[.int .i64 0, .int .i64 0, .int .i64 0] 49)) (w.heap.size + 1 + 1) 2 (.int .i64 0) := ⟨by go_simp, by go_simp⟩
  go_enter Try.func45, Try.ntmps45
  go_wp2_with fail
  refine (corners_any A c vs B m d f _ (hl.pure hg0) hin).mono ?_
  rintro e w1 ⟨rfl, hg1⟩
  generalize atV vs f.a = va at *
  generalize atV vs f.b = vb at *
  generalize atV vs f.c = vc at *
  replace k0 := k0.gr hg1 (by simp)
  replace k1 := k1.gr hg1 (by simp)
  replace k2 := k2.gr hg1 (by simp)
  have hz := hg1.size
  simp at hz
  replace hg1 := gr_trans hg0 hg1
  clear hg0
  go_wp2_with fail
  obtain ⟨W, hW⟩ : ∃ W, W = ((w1.alloc (.cells #[.int .i64 va.x, .int .i64 va.y, .int .i64 va.z] 49)).alloc (.cells #[.int .i64 vb.x, .int .i64 vb.y, .int .i64 vb.z] 49)).alloc (.cells #[.int .i64 vc.x, .int .i64 vc.y, .int .i64 vc.z] 49) := ⟨_, rfl⟩
  have hg : w1.grownBy W none := by rw [hW]; exact (by repeat (first | exact World.grownBy.refl _ _ | assumption | refine gr_alloc ?_ _ | (apply gr_tail; assumption) | refine gr_drewN ?_ _ | refine gr_drew ?_))
  have b0 : W.cell? ⟨w1.heap.size, 0, none⟩ = some (.int .i64 va.x) := by rw [hW]; go_simp
  have b1 : W.cell? ⟨w1.heap.size, 1, none⟩ = some (.int .i64 va.y) := by rw [hW]; go_simp
  have b2 : W.cell? ⟨w1.heap.size, 2, none⟩ = some (.int .i64 va.z) := by rw [hW]; go_simp
  have b3 : W.cell? ⟨w1.heap.size + 1, 0, none⟩ = some (.int .i64 vb.x) := by rw [hW]; go_simp
  have b4 : W.cell? ⟨w1.heap.size + 1, 1, none⟩ = some (.int .i64 vb.y) := by rw [hW]; go_simp
  have b5 : W.cell? ⟨w1.heap.size + 1, 2, none⟩ = some (.int .i64 vb.z) := by rw [hW]; go_simp
  have b6 : W.cell? ⟨w1.heap.size + 1 + 1, 0, none⟩ = some (.int .i64 vc.x) := by rw [hW]; go_simp
  have b7 : W.cell? ⟨w1.heap.size + 1 + 1, 1, none⟩ = some (.int .i64 vc.y) := by rw [hW]; go_simp
  have b8 : W.cell? ⟨w1.heap.size + 1 + 1, 2, none⟩ = some (.int .i64 vc.z) := by rw [hW]; go_simp
  rw [← hW]
  clear hW
  refine wp_region_fix 7 ((fun wx => W.grownBy wx none)) (by kernel_rfl) (by kernel_rfl) (gr_drew (World.grownBy.refl _ _)) ?_
  simp only [List.take_succ_cons, List.take_zero, List.drop_succ_cons, List.drop_zero]
  iterate 2 ((refine fix_b (fun K hK => ?_); apply Exists.intro; refine ⟨fun wx hC K' hK' => ?_, ?_⟩; (focus (replace hK' := hide hK'; (have d0 := hC.k b0; have d1 := hC.k b1; have d2 := hC.k b2; have d3 := hC.k b3; have d4 := hC.k b4; have d5 := hC.k b5; have d6 := hC.k b6; have d7 := hC.k b7; have d8 := hC.k b8); go_wp2_with fail; exact hK'.out _ hC)); go_simp; refine hK _ ?_; clear hK K))
  (refine fix_b (fun K hK => ?_); apply Exists.intro; refine ⟨fun wx hC K' hK' => ?_, ?_⟩; (focus (replace hK' := hide hK'; skip; go_wp2_with fail; (refine (minus_any vb va _ (bb.mono (by decide)) (ba.mono (by decide))).mono ?_; rintro e w' ⟨rfl, hg'⟩; go_wp2_with fail; exact hK'.out _ (gr_trans hC hg')))); go_simp; refine hK _ ?_; clear hK K)
  iterate 2 ((refine fix_b (fun K hK => ?_); apply Exists.intro; refine ⟨fun wx hC K' hK' => ?_, ?_⟩; (focus (replace hK' := hide hK'; (have d0 := hC.k b0; have d1 := hC.k b1; have d2 := hC.k b2; have d3 := hC.k b3; have d4 := hC.k b4; have d5 := hC.k b5; have d6 := hC.k b6; have d7 := hC.k b7; have d8 := hC.k b8); go_wp2_with fail; exact hK'.out _ hC)); go_simp; refine hK _ ?_; clear hK K))
  (refine fix_b (fun K hK => ?_); apply Exists.intro; refine ⟨fun wx hC K' hK' => ?_, ?_⟩; (focus (replace hK' := hide hK'; skip; go_wp2_with fail; (refine (minus_any vc va _ (bc.mono (by decide)) (ba.mono (by decide))).mono ?_; rintro e w' ⟨rfl, hg'⟩; go_wp2_with fail; exact hK'.out _ (gr_trans hC hg')))); go_simp; refine hK _ ?_; clear hK K)
  (refine fix_b (fun K hK => ?_); apply Exists.intro; refine ⟨fun wx hC K' hK' => ?_, ?_⟩; (focus (replace hK' := hide hK'; skip; go_wp2_with fail; (refine (crossRef_any (lessV vb va) (lessV vc va) _ ((bb.less ba).mono (by decide)) ((bc.less ba).mono (by decide))).mono ?_; rintro e w' ⟨rfl, hg'⟩; go_wp2_with fail; exact hK'.out _ (gr_trans hC hg')))); go_simp; refine hK _ ?_; clear hK K)
  refine fix_nil ?_
  intro wz hC
  replace hC := gr_trans hg hC
  obtain ⟨k0, f0⟩ := k0.gr hC (by simp)
  obtain ⟨k1, f1⟩ := k1.gr hC (by simp)
  obtain ⟨k2, f2⟩ := k2.gr hC (by simp)
  go_wp2_with fail
  refine bodyPost_ret (v := .agg #[.int .i64 (crossV (lessV vb va) (lessV vc va)).x, .int .i64 (crossV (lessV vb va) (lessV vc va)).y, .int .i64 (crossV (lessV vb va) (lessV vc va)).z]) (by simp [results, Try.results45, go_sem, k0, k1, k2, f0, f1, f2]) rfl ⟨by rw [hN.out], ?_⟩
  repeat (first | exact gr_trans hg1 hC | refine gr_set ?_ (.inr (by simp only; omega)) _)

end Go.Proofs.Ytjodjdjfagjiaaa

namespace Go.Proofs.Ytjodjdjfagjiaaa
open Go.RowKit Go.Bl

def vecsF (vs : List V3) : Int := if vs.any farV then 1 else 0
theorem vecsF_no {l : List V3} (h : l.any farV = false) : vecsF l = 0 := by simp [vecsF, h]
theorem vecsF_yes {l : List V3} (h : l.any farV = true) : vecsF l = 1 := by simp [vecsF, h]
theorem anyV_snoc {l : List V3} {k : Nat} (h : k < l.length) : (l.take (k + 1)).any farV = ((l.take k).any farV || farV l[k]) := by rw [take_snoc h, List.any_append]; simp
theorem anyV_at {l : List V3} {k : Nat} (h : k < l.length) (hf : farV l[k] = true) : l.any farV = true := List.any_eq_true.2 ⟨_, List.getElem_mem _, hf⟩
theorem anyZ_snoc {l : List Int} {k : Nat} (h : k < l.length) : (l.take (k + 1)).any farZ = ((l.take k).any farZ || farZ l[k]) := by rw [take_snoc h, List.any_append]; simp
theorem anyZ_at {l : List Int} {k : Nat} (h : k < l.length) (hf : farZ l[k] = true) : l.any farZ = true := List.any_eq_true.2 ⟨_, List.getElem_mem _, hf⟩
theorem farZ_in (n : Int) : farZ n = !inB n (-100000) 100000 := by
  unfold farZ inB
  by_cases h1 : n < -100000 <;> by_cases h2 : 100000 < n <;> simp [h1, h2] <;> omega
def xyz (v : V3) : List Int := [v.x, v.y, v.z]
theorem farV_xyz (v : V3) : farV v = (xyz v).any farZ := by simp [farV, xyz, Bool.or_assoc]

theorem _root_.Go.Bl.Sl.int_at {w : World} {lo g o : Nat} {l : List Int} (h : Sl w lo (some ⟨g, o, none⟩) l) {k : Nat} (hk : k < l.length) : w.cell? ⟨g, o + k, none⟩ = some (.int .i64 l[k]) := by
  obtain ⟨g', o', c, e, _, _, rfl, hc⟩ := h.at_ (by decide) hk
  cases e
  have := hc 0 _ rfl
  rwa [show Enc.sz Int = 1 from rfl, Nat.mul_one] at this

set_option maxHeartbeats 800000 in
theorem vecFault_any (A : Option Addr) (c : Nat) (l : List V3) (w : World) (hl : Sl w 0 A l) :
    Calls Try.prog 43 #[.slice A l.length c] w fun e w' => e = .returned (.int .i64 (vecsF l)) ∧ w.grownBy w' none := by
  have hm := hl.1
  unfold maxLen at hm
  go_enter Try.func43, Try.ntmps43
  go_wp2
  go_loopw [9] (fun i wr => ∃ k : Nat, k ≤ l.length ∧ i = .int .i64 k ∧ w.grownBy wr none ∧ Hid ((l.take k).any farV = false)) (fun i _ => l.length - (intOf i).toNat)
  case atStart => exact ⟨0, Nat.zero_le _, rfl, World.grownBy.refl _ _, by simp [Hid]⟩
  case round =>
    obtain ⟨k, hk, rfl, hg, hall⟩ := hrel
    by_cases hlt : k < l.length
    · obtain ⟨g, o, cx, rfl, hb0, hb1, rfl, hc⟩ := (hl.pure hg).at_ (by decide) hlt
      have v0 : wr.cell? ⟨g, o + k * 3, none⟩ = some (.int .i64 l[k].x) := hc 0 _ rfl
      have v1 : wr.cell? ⟨g, o + k * 3 + 1, none⟩ = some (.int .i64 l[k].y) := hc 1 _ rfl
      have v2 : wr.cell? ⟨g, o + k * 3 + 2, none⟩ = some (.int .i64 l[k].z) := hc 2 _ rfl
      clear hc
      have HF := hide (farV_xyz l[k])
      have HS := hide (anyV_snoc hlt)
      have HA : Hid (farV l[k] = true → l.any farV = true) := anyV_at hlt
      have hx : Hid (xyz l[k] = [l[k].x, l[k].y, l[k].z]) := rfl
      generalize l[k] = v at *
      go_wp2_with fail
      have hq : Sl ((wr.alloc (.cells #[.int .i64 v.x, .int .i64 v.y, .int .i64 v.z] 49)).alloc (.cells #[.int .i64 v.x, .int .i64 v.y, .int .i64 v.z] 3)) 0 (some ⟨wr.heap.size + 1, 0, none⟩) (xyz v) := by
        rw [hx.out]; exact sl_intsAt _ _ _ _ _ (by simp) (Nat.zero_le _) (by simp [maxLen])
      have hgq := gr_alloc (gr_alloc hg (.cells #[.int .i64 v.x, .int .i64 v.y, .int .i64 v.z] 49)) (.cells #[.int .i64 v.x, .int .i64 v.y, .int .i64 v.z] 3)
      have hl3 : (xyz v).length = 3 := rfl
      clear hx v0 v1 v2
      generalize xyz v = q at *
      generalize hW : (wr.alloc (.cells #[.int .i64 v.x, .int .i64 v.y, .int .i64 v.z] 49)).alloc (.cells #[.int .i64 v.x, .int .i64 v.y, .int .i64 v.z] 3) = W at *
      have hWW := World.grownBy.refl W none
      clear hW
      go_loopw [21] (fun i wr => ∃ j : Nat, j ≤ 3 ∧ i = .int .i64 j ∧ w.grownBy wr none ∧ W.grownBy wr none ∧ Hid ((q.take j).any farZ = false)) (fun i _ => 3 - (intOf i).toNat)
      case atStart => exact ⟨0, by omega, rfl, hgq, hWW, by simp [Hid]⟩
      case round =>
        obtain ⟨j, hj, rfl, hgr, hgW, hall2⟩ := hrel
        by_cases hjt : j < 3
        · have c0 := (hq.pure hgW).int_at (show j < q.length by omega)
          rw [Nat.zero_add] at c0
          have HS2 := hide (anyZ_snoc (show j < q.length by omega))
          have HA2 : Hid (farZ (q[j]'(by omega)) = true → q.any farZ = true) := anyZ_at (show j < q.length by omega)
          have HI := hide (farZ_in (q[j]'(by omega)))
          go_wp2_with (go_at_call 44; refine (in_any _ _ _ _).mono ?_; rintro e w' ⟨rfl, rfl⟩)
          all_goals first
            | (go_ret; exact ⟨ret_int (vecsF_yes (HA.out (by rw [HF.out]; exact HA2.out (by rw [HI.out]; simp [*])))).symm, (by repeat (first | exact World.grownBy.refl _ _ | assumption | refine gr_alloc ?_ _ | refine gr_drewN ?_ _ | refine gr_drew ?_))⟩)
            | (go_roundw; (case rel => exact ⟨j + 1, by omega, by go_num, (by repeat (first | exact World.grownBy.refl _ _ | assumption | refine gr_alloc ?_ _ | refine gr_drewN ?_ _ | refine gr_drew ?_)), (by repeat (first | exact World.grownBy.refl _ _ | assumption | refine gr_alloc ?_ _ | refine gr_drewN ?_ _ | refine gr_drew ?_)), by simp only [Hid]; rw [HS2.out, hall2.out, HI.out]; simp [*]⟩); (case measure => simp [intOf]; omega))
        · have HN : Hid (farV v = false) := by rw [Hid, HF.out]; have := hall2.out; rwa [List.take_of_length_le (by omega)] at this
          have hj3 : j = 3 := by omega
          subst hj3
          go_wp2
          (go_roundw; (case rel => exact ⟨k + 1, by omega, by go_num, hgr, by simp only [Hid]; rw [HS.out, hall.out, HN.out]; rfl⟩); (case measure => simp [intOf]; omega))
    · have HB : Hid (vecsF l = 0) := vecsF_no (by have := hall.out; rwa [List.take_of_length_le (by omega)] at this)
      go_wp2
      go_ret
      exact ⟨ret_int HB.out.symm, hg⟩

end Go.Proofs.Ytjodjdjfagjiaaa

namespace Go.Proofs.Ytjodjdjfagjiaaa
open Go.RowKit Go.Bl

def abc (f : Fc) : List Int := [f.a, f.b, f.c]
theorem inF_abc (n : Nat) (f : Fc) : inF n f = (abc f).all (inI n) := by simp [inF, abc, Bool.and_assoc]
theorem allI_snoc {n : Nat} {l : List Int} {k : Nat} (h : k < l.length) : (l.take (k + 1)).all (inI n) = ((l.take k).all (inI n) && inI n l[k]) := by rw [take_snoc h, List.all_append]; simp
theorem allI_not {n : Nat} {l : List Int} {k : Nat} (h : k < l.length) (hf : inI n l[k] = false) : l.all (inI n) = false := by
  rw [List.all_eq_false]; exact ⟨_, List.getElem_mem h, by simp [hf]⟩
theorem faceF_out {l : List V3} {f : Fc} (h : inF l.length f = false) : faceF l f = 8 := by unfold faceF; rw [h]; rfl
theorem faceF_flat {l : List V3} {f : Fc} (h : inF l.length f = true) (h2 : normV l f = ⟨0, 0, 0⟩) : faceF l f = 3 := by unfold faceF; rw [h, if_pos rfl, if_pos h2]
theorem faceF_ok {l : List V3} {f : Fc} (h : inF l.length f = true) (h2 : normV l f ≠ ⟨0, 0, 0⟩) : faceF l f = 0 := by unfold faceF; rw [h, if_pos rfl, if_neg h2]
theorem v3_zero (v : V3) : v = ⟨0, 0, 0⟩ ↔ v.x = 0 ∧ v.y = 0 ∧ v.z = 0 := by cases v; simp

set_option maxHeartbeats 2000000 in
theorem faceFault_any (A : Option Addr) (c : Nat) (l : List V3) (B : Option Addr) (m d : Nat) (f : Fc) (w : World) (hl : Sl w 0 A l) (hf : l.any farV = false) :
    Calls Try.prog 92 #[.agg #[.slice A l.length c, .slice B m d], .agg #[.int .i64 f.a, .int .i64 f.b, .int .i64 f.c]] w fun e w' => e = .returned (.int .i64 (faceF l f)) ∧ w.grownBy w' none := by
  have hm := hl.1
  unfold maxLen at hm
  have hx : Hid (abc f = [f.a, f.b, f.c]) := rfl
  have hF := hide (inF_abc l.length f)
  go_enter Try.func92, Try.ntmps92
  go_wp2_with fail
  have hq : Sl (((w.alloc (.cells #[.slice A l.length c, .slice B m d] 29)).alloc (.cells #[.int .i64 f.a, .int .i64 f.b, .int .i64 f.c] 67)).alloc (.cells #[.int .i64 f.a, .int .i64 f.b, .int .i64 f.c] 3)) 0 (some ⟨w.heap.size + 1 + 1, 0, none⟩) (abc f) := by
    rw [hx.out]; exact sl_intsAt _ _ _ _ _ (by simp) (Nat.zero_le _) (by simp [maxLen])
  have hgq := gr_alloc (gr_alloc (gr_alloc (World.grownBy.refl w none) (.cells #[.slice A l.length c, .slice B m d] 29)) (.cells #[.int .i64 f.a, .int .i64 f.b, .int .i64 f.c] 67)) (.cells #[.int .i64 f.a, .int .i64 f.b, .int .i64 f.c] 3)
  have b0 : (((w.alloc (.cells #[.slice A l.length c, .slice B m d] 29)).alloc (.cells #[.int .i64 f.a, .int .i64 f.b, .int .i64 f.c] 67)).alloc (.cells #[.int .i64 f.a, .int .i64 f.b, .int .i64 f.c] 3)).cell? ⟨w.heap.size, 0, none⟩ = some (.slice A l.length c) := by go_simp
  have b1 : (((w.alloc (.cells #[.slice A l.length c, .slice B m d] 29)).alloc (.cells #[.int .i64 f.a, .int .i64 f.b, .int .i64 f.c] 67)).alloc (.cells #[.int .i64 f.a, .int .i64 f.b, .int .i64 f.c] 3)).cell? ⟨w.heap.size, 1, none⟩ = some (.slice B m d) := by go_simp
  have b2 : (((w.alloc (.cells #[.slice A l.length c, .slice B m d] 29)).alloc (.cells #[.int .i64 f.a, .int .i64 f.b, .int .i64 f.c] 67)).alloc (.cells #[.int .i64 f.a, .int .i64 f.b, .int .i64 f.c] 3)).cell? ⟨w.heap.size + 1, 0, none⟩ = some (.int .i64 f.a) := by go_simp
  have b3 : (((w.alloc (.cells #[.slice A l.length c, .slice B m d] 29)).alloc (.cells #[.int .i64 f.a, .int .i64 f.b, .int .i64 f.c] 67)).alloc (.cells #[.int .i64 f.a, .int .i64 f.b, .int .i64 f.c] 3)).cell? ⟨w.heap.size + 1, 1, none⟩ = some (.int .i64 f.b) := by go_simp
  have b4 : (((w.alloc (.cells #[.slice A l.length c, .slice B m d] 29)).alloc (.cells #[.int .i64 f.a, .int .i64 f.b, .int .i64 f.c] 67)).alloc (.cells #[.int .i64 f.a, .int .i64 f.b, .int .i64 f.c] 3)).cell? ⟨w.heap.size + 1, 2, none⟩ = some (.int .i64 f.c) := by go_simp
  have hl3 : (abc f).length = 3 := rfl
  clear hx
  generalize hqq : abc f = q at *
  clear hqq
  generalize ((w.alloc (.cells #[.slice A l.length c, .slice B m d] 29)).alloc (.cells #[.int .i64 f.a, .int .i64 f.b, .int .i64 f.c] 67)).alloc (.cells #[.int .i64 f.a, .int .i64 f.b, .int .i64 f.c] 3) = W at *
  have hWW := World.grownBy.refl W none
  go_loopw [15] (fun i wr => ∃ j : Nat, j ≤ 3 ∧ i = .int .i64 j ∧ w.grownBy wr none ∧ W.grownBy wr none ∧ Hid ((q.take j).all (inI l.length) = true)) (fun i _ => 3 - (intOf i).toNat)
  case atStart => exact ⟨0, by omega, rfl, hgq, hWW, by simp [Hid]⟩
  case round =>
    obtain ⟨j, hj, rfl, hgr, hgW, hall⟩ := hrel
    replace b0 := hgW.k b0
    replace b1 := hgW.k b1
    replace b2 := hgW.k b2
    replace b3 := hgW.k b3
    replace b4 := hgW.k b4
    by_cases hjt : j < 3
    · have c0 := (hq.pure hgW).int_at (show j < q.length by omega)
      rw [Nat.zero_add] at c0
      have HS := hide (allI_snoc (n := l.length) (show j < q.length by omega))
      have HA : Hid (inI l.length (q[j]'(by omega)) = false → q.all (inI l.length) = false) := allI_not (show j < q.length by omega)
      have HI : Hid (inI l.length (q[j]'(by omega)) = (decide (0 ≤ q[j]'(by omega)) && decide (q[j]'(by omega) < l.length))) := rfl
      have hFo : Hid (inF l.length f = false → faceF l f = 8) := faceF_out
      clear hf
      go_wp2
      all_goals first
        | (go_ret; exact ⟨ret_int (hFo.out (by rw [hF.out]; exact HA.out (by rw [HI.out]; simp; omega))).symm, (by repeat (first | exact World.grownBy.refl _ _ | assumption | refine gr_alloc ?_ _ | refine gr_drewN ?_ _ | refine gr_drew ?_))⟩)
        | (go_roundw; (case rel => exact ⟨j + 1, by omega, by go_num, (by repeat (first | exact World.grownBy.refl _ _ | assumption | refine gr_alloc ?_ _ | refine gr_drewN ?_ _ | refine gr_drew ?_)), (by repeat (first | exact World.grownBy.refl _ _ | assumption | refine gr_alloc ?_ _ | refine gr_drewN ?_ _ | refine gr_drew ?_)), by simp only [Hid]; rw [HS.out, hall.out, HI.out]; simp; omega⟩); (case measure => simp [intOf]; omega))
    · have hin : inF l.length f = true := by rw [hF.out]; have := hall.out; rwa [List.take_of_length_le (by omega)] at this
      have hin2 := hide hin
      have hf2 := hide hf
      have HE : Hid (f.a = f.b ∨ f.b = f.c ∨ f.c = f.a → faceF l f = 3) := fun h => faceF_flat hin (norm_eq h)
      have HZ : Hid ((normV l f).x = 0 ∧ (normV l f).y = 0 ∧ (normV l f).z = 0 → faceF l f = 3) := fun h => faceF_flat hin ((v3_zero _).2 h)
      have HO : Hid (¬ ((normV l f).x = 0 ∧ (normV l f).y = 0 ∧ (normV l f).z = 0) → faceF l f = 0) := fun h => faceF_ok hin (fun e => h ((v3_zero _).1 e))
      clear hin hf
      have hj3 : j = 3 := by omega
      subst hj3
      go_wp2_with (go_at_call 51; refine (normalOf_any A c l B m d f _ (hl.pure (by repeat (first | exact World.grownBy.refl _ _ | assumption | refine gr_alloc ?_ _ | refine gr_drewN ?_ _ | refine gr_drew ?_))) hf2.out hin2.out).mono ?_; rintro e w' ⟨rfl, hg'⟩; generalize normV l f = N at *)
      all_goals first
        | (go_ret; exact ⟨ret_int (HE.out (by omega)).symm, (by repeat (first | exact World.grownBy.refl _ _ | assumption | refine gr_alloc ?_ _ | (apply gr_tail; assumption) | refine gr_drewN ?_ _ | refine gr_drew ?_))⟩)
        | (go_ret; exact ⟨ret_int (HZ.out (by omega)).symm, (by repeat (first | exact World.grownBy.refl _ _ | assumption | refine gr_alloc ?_ _ | (apply gr_tail; assumption) | refine gr_drewN ?_ _ | refine gr_drew ?_))⟩)
        | (exfalso; rename_i h; simp [*] at h; done)
        | (go_ret; exact ⟨ret_int (HO.out (by omega)).symm, (by repeat (first | exact World.grownBy.refl _ _ | assumption | refine gr_alloc ?_ _ | (apply gr_tail; assumption) | refine gr_drewN ?_ _ | refine gr_drew ?_))⟩)
        | trace_state

end Go.Proofs.Ytjodjdjfagjiaaa

namespace Go.Proofs.Ytjodjdjfagjiaaa
open Go.RowKit Go.Bl

theorem _root_.Go.Bl.sl_litAt {α : Type} [Enc α] (w : World) (lo : Nat) (cs : List Value) (t : TypeId) (l : List α) (g : Nat) (hg : g = w.heap.size) (hlo : lo ≤ w.heap.size) (hm : l.length ≤ maxLen) (hr : Row (w.alloc (.cells cs.toArray t)) lo l cs) :
    Sl (w.alloc (.cells cs.toArray t)) lo (some ⟨g, 0, none⟩) l := by
  subst hg
  exact sl_lit w lo cs t l hlo hm hr

set_option maxHeartbeats 800000 in
theorem sides_any (f : Fc) (w : World) :
    Calls Try.prog 93 #[.agg #[.int .i64 f.a, .int .i64 f.b, .int .i64 f.c]] w fun e w' => e = .returned (.agg #[.int .i64 f.a, .int .i64 f.b, .int .i64 f.b, .int .i64 f.c, .int .i64 f.c, .int .i64 f.a]) ∧ w.grownBy w' none := by
  go_enter Try.func93, Try.ntmps93
  go_wp2_with fail
  refine bodyPost_ret (v := .agg #[.int .i64 f.a, .int .i64 f.b, .int .i64 f.b, .int .i64 f.c, .int .i64 f.c, .int .i64 f.a]) (by simp [results, Try.results93, go_sem]) rfl ⟨rfl, (by repeat (first | exact World.grownBy.refl _ _ | assumption | refine gr_alloc ?_ _ | (apply gr_tail; assumption) | refine gr_drewN ?_ _ | refine gr_drew ?_))⟩

set_option maxHeartbeats 800000 in
theorem sidesOf_any (f : Fc) (w : World) :
    Calls Try.prog 46 #[.agg #[.int .i64 f.a, .int .i64 f.b, .int .i64 f.c]] w fun e w' => ∃ A, e = .returned (.slice A 3 3) ∧ Sl w' w.heap.size A (sdsOf f) ∧ w.grownBy w' none := by
  go_enter Try.func46, Try.ntmps46
  go_wp2_with fail
  go_ret
  exact ⟨_, rfl, sl_litAt _ _ _ _ _ _ (by simp) (by simp) (by simp [sdsOf, maxLen]) ⟨_, _, rfl, rfl, _, _, rfl, rfl, _, _, rfl, rfl, rfl⟩, (by repeat (first | exact World.grownBy.refl _ _ | assumption | refine gr_alloc ?_ _ | (apply gr_tail; assumption) | refine gr_drewN ?_ _ | refine gr_drew ?_))⟩

theorem notin_snoc {l : List Sd} {s : Sd} {k : Nat} (h : k < l.length) (h1 : s ∉ l.take k) (h2 : s ≠ l[k]) : s ∉ l.take (k + 1) := by
  rw [take_snoc h, List.mem_append]
  rintro (e | e)
  · exact h1 e
  · exact h2 (List.mem_singleton.1 e)

set_option maxHeartbeats 800000 in
theorem indexSide_any (A : Option Addr) (c : Nat) (l : List Sd) (s : Sd) (w : World) (hl : Sl w 0 A l) :
    Calls Try.prog 91 #[.slice A l.length c, .agg #[.int .i64 s.u, .int .i64 s.v]] w fun e w' => ∃ r : Int, e = .returned (.int .i64 r) ∧ decide (0 ≤ r) = decide (s ∈ l) ∧ w.grownBy w' none := by
  have hm := hl.1
  unfold maxLen at hm
  have hg0 := gr_alloc (World.grownBy.refl w none) (.cells #[.int .i64 s.u, .int .i64 s.v] 79)
  have b0 := hide ((Cell.new w [.int .i64 s.u, .int .i64 s.v] 79 0 _ rfl _ rfl).1)
  have b1 := hide ((Cell.new w [.int .i64 s.u, .int .i64 s.v] 79 1 _ rfl _ rfl).1)
  go_enter Try.func91, Try.ntmps91
  go_wp2_with fail
  generalize w.alloc (.cells #[.int .i64 s.u, .int .i64 s.v] 79) = W at *
  have hWW := World.grownBy.refl W none
  go_loopw [8] (fun i wr => ∃ k : Nat, k ≤ l.length ∧ i = .int .i64 k ∧ w.grownBy wr none ∧ W.grownBy wr none ∧ Hid (s ∉ l.take k)) (fun i _ => l.length - (intOf i).toNat)
  case atStart => exact ⟨0, Nat.zero_le _, rfl, hg0, hWW, by simp [Hid]⟩
  case round =>
    obtain ⟨k, hk, rfl, hg, hgW, hall⟩ := hrel
    replace b0 := hgW.k b0.out
    replace b1 := hgW.k b1.out
    by_cases hlt : k < l.length
    · obtain ⟨g, o, cx, rfl, hb0, hb1, rfl, hc⟩ := (hl.pure hg).at_ (by decide) hlt
      have v0 : wr.cell? ⟨g, o + k * 2, none⟩ = some (.int .i64 l[k].u) := hc 0 _ rfl
      have v1 : wr.cell? ⟨g, o + k * 2 + 1, none⟩ = some (.int .i64 l[k].v) := hc 1 _ rfl
      clear hc
      have HI : Hid (l[k].u = s.u → l[k].v = s.v → s ∈ l) := fun h1 h2 => by
        have : s = l[k] := by cases hh : l[k]; cases s; simp_all
        rw [this]; exact List.getElem_mem _
      have HN : Hid (¬ (s.u = l[k].u ∧ s.v = l[k].v) → s ∉ l.take (k + 1)) := fun h => notin_snoc hlt hall.out (fun e => h (by rw [e]; exact ⟨rfl, rfl⟩))
      generalize l[k] = y at *
      go_wp2_with fail
      refine wp_region_fix 5 ((fun wx => wr.grownBy wx none)) (by kernel_rfl) (by kernel_rfl) (gr_drew (World.grownBy.refl _ _)) ?_
      simp only [List.take_succ_cons, List.take_zero, List.drop_succ_cons, List.drop_zero]
      iterate 5 ((refine fix_b (fun K hK => ?_); apply Exists.intro; refine ⟨fun wx hC K' hK' => ?_, ?_⟩; (focus (replace hK' := hide hK'; (have c0 := hC.k b0; have c1 := hC.k b1; have c2 := hC.k v0; have c3 := hC.k v1); go_wp2_with fail; exact hK'.out _ hC)); go_simp; refine hK _ ?_; clear hK K))
      refine fix_nil ?_
      intro wz hC
      replace hg := gr_trans hg hC
      replace hgW := gr_trans hgW hC
      obtain ⟨su, sv⟩ := s
      obtain ⟨yu, yv⟩ := y
      simp only at *
      by_cases h1 : su = yu
      · subst h1
        by_cases h2 : sv = yv
        · subst h2
          go_wp2
          go_ret
          exact ⟨k, rfl, by have hX := HI.out trivial trivial; simp [hX], hg⟩
        · go_wp2
          go_roundw
          case rel => exact ⟨k + 1, by omega, by go_num, hg, hgW, HN.out (fun h => h2 h.2)⟩
          case measure => simp [intOf]; omega
      · go_wp2
        go_roundw
        case rel => exact ⟨k + 1, by omega, by go_num, hg, hgW, HN.out (fun h => h1 h.1)⟩
        case measure => simp [intOf]; omega
    · have HB : s ∉ l := by have := hall.out; rwa [List.take_of_length_le (by omega)] at this
      go_wp2
      go_ret
      exact ⟨-1, rfl, by simp [HB], hg⟩

set_option maxHeartbeats 800000 in
theorem containsSide_any (A : Option Addr) (n c : Nat) (l : List Sd) (s : Sd) (w : World) (hl : Sl w 0 A l) (hn : l.length = n) :
    Calls Try.prog 47 #[.slice A n c, .agg #[.int .i64 s.u, .int .i64 s.v]] w fun e w' => e = .returned (.bool (decide (s ∈ l))) ∧ w.grownBy w' none := by
  subst hn
  have hg0 := gr_alloc (World.grownBy.refl w none) (.cells #[.int .i64 s.u, .int .i64 s.v] 79)
  go_enter Try.func47, Try.ntmps47
  go_wp2_with fail
  refine (indexSide_any A c l s _ (hl.pure hg0)).mono ?_
  rintro e w1 ⟨r, rfl, hr, hg⟩
  replace hr := hide hr
  go_wp2_with fail
  go_ret
  exact ⟨ret_bool hr.out, gr_trans hg0 hg⟩

end Go.Proofs.Ytjodjdjfagjiaaa

namespace Go.Bl
open Go Go.RowKit Go.WideShapes Go.Maps

/-- how the keys and the elements of a kind of map lie in memory, and how they are read -/
structure MapTy (P : Program) (α β : Type) where
  k : TypeId
  e : TypeId
  kv : α → Value
  ok : α → Prop
  kl : α → Lit
  keyed : Keyed P k
  key : ∀ x, ok x → keyOf P k (kv x) = some (kl x)
  kinj : ∀ x y, kv x = kv y → x = y
  inv : ∀ v l, keyOf P k v = some l → ∃ x, v = kv x ∧ ok x
  ev : β → Value
  okE : β → Prop
  el : β → DataW Unit
  zero : β
  okZ : okE zero
  plain : ∀ b, okE b → plainElem P e (ev b) = some (el b, [])
  einv : ∀ v z, plainElem P e v = some z → ∃ b, v = ev b ∧ okE b ∧ z = (el b, [])
  einj : ∀ a b, el a = el b → a = b

variable {P : Program} {α β : Type}

theorem MapTy.litKey (M : MapTy P α β) {x : α} (hx : M.ok x) : WideAt.IsKeyLit (M.kl x) := M.keyed.key (M.key x hx)
theorem MapTy.klinj (M : MapTy P α β) {x y : α} (hx : M.ok x) (hy : M.ok y) (h : M.kl x = M.kl y) : x = y :=
  M.kinj _ _ (M.keyed.inj (M.key x hx) (h ▸ M.key y hy))

/-- block b of w is a map of at most n entries that holds m -/
def MapOf (M : MapTy P α β) (w : World) (b n : Nat) (m : α → Option β) : Prop :=
  ∃ D : DataW Unit, w.ownsMap P M.k (plainElem P M.e) b n D ∧ ∀ x, M.ok x → (∀ y, m x = some y → M.okE y) ∧ ∀ zd, D.atKey (M.kl x) zd = ((m x).map M.el).getD zd

section
variable {M : MapTy P α β} {w w' : World} {b n : Nat} {m : α → Option β}

theorem MapOf.made (M : MapTy P α β) (w : World) : MapOf M (w.alloc (.map #[] 0)) w.heap.size 0 (fun _ => none) :=
  ⟨.map [], World.ownsMap_made w P M.k _, fun x _ => ⟨fun y e => by simp at e, fun zd => atKey_of_not_has rfl zd⟩⟩
theorem MapOf.lt (h : MapOf M w b n m) : b < w.heap.size := let ⟨_, h1, _⟩ := h; h1.lt
theorem MapOf.kept {row : Option Nat} (h : MapOf M w b n m) (hg : w.grownBy w' row) (hne : row ≠ some b) : MapOf M w' b n m := let ⟨D, h1, h2⟩ := h; ⟨D, h1.kept hg (fun e => hne e.symm), h2⟩
theorem MapOf.mono {n' : Nat} (h : MapOf M w b n m) (hn : n ≤ n') : MapOf M w b n' m := let ⟨D, h1, h2⟩ := h; ⟨D, h1.mono hn, h2⟩
theorem MapOf.congr {m' : α → Option β} (h : MapOf M w b n m) (hm : ∀ x, M.ok x → m' x = m x) : MapOf M w b n m' :=
  let ⟨D, h1, h2⟩ := h; ⟨D, h1, fun x hx => by rw [hm x hx]; exact h2 x hx⟩

theorem MapOf.look {t : TypeId} (h : MapOf M w b n m) (ht : P.underlying t = some (.map M.k M.e)) (hz : (zeroValue M.e).run P w = .ok (M.ev M.zero) w) {x : α} (hx : M.ok x) :
    (Instr.lookup t (.map (some b)) (M.kv x) false).run P w = .ok (M.ev ((m x).getD M.zero)) w := by
  obtain ⟨D, h1, h2⟩ := h
  obtain ⟨v, ps, hrun, hv⟩ := h1.lookup M.keyed ht hz (M.plain _ M.okZ) (M.key x hx)
  obtain ⟨c, rfl, _, hc⟩ := M.einv _ _ hv
  simp only [Prod.mk.injEq] at hc
  rw [(h2 x hx).2] at hc
  have e : M.el ((m x).getD M.zero) = M.el c := by
    rw [← hc.1]
    cases m x <;> rfl
  rw [M.einj _ _ e]
  exact hrun

theorem MapOf.has (h : MapOf M w b n m) {x : α} (hx : M.ok x) (D : DataW Unit) (hD : ∀ zd, D.atKey (M.kl x) zd = ((m x).map M.el).getD zd) : Maps.has D (M.kl x) = (m x).isSome := by
  cases hm : m x with
  | none => simp only [hm, Option.map_none, Option.getD_none] at hD; simp [has_false_of_atKey hD]
  | some y => simp only [hm, Option.map_some, Option.getD_some] at hD; simp [has_true_of_atKey hD]

theorem MapOf.lookOk {t : TypeId} (h : MapOf M w b n m) (ht : P.underlying t = some (.map M.k M.e)) (hz : (zeroValue M.e).run P w = .ok (M.ev M.zero) w) {x : α} (hx : M.ok x) :
    (Instr.lookup t (.map (some b)) (M.kv x) true).run P w = .ok (.tuple #[M.ev ((m x).getD M.zero), .bool (m x).isSome]) w := by
  have hh := h
  obtain ⟨D, h1, h2⟩ := h
  obtain ⟨v, ps, hrun, hv⟩ := h1.look_ok M.keyed ht hz (M.plain _ M.okZ) (M.key x hx)
  obtain ⟨c, rfl, _, hc⟩ := M.einv _ _ hv
  simp only [Prod.mk.injEq] at hc
  rw [(h2 x hx).2] at hc
  have e : M.el ((m x).getD M.zero) = M.el c := by
    rw [← hc.1]
    cases m x <;> rfl
  rw [M.einj _ _ e, ← hh.has hx D (h2 x hx).2]
  exact hrun

theorem MapOf.store [DecidableEq α] {t : TypeId} (h : MapOf M w b n m) (ht : P.underlying t = some (.map M.k M.e)) (hn : n < maxLen) {x : α} (hx : M.ok x) {y : β} (hy : M.okE y) :
    ∃ w', (Instr.mapUpdate t (.map (some b)) (M.kv x) (M.ev y)).run P w = .ok () w' ∧ MapOf M w' b (n + 1) (fun z => if z = x then some y else m z) ∧ w.grownBy w' (some b) := by
  obtain ⟨D, h1, h2⟩ := h
  have hD := h1.isMap
  obtain ⟨w', hrun, h3, h4⟩ := h1.update M.keyed ht hn (M.key x hx) (M.plain y hy)
  refine ⟨w', hrun, ⟨_, h3, fun z hz => ?_⟩, h4⟩
  by_cases e : z = x
  · subst e
    simp only [if_true]
    exact ⟨fun y' e => by cases e; exact hy, fun zd => by rw [atKey_put_same hD (M.litKey hz)]; rfl⟩
  · simp only [e, if_false]
    exact ⟨(h2 z hz).1, fun zd => by rw [atKey_put_other (fun e' => e (M.klinj hz hx e'))]; exact (h2 z hz).2 zd⟩

/-- a range over the map, under way: S are the keys still to come, cnt how many -/
def RangeOf (M : MapTy P α β) (w : World) (b r n : Nat) (m : α → Option β) (S : α → Prop) (cnt : Nat) : Prop :=
  ∃ (D : DataW Unit) (left : Lit → Bool), w.ranges P M.k (plainElem P M.e) b r n D left cnt ∧ (∀ x, M.ok x → (∀ y, m x = some y → M.okE y) ∧ ∀ zd, D.atKey (M.kl x) zd = ((m x).map M.el).getD zd) ∧ ∀ x, M.ok x → (left (M.kl x) = true ↔ S x)
variable {r cnt : Nat} {S : α → Prop}
theorem RangeOf.map (h : RangeOf M w b r n m S cnt) : MapOf M w b n m := let ⟨D, _, h1, h2, _⟩ := h; ⟨D, h1.owns, h2⟩
theorem RangeOf.left (h : RangeOf M w b r n m S cnt) : w.rangeLeft b r = cnt := let ⟨_, _, h1, _, _⟩ := h; h1.left_eq
theorem RangeOf.ne (h : RangeOf M w b r n m S cnt) : r ≠ b := let ⟨_, _, h1, _, _⟩ := h; h1.ne
theorem RangeOf.lt (h : RangeOf M w b r n m S cnt) : r < w.heap.size := let ⟨_, _, h1, _, _⟩ := h; h1.lt
theorem RangeOf.kept {row : Option Nat} (h : RangeOf M w b r n m S cnt) (hg : w.grownBy w' row) (h1 : row ≠ some b) (h2 : row ≠ some r) : RangeOf M w' b r n m S cnt :=
  let ⟨D, l, h3, h4, h5⟩ := h; ⟨D, l, h3.kept hg (fun e => h1 e.symm) (fun e => h2 e.symm), h4, h5⟩
theorem RangeOf.congr {S' : α → Prop} (h : RangeOf M w b r n m S cnt) (hS : ∀ x, M.ok x → (S x ↔ S' x)) : RangeOf M w b r n m S' cnt :=
  let ⟨D, l, h3, h4, h5⟩ := h; ⟨D, l, h3, h4, fun x hx => (h5 x hx).trans (hS x hx)⟩
end

section
variable (w : World) {ops : Array Oper} {rest : List Oper} {o : Oper} {a : Act} {Q : Exit → Act → World → Prop}

theorem wpList_lookup_M (M : MapTy P α β) (hg : o.guard = none) (mo x : Operand) (t : TypeId) (hop : o.op = Op.lookup t mo x false)
    (ht : P.underlying t = some (.map M.k M.e)) (hz : (zeroValue M.e).run P w = .ok (M.ev M.zero) w) (b n : Nat) (m : α → Option β) (hm : a.eval mo = .map (some b)) (hown : MapOf M w b n m) (key : α) (hx : a.eval x = M.kv key) (hok : M.ok key)
    (hK : wpList P ops Q rest (a.put o.dst (M.ev ((m key).getD M.zero))) w) :
    wpList P ops Q (o :: rest) a w := by
  refine wpList_plain hg fun K' hK' => ?_
  unfold Oper.wp
  simp [execOp, hop, hm, hx, hown.look ht hz hok, Result.andThen]
  exact hK' _ _ hK

theorem wpList_lookupOk_M (M : MapTy P α β) (hg : o.guard = none) (mo x : Operand) (t : TypeId) (hop : o.op = Op.lookup t mo x true)
    (ht : P.underlying t = some (.map M.k M.e)) (hz : (zeroValue M.e).run P w = .ok (M.ev M.zero) w) (b n : Nat) (m : α → Option β) (hm : a.eval mo = .map (some b)) (hown : MapOf M w b n m) (key : α) (hx : a.eval x = M.kv key) (hok : M.ok key)
    (hK : wpList P ops Q rest (a.put o.dst (.tuple #[M.ev ((m key).getD M.zero), .bool (m key).isSome])) w) :
    wpList P ops Q (o :: rest) a w := by
  refine wpList_plain hg fun K' hK' => ?_
  unfold Oper.wp
  simp [execOp, hop, hm, hx, hown.lookOk ht hz hok, Result.andThen]
  exact hK' _ _ hK

theorem wpList_store_M [DecidableEq α] (M : MapTy P α β) (hg : o.guard = none) (mo x v : Operand) (t : TypeId) (hop : o.op = Op.mapUpdate t mo x v)
    (ht : P.underlying t = some (.map M.k M.e)) (b n : Nat) (m : α → Option β) (hm : a.eval mo = .map (some b)) (hown : MapOf M w b n m) (hn : n < maxLen) (key : α) (y : β) (hx : a.eval x = M.kv key) (hv : a.eval v = M.ev y) (hok : M.ok key) (hy : M.okE y)
    (hK : ∀ w', MapOf M w' b (n + 1) (fun z => if z = key then some y else m z) → w.grownBy w' (some b) → wpList P ops Q rest (a.put o.dst undef) w') :
    wpList P ops Q (o :: rest) a w := by
  refine wpList_plain hg fun K' hK' => ?_
  obtain ⟨w', hrun, h1, h2⟩ := hown.store ht hn hok hy
  unfold Oper.wp
  simp [execOp, hop, hm, hx, hv, hrun, Result.andThen]
  exact hK' _ _ (hK w' h1 h2)

theorem wpList_range_M (M : MapTy P α β) (hg : o.guard = none) (mo : Operand) (t : TypeId) (hop : o.op = Op.range t mo) (ht : P.underlying t = some (.map M.k M.e)) (b n : Nat) (m : α → Option β) (hm : a.eval mo = .map (some b)) (hown : MapOf M w b n m)
    (hK : ∀ w' cnt, RangeOf M w' b w.heap.size n m (fun x => (m x).isSome = true) cnt → w.grownBy w' none → w'.heap.size = w.heap.size + 1 → cnt ≤ n → wpList P ops Q rest (a.put o.dst (.pointer (some ⟨w.heap.size, 0, none⟩))) w') :
    wpList P ops Q (o :: rest) a w := by
  obtain ⟨D, h1, h2⟩ := hown
  have hs := h1.size_le
  refine wpList_range_own w hg mo t hop M.k M.e M.keyed ht _ b n D hm h1 fun w' h3 h4 h5 => ?_
  refine hK w' _ ⟨D, _, h3, h2, fun x hx => ?_⟩ h4 h5 hs
  rw [MapOf.has (M := M) (w := w) (b := b) (n := n) (m := m) ⟨D, h1, h2⟩ hx D (h2 x hx).2]

theorem wpList_next_M (M : MapTy P α β) (hg : o.guard = none) (it : Operand) (hop : o.op = Op.next it false) (b r n : Nat) (m : α → Option β) (S : α → Prop) (cnt : Nat)
    (hit : a.eval it = .pointer (some ⟨r, 0, none⟩)) (h : RangeOf M w b r n m S cnt)
    (hDone : cnt = 0 → (∀ x, M.ok x → ¬ S x) → wpList P ops Q rest (a.put o.dst (.tuple #[.bool false])) w)
    (hMore : ∀ (x : α) (c : β) (w' : World) (cnt' : Nat), M.ok x → S x → m x = some c → RangeOf M w' b r n m (fun z => S z ∧ z ≠ x) cnt' → cnt' < cnt →
      w.grownBy w' (some r) → w'.heap.size = w.heap.size → (Instr.entry (.pointer (some ⟨r, 0, none⟩))).run P w' = .ok (.tuple #[M.kv x, M.ev c]) w' → wpList P ops Q rest (a.put o.dst (.tuple #[.bool true, M.kv x, M.ev c])) w') :
    wpList P ops Q (o :: rest) a w := by
  obtain ⟨D, left, h1, h2, h3⟩ := h
  refine wpList_next_ranges w hg it hop M.k M.keyed _ M.kv M.ev (fun key kl hk => by obtain ⟨x, e, _⟩ := M.inv key kl hk; exact ⟨x, e⟩) (fun v y hv => by obtain ⟨c, e, _⟩ := M.einv v y hv; exact ⟨c, e⟩)
    b r n D left cnt hit h1 (fun h0 hl => hDone h0 (fun x hx hS => absurd ((h3 x hx).2 hS) (by simp [hl]))) ?_
  intro x c kl y w' cnt' hkey hlk hv hat hrg hlt hgr hsz hen
  obtain ⟨x', ex, hox⟩ := M.inv _ _ hkey
  have ex' := M.kinj _ _ ex
  subst ex'
  have ekl : kl = M.kl x := by have := M.key x hox; rw [hkey] at this; exact Option.some.inj this
  subst ekl
  obtain ⟨c', ec, hoc, hy⟩ := M.einv _ _ hv
  subst hy
  have hmx : m x = some c' := by
    have h4 := (h2 x hox).2
    cases hm : m x with
    | none =>
      have e3 := has_true_of_atKey hat
      rw [hm] at h4
      simp only [Option.map_none, Option.getD_none] at h4
      rw [has_false_of_atKey h4] at e3
      cases e3
    | some c2 =>
      have e1 := h4 .nil
      rw [hat, hm] at e1
      rw [M.einj _ _ e1]
  rw [ec] at hen ⊢
  refine hMore x c' w' cnt' hox ((h3 x hox).1 hlk) hmx ⟨D, _, hrg, h2, fun z hz => ?_⟩ hlt hgr hsz hen
  simp only [Bool.and_eq_true, Bool.not_eq_true']
  rw [h3 z hz]
  refine and_congr_right fun _ => ?_
  constructor
  · rintro h5 rfl
    rw [WideAt.sameKey_self (M.litKey hz)] at h5
    cases h5
  · intro hne
    exact sameKey_ne fun e => hne (M.klinj hz hox e)
end

end Go.Bl

namespace Go.Proofs.Ytjodjdjfagjiaaa
open Go.RowKit Go.Bl Go.Maps Go.WideShapes

theorem laidOut : laidOutB Try.prog = true := by kernel_rfl
theorem size_pos : 0 < Try.prog.types.size := of_decide_eq_true (by kernel_rfl)
theorem side_row : 79 < Try.prog.types.size := of_decide_eq_true (by kernel_rfl)
theorem side_wide : (match Try.prog.underlying 79 with | some (.array _ _) | some (.struct _) => true | _ => false) = true := by rw [Try.underlying79]
theorem side_type : Try.prog.keyType 79 = true := by kernel_rfl
theorem side_cells : Try.prog.cellsOf 79 = 2 := by kernel_rfl
theorem int_cells : Try.prog.cellsOf 3 = 1 := by kernel_rfl
theorem side_at : Try.prog.keyTypeAt 2 79 = true := by kernel_rfl
set_option maxRecDepth 20000 in
theorem side_law : Keyed Try.prog 79 := Keyed.of_law (deep_law_laid laidOut (m := 2) (by omega) side_row side_at side_wide)

def okS (s : Sd) : Prop := (Lit.int .i64 s.u).wf = true ∧ (Lit.int .i64 s.v).wf = true
def sdV (s : Sd) : Value := .agg #[.int .i64 s.u, .int .i64 s.v]
def sdK (s : Sd) : Lit := .string (keyBytes [.int .i64 s.u, .int .i64 s.v])

theorem side_keyLits (d : Nat) (c0 c1 : Value) : Try.prog.keyLits (d + 2) 79 [c0, c1] = ((Try.prog.keyLits (d + 1) 3 [c0]).bind fun a => (Try.prog.keyLits (d + 1) 3 [c1]).map fun b => a ++ b) := by
  conv => lhs; unfold Program.keyLits
  simp only [Try.underlying79]
  simp [side_cells, int_cells]
  generalize Try.prog.keyLits (d + 1) 3 [c0] = x
  generalize Try.prog.keyLits (d + 1) 3 [c1] = y
  cases x <;> cases y <;> simp

theorem int_keyLits (d : Nat) (c : Value) (ls : List Lit) (h : Try.prog.keyLits (d + 1) 3 [c] = some ls) : ∃ n, c = .int .i64 n ∧ (Lit.int .i64 n).wf = true ∧ ls = [.int .i64 n] := by
  unfold Program.keyLits at h
  simp only [Try.underlying3] at h
  cases c <;> simp at h
  obtain ⟨⟨rfl, h1⟩, rfl⟩ := h
  exact ⟨_, rfl, h1, rfl⟩
theorem int_keyLits_mk (d : Nat) (n : Int) (h : (Lit.int .i64 n).wf = true) : Try.prog.keyLits (d + 1) 3 [.int .i64 n] = some [.int .i64 n] := by
  unfold Program.keyLits
  simp only [Try.underlying3]
  simp [h]

theorem size_two : ∃ d, Try.prog.types.size + 1 = d + 2 := ⟨Try.prog.types.size - 1, by have := size_pos; omega⟩

theorem side_key (s : Sd) (h : okS s) : keyOf Try.prog 79 (sdV s) = some (sdK s) := by
  obtain ⟨d, hd⟩ := size_two
  unfold keyOf
  simp only [Try.underlying79]
  rw [side_type, hd, show (sdV s).formed Try.prog 79 = true by simp [sdV, Value.formed, Try.underlying79, side_cells]]
  rw [show (sdV s).cells.toList = [.int .i64 s.u, .int .i64 s.v] from rfl, side_keyLits, int_keyLits_mk _ _ h.1, int_keyLits_mk _ _ h.2]
  rfl

theorem arr_two : ∀ (cs : Array Value), cs.size = 2 → ∃ c0 c1, cs = #[c0, c1]
  | ⟨[a, b]⟩, _ => ⟨a, b, rfl⟩

theorem side_inv (v : Value) (l : Lit) (h : keyOf Try.prog 79 v = some l) : ∃ s, v = sdV s ∧ okS s := by
  obtain ⟨d, hd⟩ := size_two
  unfold keyOf at h
  simp only [Try.underlying79] at h
  rw [side_type, hd] at h
  cases v with
  | agg cs =>
    by_cases hf : (Value.agg cs).formed Try.prog 79 = true
    · have hs : cs.size = 2 := by simpa [Value.formed, Try.underlying79, side_cells] using hf
      obtain ⟨c0, c1, rfl⟩ := arr_two cs hs
      simp only [hf, Bool.and_self, if_true] at h
      rw [show (Value.agg #[c0, c1]).cells.toList = [c0, c1] from rfl, side_keyLits] at h
      cases h0 : Try.prog.keyLits (d + 1) 3 [c0] with
      | none => rw [h0] at h; simp at h
      | some a =>
        cases h1 : Try.prog.keyLits (d + 1) 3 [c1] with
        | none => rw [h0, h1] at h; simp at h
        | some b =>
          obtain ⟨n, rfl, hn, _⟩ := int_keyLits _ _ _ h0
          obtain ⟨k, rfl, hk, _⟩ := int_keyLits _ _ _ h1
          exact ⟨⟨n, k⟩, rfl, hn, hk⟩
    · simp [hf] at h
  | _ => simp [Value.formed, Try.underlying79] at h

/-- sets of sides: map[api.Side]bool -/
def sideM : MapTy Try.prog Sd Bool where
  k := 79
  e := 4
  kv := sdV
  ok := okS
  kl := sdK
  keyed := side_law
  key := side_key
  kinj := fun x y h => by cases x; cases y; simp [sdV] at h; simp [h]
  inv := side_inv
  ev := .bool
  okE := fun _ => True
  el := fun b => .lit (.bool b)
  zero := false
  okZ := trivial
  plain := fun b _ => plainElem_bool Try.underlying4 b
  einv := fun v z h => by
    unfold plainElem at h
    simp only [Try.underlying4] at h
    cases v <;> simp at h
    subst h
    exact ⟨_, rfl, trivial, rfl⟩
  einj := fun a b h => by simpa using h

/-- the set of sides that are there -/
def setS (l : List Sd) : Sd → Option Bool := fun s => if s ∈ l then some true else none
theorem setS_get (l : List Sd) (s : Sd) : (setS l s).getD false = decide (s ∈ l) := by unfold setS; by_cases h : s ∈ l <;> simp [h]
theorem setS_put (l : List Sd) (s : Sd) : (fun z => if z = s then some true else setS l z) = setS (l ++ [s]) := by
  funext z
  unfold setS
  by_cases h : z = s <;> simp [h]

theorem zero_bool (w : World) : (zeroValue 4).run Try.prog w = .ok (.bool false) w := by kernel_rfl

theorem wpList_lookup_S (w : World) {ops : Array Oper} {rest : List Oper} {o : Oper} {a : Act} {Q : Exit → Act → World → Prop} (hg : o.guard = none) (mo x : Operand) (hop : o.op = Op.lookup 113 mo x false)
    (b n : Nat) (L : List Sd) (hm : a.eval mo = .map (some b)) (hown : MapOf sideM w b n (setS L)) (key : Sd) (hx : a.eval x = .agg #[.int .i64 key.u, .int .i64 key.v]) (hok : okS key)
    (bb : Bool) (hb : decide (key ∈ L) = bb) (hK : wpList Try.prog ops Q rest (a.put o.dst (.bool bb)) w) :
    wpList Try.prog ops Q (o :: rest) a w := by
  refine wpList_lookup_M w sideM hg mo x _ hop Try.underlying113 (zero_bool w) b n (setS L) hm hown key hx hok ?_
  rw [← hb, ← setS_get] at hK
  exact hK

theorem wpList_store_S (w : World) {ops : Array Oper} {rest : List Oper} {o : Oper} {a : Act} {Q : Exit → Act → World → Prop} (hg : o.guard = none) (mo x v : Operand) (hop : o.op = Op.mapUpdate 113 mo x v)
    (b n : Nat) (L : List Sd) (hm : a.eval mo = .map (some b)) (hown : MapOf sideM w b n (setS L)) (hn : n < maxLen) (key : Sd) (hx : a.eval x = .agg #[.int .i64 key.u, .int .i64 key.v]) (hv : a.eval v = .bool true) (hok : okS key)
    (hK : ∀ w', MapOf sideM w' b (n + 1) (setS (L ++ [key])) → w.grownBy w' (some b) → wpList Try.prog ops Q rest (a.put o.dst undef) w') :
    wpList Try.prog ops Q (o :: rest) a w := by
  refine wpList_store_M w sideM hg mo x v _ hop Try.underlying113 b n (setS L) hm hown hn key true hx hv hok trivial fun w' h1 h2 => ?_
  rw [setS_put] at h1
  exact hK w' h1 h2

end Go.Proofs.Ytjodjdjfagjiaaa

namespace Go.Proofs.Ytjodjdjfagjiaaa
open Go.RowKit Go.Bl

theorem meshF_none {vs : List V3} {fs : List Fc} (h : fs = []) : meshF ⟨vs, fs⟩ = 8 := by unfold meshF; rw [if_pos h]
theorem meshF_large {vs : List V3} {fs : List Fc} (h : fs ≠ []) (h2 : 1000 < vs.length ∨ 1000 < fs.length) : meshF ⟨vs, fs⟩ = 2 := by unfold meshF; rw [if_neg h, if_pos h2]
theorem meshF_far {vs : List V3} {fs : List Fc} (h : fs ≠ []) (h2 : ¬ (1000 < vs.length ∨ 1000 < fs.length)) (h3 : vs.any farV = true) : meshF ⟨vs, fs⟩ = 1 := by unfold meshF; rw [if_neg h, if_neg h2, if_pos h3]
theorem meshF_face {vs : List V3} {fs : List Fc} (h : fs ≠ []) (h2 : ¬ (1000 < vs.length ∨ 1000 < fs.length)) (h3 : vs.any farV = false) (h4 : facesF vs fs ≠ 0) : meshF ⟨vs, fs⟩ = facesF vs fs := by unfold meshF; rw [if_neg h, if_neg h2, if_neg (by simp only [h3]; simp), if_neg h4]
theorem meshF_twice {vs : List V3} {fs : List Fc} (h : fs ≠ []) (h2 : ¬ (1000 < vs.length ∨ 1000 < fs.length)) (h3 : vs.any farV = false) (h4 : facesF vs fs = 0) (h5 : ¬ (allS fs).Nodup) : meshF ⟨vs, fs⟩ = 6 := by unfold meshF; rw [if_neg h, if_neg h2, if_neg (by simp only [h3]; simp), if_pos h4, if_neg h5]
theorem meshF_ok {vs : List V3} {fs : List Fc} (h : fs ≠ []) (h2 : ¬ (1000 < vs.length ∨ 1000 < fs.length)) (h3 : vs.any farV = false) (h4 : facesF vs fs = 0) (h5 : (allS fs).Nodup) : meshF ⟨vs, fs⟩ = 0 := by unfold meshF; rw [if_neg h, if_neg h2, if_neg (by simp only [h3]; simp), if_pos h4, if_pos h5]
theorem facesF_drop {vs : List V3} {fs : List Fc} {k : Nat} (h : k < fs.length) : facesF vs (fs.drop k) = if faceF vs fs[k] = 0 then facesF vs (fs.drop (k + 1)) else faceF vs fs[k] := by
  rw [List.drop_eq_getElem_cons h]; rfl
theorem facesF_mem {vs : List V3} : ∀ {fs : List Fc}, facesF vs fs = 0 → ∀ f ∈ fs, faceF vs f = 0
  | [], _, f, hf => by simp at hf
  | g :: r, h, f, hf => by
    unfold facesF at h
    by_cases hg : faceF vs g = 0
    · rw [if_pos hg] at h
      rcases List.mem_cons.1 hf with rfl | hf
      · exact hg
      · exact facesF_mem h f hf
    · rw [if_neg hg] at h; exact absurd h hg
theorem faceF_in {vs : List V3} {f : Fc} (h : faceF vs f = 0) : inF vs.length f = true := by
  cases hh : inF vs.length f with
  | true => rfl
  | false => rw [faceF_out hh] at h; cases h

theorem sd_cell {f : Fc} {n : Nat} (hn : n ≤ 1000) (h : inF n f = true) : ∀ s ∈ sdsOf f, okS s := by
  obtain ⟨a, b, c⟩ := f
  simp only [inF, inI, Bool.and_eq_true, decide_eq_true_eq] at h
  intro s hs
  simp only [sdsOf, List.mem_cons, List.not_mem_nil, or_false] at hs
  rcases hs with rfl | rfl | rfl <;> exact ⟨WalkArith.wf_i64 (by simp only; omega), WalkArith.wf_i64 (by simp only; omega)⟩
theorem allS_snoc {fs : List Fc} {k : Nat} (h : k < fs.length) : allS (fs.take (k + 1)) = allS (fs.take k) ++ sdsOf fs[k] := by
  rw [take_snoc h]
  unfold allS
  rw [List.flatMap_append, List.flatMap_cons, List.flatMap_nil, List.append_nil]
theorem allS_len (fs : List Fc) : (allS fs).length = 3 * fs.length := by
  induction fs with
  | nil => rfl
  | cons f r ih => simp only [allS, List.flatMap_cons, List.length_append, List.length_cons] at *; rw [ih]; simp [sdsOf]; omega
theorem nodup_snoc {l : List Sd} {s : Sd} (h : l.Nodup) (hs : s ∉ l) : (l ++ [s]).Nodup := by
  rw [List.nodup_append]
  exact ⟨h, by simp, fun a ha b hb => by rw [List.mem_singleton.1 hb]; rintro rfl; exact hs ha⟩
theorem not_nodup {fs : List Fc} {k j : Nat} (hk : k < fs.length) (hj : j < (sdsOf fs[k]).length) (h : (sdsOf fs[k])[j] ∈ allS (fs.take k) ++ (sdsOf fs[k]).take j) : ¬ (allS fs).Nodup := by
  intro hn
  have e : allS fs = allS (fs.take (k + 1)) ++ allS (fs.drop (k + 1)) := by
    simp only [allS]
    rw [← List.flatMap_append, List.take_append_drop]
  rw [e, allS_snoc hk, ← List.take_append_drop j (sdsOf fs[k]), ← List.append_assoc] at hn
  have h2 := (List.nodup_append.1 (List.nodup_append.1 hn).1).2.2
  refine h2 _ h _ ?_ rfl
  rw [List.drop_eq_getElem_cons hj]
  exact List.mem_cons_self ..

theorem index3_0 (w : World) (a b c d e g : Int) : (Instr.index 114 (.agg #[.int .i64 a, .int .i64 b, .int .i64 c, .int .i64 d, .int .i64 e, .int .i64 g]) (.int .i64 0)).run Try.prog w = .ok (.agg #[.int .i64 a, .int .i64 b]) w := by kernel_rfl
theorem index3_1 (w : World) (a b c d e g : Int) : (Instr.index 114 (.agg #[.int .i64 a, .int .i64 b, .int .i64 c, .int .i64 d, .int .i64 e, .int .i64 g]) (.int .i64 1)).run Try.prog w = .ok (.agg #[.int .i64 c, .int .i64 d]) w := by kernel_rfl
theorem index3_2 (w : World) (a b c d e g : Int) : (Instr.index 114 (.agg #[.int .i64 a, .int .i64 b, .int .i64 c, .int .i64 d, .int .i64 e, .int .i64 g]) (.int .i64 2)).run Try.prog w = .ok (.agg #[.int .i64 e, .int .i64 g]) w := by kernel_rfl

set_option maxHeartbeats 4000000 in
set_option maxRecDepth 100000 in
theorem checkMesh_any (A : Option Addr) (c : Nat) (vs : List V3) (B : Option Addr) (d : Nat) (fs : List Fc) (w : World) (hl : Sl w 0 A vs) (hfs : Sl w 0 B fs) :
    Calls Try.prog 48 #[.agg #[.slice A vs.length c, .slice B fs.length d]] w fun e w' => e = .returned (.int .i64 (meshF ⟨vs, fs⟩)) ∧ w.grownBy w' none := by
  have hm := hl.1
  unfold maxLen at hm
  have hm2 := hfs.1
  unfold maxLen at hm2
  by_cases h0 : fs = []
  · have HE : Hid (meshF ⟨vs, fs⟩ = 8) := meshF_none h0
    have hz : fs.length = 0 := by simp [h0]
    have hzb : ((fs.length : Int) == 0) = true := by simp [hz]
    clear h0
    go_enter Try.func48, Try.ntmps48
    go_wp2
    go_ret
    exact ⟨ret_int HE.out.symm, (by repeat (first | exact World.grownBy.refl _ _ | assumption | refine gr_alloc ?_ _ | (apply gr_tail; assumption) | refine gr_drewN ?_ _ | refine gr_drew ?_))⟩
  · by_cases h1 : 1000 < vs.length ∨ 1000 < fs.length
    · have HE : Hid (meshF ⟨vs, fs⟩ = 2) := meshF_large h0 h1
      have hz : fs.length ≠ 0 := by simpa using h0
      clear h0
      by_cases h2 : 1000 < vs.length
      · clear h1
        go_enter Try.func48, Try.ntmps48
        go_wp2
        go_ret
        exact ⟨ret_int HE.out.symm, (by repeat (first | exact World.grownBy.refl _ _ | assumption | refine gr_alloc ?_ _ | (apply gr_tail; assumption) | refine gr_drewN ?_ _ | refine gr_drew ?_))⟩
      · have h3 : 1000 < fs.length := by omega
        clear h1
        go_enter Try.func48, Try.ntmps48
        go_wp2
        go_ret
        exact ⟨ret_int HE.out.symm, (by repeat (first | exact World.grownBy.refl _ _ | assumption | refine gr_alloc ?_ _ | (apply gr_tail; assumption) | refine gr_drewN ?_ _ | refine gr_drew ?_))⟩
    · have HF : Hid (vs.any farV = true → meshF ⟨vs, fs⟩ = 1) := meshF_far h0 h1
      have HG : Hid (vs.any farV = false → facesF vs fs ≠ 0 → meshF ⟨vs, fs⟩ = facesF vs fs) := meshF_face h0 h1
      have HT : Hid (vs.any farV = false → facesF vs fs = 0 → ¬ (allS fs).Nodup → meshF ⟨vs, fs⟩ = 6) := meshF_twice h0 h1
      have HO : Hid (vs.any farV = false → facesF vs fs = 0 → (allS fs).Nodup → meshF ⟨vs, fs⟩ = 0) := meshF_ok h0 h1
      have hz : fs.length ≠ 0 := by simpa using h0
      have hv1 : vs.length ≤ 1000 := by omega
      have hf1 : fs.length ≤ 1000 := by omega
      clear h0 h1
      have hg0 := gr_alloc (World.grownBy.refl w none) (.cells #[.slice A vs.length c, .slice B fs.length d] 29)
      have b0 := (Cell.new w [.slice A vs.length c, .slice B fs.length d] 29 0 _ rfl _ rfl).1
      have b1 := (Cell.new w [.slice A vs.length c, .slice B fs.length d] 29 1 _ rfl _ rfl).1
      replace b0 := hide b0
      replace b1 := hide b1
      go_enter Try.func48, Try.ntmps48
      go_wp2_with fail
      generalize w.alloc (.cells #[.slice A vs.length c, .slice B fs.length d] 29) = W at *
      have hWW := World.grownBy.refl W none
      go_loopw [30] (fun i wr => ∃ k : Nat, k ≤ vs.length ∧ i = .int .i64 k ∧ w.grownBy wr none ∧ W.grownBy wr none ∧ Hid ((vs.take k).any farV = false)) (fun i _ => vs.length - (intOf i).toNat)
      case atStart => exact ⟨0, Nat.zero_le _, rfl, hg0, hWW, by simp [Hid]⟩
      case round =>
        obtain ⟨k, hk, rfl, hg, hgW, hall⟩ := hrel
        by_cases hlt : k < vs.length
        · obtain ⟨g, o, cx, rfl, hb0, hb1, rfl, hc⟩ := (hl.pure hg).at_ (by decide) hlt
          have v0 : wr.cell? ⟨g, o + k * 3, none⟩ = some (.int .i64 vs[k].x) := hc 0 _ rfl
          have v1 : wr.cell? ⟨g, o + k * 3 + 1, none⟩ = some (.int .i64 vs[k].y) := hc 1 _ rfl
          have v2 : wr.cell? ⟨g, o + k * 3 + 2, none⟩ = some (.int .i64 vs[k].z) := hc 2 _ rfl
          clear hc
          have HS := hide (anyV_snoc hlt)
          have HA : Hid (farV vs[k] = true → vs.any farV = true) := anyV_at hlt
          have HV : Hid (farV vs[k] = (farZ vs[k].x || farZ vs[k].y || farZ vs[k].z)) := rfl
          generalize vs[k] = v at *
          clear HG HT HO
          go_wp2_with (go_at_call 53; refine (isFarM_any _ _).mono ?_; rintro e w' ⟨rfl, rfl⟩)
          all_goals first
            | (go_ret; exact ⟨ret_int (HF.out (HA.out (by rw [HV.out]; simp [*]))).symm, (by repeat (first | exact World.grownBy.refl _ _ | assumption | refine gr_alloc ?_ _ | (apply gr_tail; assumption) | refine gr_drewN ?_ _ | refine gr_drew ?_))⟩)
            | (go_roundw; (case rel => exact ⟨k + 1, by omega, by go_num, (by repeat (first | exact World.grownBy.refl _ _ | assumption | refine gr_alloc ?_ _ | (apply gr_tail; assumption) | refine gr_drewN ?_ _ | refine gr_drew ?_)), (by repeat (first | exact World.grownBy.refl _ _ | assumption | refine gr_alloc ?_ _ | (apply gr_tail; assumption) | refine gr_drewN ?_ _ | refine gr_drew ?_)), by simp only [Hid]; rw [HS.out, hall.out, HV.out]; simp [*]⟩); (case measure => simp [intOf]; omega))
        · have hfar : Hid (vs.any farV = false) := by have := hall.out; rwa [List.take_of_length_le (by omega)] at this
          replace HG := hide (HG.out hfar.out)
          replace HT := hide (HT.out hfar.out)
          replace HO := hide (HO.out hfar.out)
          clear HF hall
          obtain ⟨X, hX⟩ : ∃ X : Int, X = facesF vs fs := ⟨_, rfl⟩
          rw [← hX] at HG HT HO
          replace hX := hide hX
          replace b1 := hide (hgW.k b1.out)
          have b1 := b1.out
          replace b0 := hide (hgW.k b0.out)
          go_wp2_with fail
          generalize hWc : wr = W2 at *
          clear hWc
          have hgW2 := World.grownBy.refl W2 none
          have hgA := hg
          clear hg hgW
          go_loopw [51] (fun i wr => ∃ k : Nat, k ≤ fs.length ∧ i = .int .i64 k ∧ w.grownBy wr none ∧ W2.grownBy wr none ∧ Hid (facesF vs (fs.drop k) = X)) (fun i _ => fs.length - (intOf i).toNat)
          case atStart => exact ⟨0, Nat.zero_le _, rfl, hgA, hgW2, by rw [Hid, hX.out]; rfl⟩
          case round =>
            obtain ⟨k, hk, rfl, hg, hgW, hdr⟩ := hrel
            by_cases hlt : k < fs.length
            · replace b0 := hgW.k b0.out
              replace b1 := hgW.k b1
              obtain ⟨g, o, cx, rfl, hb0, hb1, rfl, hc⟩ := (hfs.pure hg).at_ (by decide) hlt
              have v0 : wr.cell? ⟨g, o + k * 3, none⟩ = some (.int .i64 fs[k].a) := hc 0 _ rfl
              have v1 : wr.cell? ⟨g, o + k * 3 + 1, none⟩ = some (.int .i64 fs[k].b) := hc 1 _ rfl
              have v2 : wr.cell? ⟨g, o + k * 3 + 2, none⟩ = some (.int .i64 fs[k].c) := hc 2 _ rfl
              clear hc
              have HS := facesF_drop (vs := vs) hlt
              generalize hff : fs[k] = f at *
              rw [hdr.out] at HS
              replace hff := hide hff
              have HZ : Hid (faceF vs f = 0 → facesF vs (fs.drop (k + 1)) = X) := fun h => by rw [if_pos h] at HS; exact HS.symm
              have HN : Hid (faceF vs f ≠ 0 → faceF vs f = X) := fun h => by rw [if_neg h] at HS; exact HS.symm
              clear HS HT HO
              have hlt0 : w.heap.size < wr.heap.size := cell_lt b0
              by_cases hy : faceF vs f = 0
              · have hb : (faceF vs f != 0) = false := by simp [hy]
                replace HZ := hide (HZ.out hy)
                clear hy HN
                go_wp2_with fail
                refine (faceFault_any A c vs _ _ _ f _ (hl.pure (gr_alloc hg _)) hfar.out).mono ?_
                rintro e w' ⟨rfl, hg'⟩
                go_wp2_with fail
                (go_roundw; (case rel => exact ⟨k + 1, by omega, by go_num, (by repeat (first | exact World.grownBy.refl _ _ | assumption | refine gr_alloc ?_ _ | (apply gr_tail; assumption) | refine gr_drewN ?_ _ | refine gr_drew ?_)), (by repeat (first | exact World.grownBy.refl _ _ | assumption | refine gr_alloc ?_ _ | (apply gr_tail; assumption) | refine gr_drewN ?_ _ | refine gr_drew ?_)), HZ⟩); (case measure => simp [intOf]; omega))
              · have hb : (faceF vs f != 0) = true := by simp [hy]
                have HX : Hid (faceF vs f = meshF ⟨vs, fs⟩) := by have e := HN.out hy; rw [Hid, HG.out (by rw [← e]; exact hy), e]
                clear hy HN HZ
                go_wp2_with fail
                refine (faceFault_any A c vs _ _ _ f _ (hl.pure (gr_alloc hg _)) hfar.out).mono ?_
                rintro e w' ⟨rfl, hg'⟩
                go_wp2_with fail
                go_ret
                exact ⟨ret_int HX.out, (by repeat (first | exact World.grownBy.refl _ _ | assumption | refine gr_alloc ?_ _ | (apply gr_tail; assumption) | refine gr_drewN ?_ _ | refine gr_drew ?_))⟩
            · have HX : X = 0 := by rw [← hdr.out, List.drop_of_length_le (by omega)]; rfl
              replace HT := hide (HT.out HX)
              replace HO := hide (HO.out HX)
              have HA : Hid (∀ f ∈ fs, faceF vs f = 0) := facesF_mem (hX.out.symm.trans HX)
              clear HG hdr
              replace b0 := hgW.k b0.out
              replace b1 := hgW.k b1
              have hmk := run_makeMap (P := Try.prog) 113 wr
              have hM0 := MapOf.made sideM wr
              have hge := gr_alloc (World.grownBy.refl wr none) (.map #[] 0)
              rw [show (fun _ : Sd => (none : Option Bool)) = setS (allS (fs.take 0)) by funext z; simp [setS, allS]] at hM0
              replace hM0 := hide hM0
              have b2 := hge.k b0
              have b3 := hge.k b1
              have hlt0 : w.heap.size < wr.heap.size := cell_lt b0
              go_wp2_with fail
              clear hmk b0 b1
              have hgC := gr_trans hg hge
              generalize hWm : wr.alloc (.map #[] 0) = W3 at *
              generalize hbm : wr.heap.size = bm at *
              have hgW3 := World.grownBy.refl W3 (some bm)
              clear hWm hbm hg hgW hgA hgW2 hge
              go_loopw [66] (fun i wr => ∃ k : Nat, k ≤ fs.length ∧ i = .int .i64 k ∧ w.grownBy wr none ∧ W3.grownBy wr (some bm) ∧ MapOf sideM wr bm (3 * k) (setS (allS (fs.take k))) ∧ Hid ((allS (fs.take k)).Nodup)) (fun i _ => fs.length - (intOf i).toNat)
              case atStart => exact ⟨0, Nat.zero_le _, rfl, hgC, hgW3, hM0.out, by simp [Hid, allS]⟩
              case round =>
                obtain ⟨k, hk, rfl, hg, hgW, hM, hnd⟩ := hrel
                by_cases hlt : k < fs.length
                · have hin := faceF_in (HA.out fs[k] (List.getElem_mem hlt))
                  have hok := hide (sd_cell hv1 hin)
                  have HD := hide (fun j hj h => HT.out (not_nodup (j := j) hlt hj h))
                  have HS := hide (allS_snoc hlt)
                  obtain ⟨g, o, cx, rfl, hb0, hb1, rfl, hc⟩ := (hfs.pure hg).at_ (by decide) hlt
                  have v0 : wr.cell? ⟨g, o + k * 3, none⟩ = some (.int .i64 fs[k].a) := hc 0 _ rfl
                  have v1 : wr.cell? ⟨g, o + k * 3 + 1, none⟩ = some (.int .i64 fs[k].b) := hc 1 _ rfl
                  have v2 : wr.cell? ⟨g, o + k * 3 + 2, none⟩ = some (.int .i64 fs[k].c) := hc 2 _ rfl
                  clear hc
                  generalize fs[k] = f at *
                  clear hin HT HO
                  replace hM := hide hM
                  go_wp2_with fail
                  refine (sides_any f _).mono ?_
                  rintro e w2 ⟨rfl, hg2⟩
                  have hM2 := (hM.out.kept (gr_alloc (World.grownBy.refl wr none) (.cells #[.int .i64 f.a, .int .i64 f.b, .int .i64 f.c] 67)) (by simp)).kept hg2 (by simp)
                  have hgw2 := gr_trans (gr_alloc hg (.cells #[.int .i64 f.a, .int .i64 f.b, .int .i64 f.c] 67)) hg2
                  have hgW2 := gr_trans (gr_alloc hgW (.cells #[.int .i64 f.a, .int .i64 f.b, .int .i64 f.c] 67)) (gr_any hg2)
                  clear hM v0 v1 v2 hg2
                  replace hM2 := hide hM2
                  go_wp2_with fail
                  replace HD := hide HD
                  generalize hL0 : allS (fs.take k) = L0 at *
                  clear hL0
                  have hnd2 := hnd
                  clear hnd hg hgW hM0 hb0 hb1
                  go_loopw [72] (fun i wr => ∃ j : Nat, j ≤ 3 ∧ i = .int .i64 j ∧ w.grownBy wr none ∧ W3.grownBy wr (some bm) ∧ MapOf sideM wr bm (3 * k + j) (setS (L0 ++ (sdsOf f).take j)) ∧ Hid ((L0 ++ (sdsOf f).take j).Nodup)) (fun i _ => 3 - (intOf i).toNat)
                  case atStart => exact ⟨0, by omega, rfl, hgw2, hgW2, by simpa using hM2.out, by simpa using hnd2⟩
                  case round =>
                    obtain ⟨j, hj, rfl, hg, hgW, hM, hnd⟩ := hrel
                    by_cases hjt : j < 3
                    · obtain rfl | rfl | rfl : j = 0 ∨ j = 1 ∨ j = 2 := by omega
                      · have hix := index3_0 wr f.a f.b f.b f.c f.c f.a
                        have hok1 : okS ⟨f.a, f.b⟩ := hok.out _ (by simp [sdsOf])
                        have hMa := hM.kept (gr_alloc (World.grownBy.refl wr none) (.cells #[.int .i64 (f.a), .int .i64 (f.b)] 79)) (by simp)
                        have hga := gr_alloc hg (.cells #[.int .i64 (f.a), .int .i64 (f.b)] 79)
                        have hgWa := gr_alloc hgW (.cells #[.int .i64 (f.a), .int .i64 (f.b)] 79)
                        have HD1 : Hid ((⟨f.a, f.b⟩ : Sd) ∈ L0 ++ (sdsOf f).take 0 → meshF ⟨vs, fs⟩ = 6) := fun h => HD.out 0 (by simp [sdsOf]) h
                        have HL : L0 ++ (sdsOf f).take (0 + 1) = (L0 ++ (sdsOf f).take 0) ++ [⟨f.a, f.b⟩] := by simp [sdsOf]
                        replace HL := hide HL
                        generalize L0 ++ (sdsOf f).take 0 = L at *
                        clear hM hg hgW HD HS
                        replace hMa := hide hMa
                        replace hok1 := hide hok1
                        by_cases hin : (⟨f.a, f.b⟩ : Sd) ∈ L
                        · have hb : Hid (decide ((⟨f.a, f.b⟩ : Sd) ∈ L) = true) := decide_eq_true hin
                          replace HD1 := hide (HD1.out hin)
                          clear hin
                          go_wp2_with (at_lookup; refine wpList_lookup_S _ rfl _ _ rfl bm _ L rfl hMa.out ⟨f.a, f.b⟩ rfl hok1.out true hb.out ?_)
                          go_ret
                          exact ⟨ret_int HD1.out.symm, hga⟩
                        · have hb : Hid (decide ((⟨f.a, f.b⟩ : Sd) ∈ L) = false) := decide_eq_false hin
                          have hnd1 := hide (nodup_snoc hnd.out hin)
                          clear hin HD1 hnd
                          go_wp2_with (first | (at_lookup; refine wpList_lookup_S _ rfl _ _ rfl bm _ L rfl hMa.out ⟨f.a, f.b⟩ rfl hok1.out false hb.out ?_) | (at_mapUpdate; refine wpList_store_S _ rfl _ _ _ rfl bm _ L rfl hMa.out (by simp [maxLen]; omega) ⟨f.a, f.b⟩ rfl rfl hok1.out ?_; intro w4 hM4 hg4))
                          have hM5 := hide (show MapOf sideM w4 bm (3 * k + (0 + 1)) (setS (L0 ++ (sdsOf f).take (0 + 1))) by rw [HL.out]; exact hM4.mono (by omega))
                          have hnd5 := hide (show (L0 ++ (sdsOf f).take (0 + 1)).Nodup by rw [HL.out]; exact hnd1.out)
                          have hg5 := gr_new hga hg4 (by omega)
                          have hg6 := gr_trans hgWa hg4
                          clear hM4 hnd1 HL
                          go_roundw
                          case rel => exact ⟨0 + 1, by omega, by go_num, hg5, hg6, hM5.out, hnd5.out⟩
                          case measure => simp [intOf]
                      · have hix := index3_1 wr f.a f.b f.b f.c f.c f.a
                        have hok1 : okS ⟨f.b, f.c⟩ := hok.out _ (by simp [sdsOf])
                        have hMa := hM.kept (gr_alloc (World.grownBy.refl wr none) (.cells #[.int .i64 (f.b), .int .i64 (f.c)] 79)) (by simp)
                        have hga := gr_alloc hg (.cells #[.int .i64 (f.b), .int .i64 (f.c)] 79)
                        have hgWa := gr_alloc hgW (.cells #[.int .i64 (f.b), .int .i64 (f.c)] 79)
                        have HD1 : Hid ((⟨f.b, f.c⟩ : Sd) ∈ L0 ++ (sdsOf f).take 1 → meshF ⟨vs, fs⟩ = 6) := fun h => HD.out 1 (by simp [sdsOf]) h
                        have HL : L0 ++ (sdsOf f).take (1 + 1) = (L0 ++ (sdsOf f).take 1) ++ [⟨f.b, f.c⟩] := by simp [sdsOf]
                        replace HL := hide HL
                        generalize L0 ++ (sdsOf f).take 1 = L at *
                        clear hM hg hgW HD HS
                        replace hMa := hide hMa
                        replace hok1 := hide hok1
                        by_cases hin : (⟨f.b, f.c⟩ : Sd) ∈ L
                        · have hb : Hid (decide ((⟨f.b, f.c⟩ : Sd) ∈ L) = true) := decide_eq_true hin
                          replace HD1 := hide (HD1.out hin)
                          clear hin
                          go_wp2_with (at_lookup; refine wpList_lookup_S _ rfl _ _ rfl bm _ L rfl hMa.out ⟨f.b, f.c⟩ rfl hok1.out true hb.out ?_)
                          go_ret
                          exact ⟨ret_int HD1.out.symm, hga⟩
                        · have hb : Hid (decide ((⟨f.b, f.c⟩ : Sd) ∈ L) = false) := decide_eq_false hin
                          have hnd1 := hide (nodup_snoc hnd.out hin)
                          clear hin HD1 hnd
                          go_wp2_with (first | (at_lookup; refine wpList_lookup_S _ rfl _ _ rfl bm _ L rfl hMa.out ⟨f.b, f.c⟩ rfl hok1.out false hb.out ?_) | (at_mapUpdate; refine wpList_store_S _ rfl _ _ _ rfl bm _ L rfl hMa.out (by simp [maxLen]; omega) ⟨f.b, f.c⟩ rfl rfl hok1.out ?_; intro w4 hM4 hg4))
                          have hM5 := hide (show MapOf sideM w4 bm (3 * k + (1 + 1)) (setS (L0 ++ (sdsOf f).take (1 + 1))) by rw [HL.out]; exact hM4.mono (by omega))
                          have hnd5 := hide (show (L0 ++ (sdsOf f).take (1 + 1)).Nodup by rw [HL.out]; exact hnd1.out)
                          have hg5 := gr_new hga hg4 (by omega)
                          have hg6 := gr_trans hgWa hg4
                          clear hM4 hnd1 HL
                          go_roundw
                          case rel => exact ⟨1 + 1, by omega, by go_num, hg5, hg6, hM5.out, hnd5.out⟩
                          case measure => simp [intOf]
                      · have hix := index3_2 wr f.a f.b f.b f.c f.c f.a
                        have hok1 : okS ⟨f.c, f.a⟩ := hok.out _ (by simp [sdsOf])
                        have hMa := hM.kept (gr_alloc (World.grownBy.refl wr none) (.cells #[.int .i64 (f.c), .int .i64 (f.a)] 79)) (by simp)
                        have hga := gr_alloc hg (.cells #[.int .i64 (f.c), .int .i64 (f.a)] 79)
                        have hgWa := gr_alloc hgW (.cells #[.int .i64 (f.c), .int .i64 (f.a)] 79)
                        have HD1 : Hid ((⟨f.c, f.a⟩ : Sd) ∈ L0 ++ (sdsOf f).take 2 → meshF ⟨vs, fs⟩ = 6) := fun h => HD.out 2 (by simp [sdsOf]) h
                        have HL : L0 ++ (sdsOf f).take (2 + 1) = (L0 ++ (sdsOf f).take 2) ++ [⟨f.c, f.a⟩] := by simp [sdsOf]
                        replace HL := hide HL
                        generalize L0 ++ (sdsOf f).take 2 = L at *
                        clear hM hg hgW HD HS
                        replace hMa := hide hMa
                        replace hok1 := hide hok1
                        by_cases hin : (⟨f.c, f.a⟩ : Sd) ∈ L
                        · have hb : Hid (decide ((⟨f.c, f.a⟩ : Sd) ∈ L) = true) := decide_eq_true hin
                          replace HD1 := hide (HD1.out hin)
                          clear hin
                          go_wp2_with (at_lookup; refine wpList_lookup_S _ rfl _ _ rfl bm _ L rfl hMa.out ⟨f.c, f.a⟩ rfl hok1.out true hb.out ?_)
                          go_ret
                          exact ⟨ret_int HD1.out.symm, hga⟩
                        · have hb : Hid (decide ((⟨f.c, f.a⟩ : Sd) ∈ L) = false) := decide_eq_false hin
                          have hnd1 := hide (nodup_snoc hnd.out hin)
                          clear hin HD1 hnd
                          go_wp2_with (first | (at_lookup; refine wpList_lookup_S _ rfl _ _ rfl bm _ L rfl hMa.out ⟨f.c, f.a⟩ rfl hok1.out false hb.out ?_) | (at_mapUpdate; refine wpList_store_S _ rfl _ _ _ rfl bm _ L rfl hMa.out (by simp [maxLen]; omega) ⟨f.c, f.a⟩ rfl rfl hok1.out ?_; intro w4 hM4 hg4))
                          have hM5 := hide (show MapOf sideM w4 bm (3 * k + (2 + 1)) (setS (L0 ++ (sdsOf f).take (2 + 1))) by rw [HL.out]; exact hM4.mono (by omega))
                          have hnd5 := hide (show (L0 ++ (sdsOf f).take (2 + 1)).Nodup by rw [HL.out]; exact hnd1.out)
                          have hg5 := gr_new hga hg4 (by omega)
                          have hg6 := gr_trans hgWa hg4
                          clear hM4 hnd1 HL
                          go_roundw
                          case rel => exact ⟨2 + 1, by omega, by go_num, hg5, hg6, hM5.out, hnd5.out⟩
                          case measure => simp [intOf]
                    · have hj3 : j = 3 := by omega
                      subst hj3
                      have e3 : (sdsOf f).take 3 = sdsOf f := rfl
                      rw [e3, ← HS.out] at hM hnd
                      replace hM := hide hM
                      go_wp2
                      (go_roundw; (case rel => exact ⟨k + 1, by omega, by go_num, hg, hgW, hM.out.mono (by omega), hnd⟩); (case measure => simp [intOf]; omega))
                · have HE : Hid (0 = meshF ⟨vs, fs⟩) := (HO.out (by have := hnd.out; rwa [List.take_of_length_le (by omega)] at this)).symm
                  clear HT HO
                  replace hM := hide hM
                  go_wp2
                  go_ret
                  exact ⟨ret_int HE.out, hg⟩

end Go.Proofs.Ytjodjdjfagjiaaa

namespace Go.Proofs.Ytjodjdjfagjiaaa
open Go.RowKit Go.Bl

theorem lenBits_any (w : World) : Calls Try.prog 112 #[.int .u64 0] w fun e w' => e = .returned (.int .i64 0) ∧ w = w' :=
  (Try.bits_Len 0 w (by omega) (by omega)).mono fun _ _ ⟨he, hw⟩ => ⟨he, hw.symm⟩

set_option maxRecDepth 100000 in
theorem insNil_any (w : World) (f : Value) : Calls Try.prog 115 #[.slice none 0 0, .int .i64 0, .int .i64 0, f] w fun e w' => e = .returned (.tuple #[]) ∧ w = w' := by
  go_enter Try.func115, Try.ntmps115
  go_wp2_with fail
  refine wp_loop_once ?_
  go_wp2_with fail
  go_end0
  exact ⟨rfl, rfl⟩

set_option maxRecDepth 100000 in
theorem pdqNil_any (w : World) (f : Value) : Calls Try.prog 111 #[.slice none 0 0, .int .i64 0, .int .i64 0, .int .i64 0, f] w fun e w' => e = .returned (.tuple #[]) ∧ w = w' := by
  go_enter Try.func111, Try.ntmps111
  go_wp2_with fail
  refine wp_loop_once ?_
  go_wp2_with (go_at_call 115; refine (insNil_any _ _).mono ?_; rintro e w' ⟨rfl, rfl⟩)
  first
    | (go_ret; exact ⟨rfl, rfl⟩)
    | exact bodyPost_ret (v := .tuple #[]) rfl rfl ⟨rfl, rfl⟩
    | exact bodyPost_ret (v := .tuple #[]) (by simp [results, Try.results111]) rfl ⟨rfl, rfl⟩

set_option maxRecDepth 100000 in
theorem sortNil_any (w : World) (f : Value) : Calls Try.prog 109 #[.slice none 0 0, f] w fun e w' => e = .returned (.tuple #[]) ∧ w = w' := by
  go_enter Try.func109, Try.ntmps109
  go_wp2_with fail
  refine (lenBits_any _).mono ?_
  rintro e w' ⟨rfl, rfl⟩
  go_wp2_with fail
  refine (pdqNil_any _ _).mono ?_
  rintro e w' ⟨rfl, rfl⟩
  go_wp2_with fail
  go_end0
  exact ⟨rfl, rfl⟩

end Go.Proofs.Ytjodjdjfagjiaaa

namespace Go.Proofs.Ytjodjdjfagjiaaa
open Go.RowKit Go.Bl

def revS (s : Sd) : Sd := ⟨s.v, s.u⟩

theorem wpList_next_S (w : World) {ops : Array Oper} {rest : List Oper} {o : Oper} {a : Act} {Q : Exit → Act → World → Prop} (hg : o.guard = none) (it : Operand) (hop : o.op = Op.next it false) (b r n : Nat) (L : List Sd) (S : Sd → Prop) (cnt : Nat)
    (hit : a.eval it = .pointer (some ⟨r, 0, none⟩)) (h : RangeOf sideM w b r n (setS L) S cnt)
    (hDone : cnt = 0 → (∀ x, okS x → ¬ S x) → wpList Try.prog ops Q rest (a.put o.dst (.tuple #[.bool false])) w)
    (hMore : ∀ (x : Sd) (w' : World) (cnt' : Nat), okS x → S x → x ∈ L → RangeOf sideM w' b r n (setS L) (fun z => S z ∧ z ≠ x) cnt' → cnt' < cnt →
      w.grownBy w' (some r) → (Instr.entry (.pointer (some ⟨r, 0, none⟩))).run Try.prog w' = .ok (.tuple #[.agg #[.int .i64 x.u, .int .i64 x.v], .bool true]) w' → wpList Try.prog ops Q rest (a.put o.dst (.tuple #[.bool true, .agg #[.int .i64 x.u, .int .i64 x.v], .bool true])) w') :
    wpList Try.prog ops Q (o :: rest) a w := by
  refine wpList_next_M w sideM hg it hop b r n (setS L) S cnt hit h hDone ?_
  intro x c w' cnt' h1 h2 h3 h4 h5 h6 _ h8
  have hx : x ∈ L ∧ c = true := by
    unfold setS at h3
    by_cases h : x ∈ L
    · simp [h] at h3; exact ⟨h, h3⟩
    · simp [h] at h3
  obtain ⟨hx, rfl⟩ := hx
  exact hMore x w' cnt' h1 h2 hx h4 h5 h6 h8

set_option maxHeartbeats 4000000 in
set_option maxRecDepth 100000 in
theorem openNone_any (A : Option Addr) (n c : Nat) (B : Option Addr) (d : Nat) (fs : List Fc) (w : World) (hfs : Sl w 0 B fs) (hf1 : fs.length ≤ 1000) (hok0 : ∀ s ∈ allS fs, okS s) (hrev : ∀ s ∈ allS fs, revS s ∈ allS fs) :
    Calls Try.prog 106 #[.agg #[.slice A n c, .slice B fs.length d]] w fun e w' => e = .returned (.slice none 0 0) ∧ w.grownBy w' none := by
  have hm2 := hfs.1
  unfold maxLen at hm2
  replace hok0 := hide hok0
  replace hrev := hide hrev
  have hg0 := gr_alloc (World.grownBy.refl w none) (.cells #[.slice A n c, .slice B fs.length d] 29)
  have b1 := (Cell.new w [.slice A n c, .slice B fs.length d] 29 1 _ rfl _ rfl).1
  have hlt0 : w.heap.size < (w.alloc (.cells #[.slice A n c, .slice B fs.length d] 29)).heap.size := by simp
  have hmk := run_makeMap (P := Try.prog) 113 (w.alloc (.cells #[.slice A n c, .slice B fs.length d] 29))
  have hM0 := MapOf.made sideM (w.alloc (.cells #[.slice A n c, .slice B fs.length d] 29))
  have hge := gr_alloc (World.grownBy.refl (w.alloc (.cells #[.slice A n c, .slice B fs.length d] 29)) none) (.map #[] 0)
  rw [show (fun _ : Sd => (none : Option Bool)) = setS (allS (fs.take 0)) by funext z; simp [setS, allS]] at hM0
  replace hM0 := hide hM0
  have b3 := hge.k b1
  have hsz : (w.alloc (.cells #[.slice A n c, .slice B fs.length d] 29)).heap.size = w.heap.size + 1 := by simp
  rw [hsz] at hmk hM0 hlt0
  clear hsz
  go_enter Try.func106, Try.ntmps106
  go_wp2_with fail
  clear hmk b1
  have hgC := gr_trans hg0 hge
  generalize hWm : (w.alloc (.cells #[.slice A n c, .slice B fs.length d] 29)).alloc (.map #[] 0) = W3 at *
  generalize hbm : w.heap.size + 1 = bm at *
  have hgW3 := World.grownBy.refl W3 (some bm)
  clear hWm hge
  clear hg0 hbm
  go_loopw [14] (fun i wr => ∃ k : Nat, k ≤ fs.length ∧ i = .int .i64 k ∧ w.grownBy wr none ∧ W3.grownBy wr (some bm) ∧ MapOf sideM wr bm (3 * k) (setS (allS (fs.take k)))) (fun i _ => fs.length - (intOf i).toNat)
  case atStart => exact ⟨0, Nat.zero_le _, rfl, hgC, hgW3, hM0.out⟩
  case round =>
    obtain ⟨k, hk, rfl, hg, hgW, hM⟩ := hrel
    by_cases hlt : k < fs.length
    · have HS := hide (allS_snoc hlt)
      have hok : Hid (∀ s ∈ sdsOf fs[k], okS s) := fun s hs => hok0.out s (List.mem_flatMap.2 ⟨_, List.getElem_mem hlt, hs⟩)
      obtain ⟨g, o, cx, rfl, hb0, hb1, rfl, hc⟩ := (hfs.pure hg).at_ (by decide) hlt
      have v0 : wr.cell? ⟨g, o + k * 3, none⟩ = some (.int .i64 fs[k].a) := hc 0 _ rfl
      have v1 : wr.cell? ⟨g, o + k * 3 + 1, none⟩ = some (.int .i64 fs[k].b) := hc 1 _ rfl
      have v2 : wr.cell? ⟨g, o + k * 3 + 2, none⟩ = some (.int .i64 fs[k].c) := hc 2 _ rfl
      clear hc
      generalize fs[k] = f at *
      replace hM := hide hM
      go_wp2_with fail
      refine (sides_any f _).mono ?_
      rintro e w2 ⟨rfl, hg2⟩
      have hM2 := (hM.out.kept (gr_alloc (World.grownBy.refl wr none) (.cells #[.int .i64 f.a, .int .i64 f.b, .int .i64 f.c] 67)) (by simp)).kept hg2 (by simp)
      have hgw2 := gr_trans (gr_alloc hg (.cells #[.int .i64 f.a, .int .i64 f.b, .int .i64 f.c] 67)) hg2
      have hgW2 := gr_trans (gr_alloc hgW (.cells #[.int .i64 f.a, .int .i64 f.b, .int .i64 f.c] 67)) (gr_any hg2)
      clear hM v0 v1 v2 hg2 hg hgW hb0 hb1
      replace hM2 := hide hM2
      go_wp2_with fail
      generalize hL0 : allS (fs.take k) = L0 at *
      clear hL0
      go_loopw [20] (fun i wr => ∃ j : Nat, j ≤ 3 ∧ i = .int .i64 j ∧ w.grownBy wr none ∧ W3.grownBy wr (some bm) ∧ MapOf sideM wr bm (3 * k + j) (setS (L0 ++ (sdsOf f).take j))) (fun i _ => 3 - (intOf i).toNat)
      case atStart => exact ⟨0, by omega, rfl, hgw2, hgW2, by simpa using hM2.out⟩
      case round =>
        obtain ⟨j, hj, rfl, hg, hgW, hM⟩ := hrel
        by_cases hjt : j < 3
        · obtain rfl | rfl | rfl : j = 0 ∨ j = 1 ∨ j = 2 := by omega
          · have hix := index3_0 wr f.a f.b f.b f.c f.c f.a
            have hok1 : okS ⟨f.a, f.b⟩ := hok.out _ (by simp [sdsOf])
            have hMa := hM.kept (gr_alloc (World.grownBy.refl wr none) (.cells #[.int .i64 (f.a), .int .i64 (f.b)] 79)) (by simp)
            have hga := gr_alloc hg (.cells #[.int .i64 (f.a), .int .i64 (f.b)] 79)
            have hgWa := gr_alloc hgW (.cells #[.int .i64 (f.a), .int .i64 (f.b)] 79)
            have HL : L0 ++ (sdsOf f).take (0 + 1) = (L0 ++ (sdsOf f).take 0) ++ [⟨f.a, f.b⟩] := by simp [sdsOf]
            replace HL := hide HL
            generalize L0 ++ (sdsOf f).take 0 = L at *
            clear hM hg hgW HS
            replace hMa := hide hMa
            replace hok1 := hide hok1
            go_wp2_with (at_mapUpdate; refine wpList_store_S _ rfl _ _ _ rfl bm _ L rfl hMa.out (by simp [maxLen]; omega) ⟨f.a, f.b⟩ rfl rfl hok1.out ?_; intro w4 hM4 hg4)
            have hM5 := hide (show MapOf sideM w4 bm (3 * k + (0 + 1)) (setS (L0 ++ (sdsOf f).take (0 + 1))) by rw [HL.out]; exact hM4.mono (by omega))
            have hg5 := gr_new hga hg4 (by omega)
            have hg6 := gr_trans hgWa hg4
            clear hM4 HL
            go_roundw
            case rel => exact ⟨0 + 1, by omega, by go_num, hg5, hg6, hM5.out⟩
            case measure => simp [intOf]
          · have hix := index3_1 wr f.a f.b f.b f.c f.c f.a
            have hok1 : okS ⟨f.b, f.c⟩ := hok.out _ (by simp [sdsOf])
            have hMa := hM.kept (gr_alloc (World.grownBy.refl wr none) (.cells #[.int .i64 (f.b), .int .i64 (f.c)] 79)) (by simp)
            have hga := gr_alloc hg (.cells #[.int .i64 (f.b), .int .i64 (f.c)] 79)
            have hgWa := gr_alloc hgW (.cells #[.int .i64 (f.b), .int .i64 (f.c)] 79)
            have HL : L0 ++ (sdsOf f).take (1 + 1) = (L0 ++ (sdsOf f).take 1) ++ [⟨f.b, f.c⟩] := by simp [sdsOf]
            replace HL := hide HL
            generalize L0 ++ (sdsOf f).take 1 = L at *
            clear hM hg hgW HS
            replace hMa := hide hMa
            replace hok1 := hide hok1
            go_wp2_with (at_mapUpdate; refine wpList_store_S _ rfl _ _ _ rfl bm _ L rfl hMa.out (by simp [maxLen]; omega) ⟨f.b, f.c⟩ rfl rfl hok1.out ?_; intro w4 hM4 hg4)
            have hM5 := hide (show MapOf sideM w4 bm (3 * k + (1 + 1)) (setS (L0 ++ (sdsOf f).take (1 + 1))) by rw [HL.out]; exact hM4.mono (by omega))
            have hg5 := gr_new hga hg4 (by omega)
            have hg6 := gr_trans hgWa hg4
            clear hM4 HL
            go_roundw
            case rel => exact ⟨1 + 1, by omega, by go_num, hg5, hg6, hM5.out⟩
            case measure => simp [intOf]
          · have hix := index3_2 wr f.a f.b f.b f.c f.c f.a
            have hok1 : okS ⟨f.c, f.a⟩ := hok.out _ (by simp [sdsOf])
            have hMa := hM.kept (gr_alloc (World.grownBy.refl wr none) (.cells #[.int .i64 (f.c), .int .i64 (f.a)] 79)) (by simp)
            have hga := gr_alloc hg (.cells #[.int .i64 (f.c), .int .i64 (f.a)] 79)
            have hgWa := gr_alloc hgW (.cells #[.int .i64 (f.c), .int .i64 (f.a)] 79)
            have HL : L0 ++ (sdsOf f).take (2 + 1) = (L0 ++ (sdsOf f).take 2) ++ [⟨f.c, f.a⟩] := by simp [sdsOf]
            replace HL := hide HL
            generalize L0 ++ (sdsOf f).take 2 = L at *
            clear hM hg hgW HS
            replace hMa := hide hMa
            replace hok1 := hide hok1
            go_wp2_with (at_mapUpdate; refine wpList_store_S _ rfl _ _ _ rfl bm _ L rfl hMa.out (by simp [maxLen]; omega) ⟨f.c, f.a⟩ rfl rfl hok1.out ?_; intro w4 hM4 hg4)
            have hM5 := hide (show MapOf sideM w4 bm (3 * k + (2 + 1)) (setS (L0 ++ (sdsOf f).take (2 + 1))) by rw [HL.out]; exact hM4.mono (by omega))
            have hg5 := gr_new hga hg4 (by omega)
            have hg6 := gr_trans hgWa hg4
            clear hM4 HL
            go_roundw
            case rel => exact ⟨2 + 1, by omega, by go_num, hg5, hg6, hM5.out⟩
            case measure => simp [intOf]
        · have hj3 : j = 3 := by omega
          subst hj3
          have e3 : (sdsOf f).take 3 = sdsOf f := rfl
          rw [e3, ← HS.out] at hM
          replace hM := hide hM
          go_wp2
          (go_roundw; (case rel => exact ⟨k + 1, by omega, by go_num, hg, hgW, hM.out.mono (by omega)⟩); (case measure => simp [intOf]; omega))
    · rw [List.take_of_length_le (show fs.length ≤ k by omega)] at hM
      generalize allS fs = L at *
      clear hM0
      replace hM := hide hM
      go_wp2_with (at_range; refine wpList_range_M _ sideM rfl _ _ rfl Try.underlying113 bm _ _ rfl hM.out ?_; intro w5 cnt hR hg5 hs5 hcn)
      have hg6 := gr_trans hg hg5
      have hr0 : w.heap.size ≤ wr.heap.size := hg.size
      clear hM hg hgW hgW3 hgC hcn hs5 hg5 b3
      generalize wr.heap.size = r at *
      go_frame
      go_loopw [8] (fun o wr => ∃ (S : Sd → Prop) (cnt : Nat), o = .slice none 0 0 ∧ RangeOf sideM wr bm r (3 * k) (setS L) S cnt ∧ w.grownBy wr none) (fun _ wr => wr.rangeLeft bm r)
      case atStart => exact ⟨_, cnt, rfl, hR, hg6⟩
      case round =>
        obtain ⟨S, cn, rfl, hR1, hg1⟩ := hrel
        have hleft := hR1.left
        have hmap := hR1.map
        have hne := hR1.ne
        go_wp2_with (at_next; refine wpList_next_S _ rfl _ rfl bm r _ _ S cn rfl hR1 (fun _ _ => Hid.out ?_) (fun x w7 cn7 hox hSx hxL hR7 hlt7 hg7 hen => Hid.out ?_))
        · refine hide ?_
          go_wp2_with (go_at_call 109; refine (sortNil_any _ _).mono ?_; rintro e w' ⟨rfl, rfl⟩)
          go_ret
          exact ⟨rfl, (by repeat (first | exact World.grownBy.refl _ _ | assumption | refine gr_alloc ?_ _ | (apply gr_tail; assumption) | refine gr_drewN ?_ _ | refine gr_drew ?_))⟩
        · refine hide ?_
          have hok2 := hide (hok0.out _ (hrev.out x hxL))
          have hb : Hid (decide (revS x ∈ L) = true) := decide_eq_true (hrev.out x hxL)
          have hMx := hide (hR7.map.kept (gr_alloc (World.grownBy.refl w7 none) (.cells #[.int .i64 x.u, .int .i64 x.v] 79)) (by simp))
          have hR8 := hide (hR7.kept (gr_alloc (World.grownBy.refl w7 none) (.cells #[.int .i64 x.u, .int .i64 x.v] 79)) (by simp) (by simp))
          have hg8 := gr_alloc (gr_new hg1 hg7 hr0) (.cells #[.int .i64 x.u, .int .i64 x.v] 79)
          clear hR7 hSx hxL hR1 hmap
          go_wp2_with (at_lookup; refine wpList_lookup_S _ rfl _ _ rfl bm _ L rfl hMx.out (revS x) rfl hok2.out true hb.out ?_)
          go_roundw
          case rel => exact ⟨_, cn7, rfl, hR8.out, hg8⟩
          case measure => rw [hR8.out.left, hleft]; exact hlt7

end Go.Proofs.Ytjodjdjfagjiaaa

namespace Go.Proofs.Ytjodjdjfagjiaaa
open Go.RowKit Go.Bl

theorem inI_in (n : Nat) (x : Int) : inI n x = inB x 0 ((n : Int) - 1) := by
  unfold inI inB
  congr 1
  simp only [decide_eq_decide]; omega

theorem _root_.Go.Bl.Sl.sd_at {w : World} {lo g o : Nat} {l : List Sd} (h : Sl w lo (some ⟨g, o, none⟩) l) {k : Nat} (hk : k < l.length) : w.cell? ⟨g, o + k * 2, none⟩ = some (.int .i64 l[k].u) ∧ w.cell? ⟨g, o + k * 2 + 1, none⟩ = some (.int .i64 l[k].v) := by
  obtain ⟨g', o', c, e, _, _, rfl, hc⟩ := h.at_ (by decide) hk
  cases e
  exact ⟨hc 0 _ rfl, hc 1 _ rfl⟩

set_option maxHeartbeats 4000000 in
set_option maxRecDepth 100000 in
theorem meshFault_any (A : Option Addr) (c : Nat) (vs : List V3) (B : Option Addr) (d : Nat) (fs : List Fc) (w : World) (hl : Sl w 0 A vs) (hfs : Sl w 0 B fs) :
    Calls Try.prog 9 #[.agg #[.slice A vs.length c, .slice B fs.length d]] w fun e w' => e = .returned (.int .i64 (meshF ⟨vs, fs⟩)) ∧ w.grownBy w' none := by
  have hm := hl.1
  unfold maxLen at hm
  have hm2 := hfs.1
  unfold maxLen at hm2
  by_cases h0 : fs = []
  · have HE : Hid (meshF ⟨vs, fs⟩ = 8) := meshF_none h0
    have hz : fs.length = 0 := by simp [h0]
    have hzb : ((fs.length : Int) == 0) = true := by simp [hz]
    clear h0
    go_enter Try.func9, Try.ntmps9
    go_wp2
    go_ret
    exact ⟨ret_int HE.out.symm, (by repeat (first | exact World.grownBy.refl _ _ | assumption | refine gr_alloc ?_ _ | (apply gr_tail; assumption) | refine gr_drewN ?_ _ | refine gr_drew ?_))⟩
  · by_cases h1 : 1000 < vs.length ∨ 1000 < fs.length
    · have HE : Hid (meshF ⟨vs, fs⟩ = 2) := meshF_large h0 h1
      have hz : fs.length ≠ 0 := by simpa using h0
      clear h0
      by_cases h2 : 1000 < vs.length
      · clear h1
        go_enter Try.func9, Try.ntmps9
        go_wp2
        go_ret
        exact ⟨ret_int HE.out.symm, (by repeat (first | exact World.grownBy.refl _ _ | assumption | refine gr_alloc ?_ _ | (apply gr_tail; assumption) | refine gr_drewN ?_ _ | refine gr_drew ?_))⟩
      · have h3 : 1000 < fs.length := by omega
        clear h1
        go_enter Try.func9, Try.ntmps9
        go_wp2
        go_ret
        exact ⟨ret_int HE.out.symm, (by repeat (first | exact World.grownBy.refl _ _ | assumption | refine gr_alloc ?_ _ | (apply gr_tail; assumption) | refine gr_drewN ?_ _ | refine gr_drew ?_))⟩
    · have HF : Hid (vs.any farV = true → meshF ⟨vs, fs⟩ = 1) := meshF_far h0 h1
      have HG : Hid (vs.any farV = false → facesF vs fs ≠ 0 → meshF ⟨vs, fs⟩ = facesF vs fs) := meshF_face h0 h1
      have HT : Hid (vs.any farV = false → facesF vs fs = 0 → ¬ (allS fs).Nodup → meshF ⟨vs, fs⟩ = 6) := meshF_twice h0 h1
      have HO : Hid (vs.any farV = false → facesF vs fs = 0 → (allS fs).Nodup → meshF ⟨vs, fs⟩ = 0) := meshF_ok h0 h1
      have hz : fs.length ≠ 0 := by simpa using h0
      have hv1 : vs.length ≤ 1000 := by omega
      have hf1 : fs.length ≤ 1000 := by omega
      clear h0 h1
      have hg0 := gr_alloc (World.grownBy.refl w none) (.cells #[.slice A vs.length c, .slice B fs.length d] 29)
      have b0 := (Cell.new w [.slice A vs.length c, .slice B fs.length d] 29 0 _ rfl _ rfl).1
      have b1 := (Cell.new w [.slice A vs.length c, .slice B fs.length d] 29 1 _ rfl _ rfl).1
      replace b0 := hide b0
      replace b1 := hide b1
      by_cases hfar : vs.any farV = true
      · have HE := hide (HF.out hfar)
        have hv : vecsF vs = 1 := vecsF_yes hfar
        clear hfar HF HG HT HO
        go_enter Try.func9, Try.ntmps9
        go_wp2_with fail
        refine (vecFault_any A c vs _ (hl.pure hg0)).mono ?_
        rintro e w1 ⟨rfl, hg1⟩
        rw [hv]
        go_wp2_with fail
        go_ret
        exact ⟨ret_int HE.out.symm, gr_trans hg0 hg1⟩
      · have hfar : vs.any farV = false := by simpa using hfar
        have hv : vecsF vs = 0 := vecsF_no hfar
        replace HG := hide (HG.out hfar)
        replace HT := hide (HT.out hfar)
        replace HO := hide (HO.out hfar)
        replace hfar := hide hfar
        clear HF
        obtain ⟨X, hX⟩ : ∃ X : Int, X = facesF vs fs := ⟨_, rfl⟩
        rw [← hX] at HG HT HO
        replace hX := hide hX
        go_enter Try.func9, Try.ntmps9
        go_wp2_with fail
        refine (vecFault_any A c vs _ (hl.pure hg0)).mono ?_
        rintro e W2 ⟨rfl, hg1⟩
        rw [hv]
        clear hv
        replace b0 := hg1.k b0.out
        replace b1 := hg1.k b1.out
        have hgA := gr_trans hg0 hg1
        have hgW2 := World.grownBy.refl W2 none
        clear hg0 hg1
        go_wp2_with fail
        replace b0 := hide b0
        go_loopw [38] (fun i wr => ∃ k : Nat, k ≤ fs.length ∧ i = .int .i64 k ∧ w.grownBy wr none ∧ W2.grownBy wr none ∧ Hid (facesF vs (fs.drop k) = X)) (fun i _ => fs.length - (intOf i).toNat)
        case atStart => exact ⟨0, Nat.zero_le _, rfl, hgA, hgW2, by rw [Hid, hX.out]; rfl⟩
        case round =>
          obtain ⟨k, hk, rfl, hg, hgW, hdr⟩ := hrel
          have d0 := hgW.k b0.out
          have d1 := hgW.k b1
          have hlt0 : w.heap.size < wr.heap.size := cell_lt d0
          by_cases hlt : k < fs.length
          · obtain ⟨g, o, cx, rfl, hb0, hb1, rfl, hc⟩ := (hfs.pure hg).at_ (by decide) hlt
            have v0 : wr.cell? ⟨g, o + k * 3, none⟩ = some (.int .i64 fs[k].a) := hc 0 _ rfl
            have v1 : wr.cell? ⟨g, o + k * 3 + 1, none⟩ = some (.int .i64 fs[k].b) := hc 1 _ rfl
            have v2 : wr.cell? ⟨g, o + k * 3 + 2, none⟩ = some (.int .i64 fs[k].c) := hc 2 _ rfl
            clear hc
            have HS := facesF_drop (vs := vs) hlt
            generalize hff : fs[k] = f at *
            rw [hdr.out] at HS
            replace hff := hide hff
            have HZ : Hid (faceF vs f = 0 → facesF vs (fs.drop (k + 1)) = X) := fun h => by rw [if_pos h] at HS; exact HS.symm
            have HX : Hid (faceF vs f ≠ 0 → faceF vs f = meshF ⟨vs, fs⟩) := fun hy => by
              rw [if_neg hy] at HS
              rw [HG.out (by rw [HS]; exact hy), HS]
            clear HS HT HO HG
            have hx : Hid (abc f = [f.a, f.b, f.c]) := rfl
            have hF := hide (inF_abc vs.length f)
            go_wp2_with fail
            have hq : Sl ((wr.alloc (.cells #[.int .i64 f.a, .int .i64 f.b, .int .i64 f.c] 67)).alloc (.cells #[.int .i64 f.a, .int .i64 f.b, .int .i64 f.c] 3)) 0 (some ⟨wr.heap.size + 1, 0, none⟩) (abc f) := by
              rw [hx.out]; exact sl_intsAt _ _ _ _ _ (by simp) (Nat.zero_le _) (by simp [maxLen])
            have hgx := gr_alloc (gr_alloc (World.grownBy.refl wr none) (.cells #[.int .i64 f.a, .int .i64 f.b, .int .i64 f.c] 67)) (.cells #[.int .i64 f.a, .int .i64 f.b, .int .i64 f.c] 3)
            have c0 : ((wr.alloc (.cells #[.int .i64 f.a, .int .i64 f.b, .int .i64 f.c] 67)).alloc (.cells #[.int .i64 f.a, .int .i64 f.b, .int .i64 f.c] 3)).cell? ⟨wr.heap.size, 0, none⟩ = some (.int .i64 f.a) := by go_simp
            have c1 : ((wr.alloc (.cells #[.int .i64 f.a, .int .i64 f.b, .int .i64 f.c] 67)).alloc (.cells #[.int .i64 f.a, .int .i64 f.b, .int .i64 f.c] 3)).cell? ⟨wr.heap.size, 1, none⟩ = some (.int .i64 f.b) := by go_simp
            have c2 : ((wr.alloc (.cells #[.int .i64 f.a, .int .i64 f.b, .int .i64 f.c] 67)).alloc (.cells #[.int .i64 f.a, .int .i64 f.b, .int .i64 f.c] 3)).cell? ⟨wr.heap.size, 2, none⟩ = some (.int .i64 f.c) := by go_simp
            replace d0 := hgx.k d0
            replace d1 := hgx.k d1
            have hgB := gr_trans hg hgx
            have hgW2' := gr_trans hgW hgx
            have hl3 : (abc f).length = 3 := rfl
            clear hx v0 v1 v2 hg hgW
            generalize hqq : abc f = q at *
            clear hqq
            generalize (wr.alloc (.cells #[.int .i64 f.a, .int .i64 f.b, .int .i64 f.c] 67)).alloc (.cells #[.int .i64 f.a, .int .i64 f.b, .int .i64 f.c] 3) = W4 at *
            generalize wr.heap.size = sz at *
            have hWW := World.grownBy.refl W4 none
            go_loopw [50] (fun i wr => ∃ j : Nat, j ≤ 3 ∧ i = .int .i64 j ∧ w.grownBy wr none ∧ W2.grownBy wr none ∧ W4.grownBy wr none ∧ Hid ((q.take j).all (inI vs.length) = true)) (fun i _ => 3 - (intOf i).toNat)
            case atStart => exact ⟨0, by omega, rfl, hgB, hgW2', hWW, by simp [Hid]⟩
            case round =>
              obtain ⟨j, hj, rfl, hgr, hgr2, hgr4, hall⟩ := hrel
              replace d0 := hgr4.k d0
              replace d1 := hgr4.k d1
              replace c0 := hgr4.k c0
              replace c1 := hgr4.k c1
              replace c2 := hgr4.k c2
              by_cases hjt : j < 3
              · have e0 := (hq.pure hgr4).int_at (show j < q.length by omega)
                rw [Nat.zero_add] at e0
                have HS := hide (allI_snoc (n := vs.length) (show j < q.length by omega))
                have HA : Hid (inI vs.length (q[j]'(by omega)) = false → q.all (inI vs.length) = false) := allI_not (show j < q.length by omega)
                have HI : Hid (inI vs.length (q[j]'(by omega)) = inB (q[j]'(by omega)) 0 ((vs.length : Int) - 1)) := inI_in _ _
                have hFo : Hid (inF vs.length f = false → faceF vs f = 8) := faceF_out
                have HX8 : Hid (faceF vs f = 8 → 8 = meshF ⟨vs, fs⟩) := fun e => by rw [← e]; exact HX.out (by rw [e]; decide)
                go_wp2_with (go_at_call 44; refine (in_any _ _ _ _).mono ?_; rintro e w' ⟨rfl, rfl⟩)
                all_goals first
                  | (go_ret; exact ⟨ret_int (HX8.out (hFo.out (by rw [hF.out]; exact HA.out (by rw [HI.out]; rename_i h; simpa using h)))), (by repeat (first | exact World.grownBy.refl _ _ | assumption | refine gr_alloc ?_ _ | (apply gr_tail; assumption) | refine gr_drewN ?_ _ | refine gr_drew ?_))⟩)
                  | (go_roundw; (case rel => exact ⟨j + 1, by omega, by go_num, (by repeat (first | exact World.grownBy.refl _ _ | assumption | refine gr_alloc ?_ _ | (apply gr_tail; assumption) | refine gr_drewN ?_ _ | refine gr_drew ?_)), (by repeat (first | exact World.grownBy.refl _ _ | assumption | refine gr_alloc ?_ _ | (apply gr_tail; assumption) | refine gr_drewN ?_ _ | refine gr_drew ?_)), (by repeat (first | exact World.grownBy.refl _ _ | assumption | refine gr_alloc ?_ _ | (apply gr_tail; assumption) | refine gr_drewN ?_ _ | refine gr_drew ?_)), by simp only [Hid]; rw [HS.out, hall.out, HI.out]; rename_i h; simpa using h⟩); (case measure => simp [intOf]; omega))
              · have hin : inF vs.length f = true := by rw [hF.out]; have := hall.out; rwa [List.take_of_length_le (by omega)] at this
                have hin2 := hide hin
                have HE3 : Hid ((normV vs f).x = 0 ∧ (normV vs f).y = 0 ∧ (normV vs f).z = 0 → 3 = meshF ⟨vs, fs⟩) := fun h => by
                  have e := faceF_flat hin ((v3_zero _).2 h)
                  rw [← e]; exact HX.out (by rw [e]; decide)
                have HE0 : Hid (¬ ((normV vs f).x = 0 ∧ (normV vs f).y = 0 ∧ (normV vs f).z = 0) → facesF vs (fs.drop (k + 1)) = X) := fun h => HZ.out (faceF_ok hin (fun e => h ((v3_zero _).1 e)))
                clear hin HX HZ
                have hj3 : j = 3 := by omega
                subst hj3
                go_wp2_with (go_at_call 45; refine (normalRef_any A c vs (some ⟨g, o, none⟩) fs.length d f _ (hl.pure (by repeat (first | exact World.grownBy.refl _ _ | assumption | refine gr_alloc ?_ _ | (apply gr_tail; assumption) | refine gr_drewN ?_ _ | refine gr_drew ?_))) hfar.out hin2.out).mono ?_; rintro e w' ⟨rfl, hg'⟩; generalize normV vs f = N at *)
                all_goals first
                  | (go_ret; exact ⟨ret_int (HE3.out (by omega)), (by repeat (first | exact World.grownBy.refl _ _ | assumption | refine gr_alloc ?_ _ | (apply gr_tail; assumption) | refine gr_drewN ?_ _ | refine gr_drew ?_))⟩)
                  | (go_roundw; (case rel => exact ⟨k + 1, by omega, by go_num, (by repeat (first | exact World.grownBy.refl _ _ | assumption | refine gr_alloc ?_ _ | (apply gr_tail; assumption) | refine gr_drewN ?_ _ | refine gr_drew ?_)), (by repeat (first | exact World.grownBy.refl _ _ | assumption | refine gr_alloc ?_ _ | (apply gr_tail; assumption) | refine gr_drewN ?_ _ | refine gr_drew ?_)), HE0.out (by omega)⟩); (case measure => simp [intOf]; omega))
                  | trace_state
          · have HX : X = 0 := by rw [← hdr.out, List.drop_of_length_le (by omega)]; rfl
            replace HT := hide (HT.out HX)
            replace HO := hide (HO.out HX)
            clear HG hdr
            go_wp2_with fail
            have hgR := hg
            clear d0 d1 hg hgW hgA hgW2 b0 b1
            go_loopw [8, 71] (fun o i wr => ∃ (k : Nat) (out : List Sd) (A' : Option Addr) (c' : Nat), k ≤ fs.length ∧ i = .int .i64 k ∧ o = .slice A' out.length c' ∧ Hid (out = allS (fs.take k)) ∧ Own wr w.heap.size 79 A' c' out ∧ w.grownBy wr none ∧ Hid out.Nodup) (fun _ i _ => fs.length - (intOf i).toNat)
            case atStart => exact ⟨0, [], none, 0, Nat.zero_le _, rfl, rfl, by simp [Hid, allS], Own.nil _ _ _, hgR, by simp [Hid]⟩
            case round =>
              obtain ⟨k, out, A', c', hk, rfl, rfl, hout, hown, hg, hnd⟩ := hrel
              by_cases hlt : k < fs.length
              · have HD := hide (fun j hj h => (HT.out (not_nodup (j := j) hlt hj h)).symm)
                have HS := hide (allS_snoc hlt)
                have hol : out.length ≤ 3000 := by rw [hout.out, allS_len]; simp; omega
                obtain ⟨g, o, cx, rfl, hb0, hb1, rfl, hc⟩ := (hfs.pure hg).at_ (by decide) hlt
                have v0 : wr.cell? ⟨g, o + k * 3, none⟩ = some (.int .i64 fs[k].a) := hc 0 _ rfl
                have v1 : wr.cell? ⟨g, o + k * 3 + 1, none⟩ = some (.int .i64 fs[k].b) := hc 1 _ rfl
                have v2 : wr.cell? ⟨g, o + k * 3 + 2, none⟩ = some (.int .i64 fs[k].c) := hc 2 _ rfl
                clear hc
                generalize fs[k] = f at *
                clear HT HO
                rw [← hout.out] at HD HS
                go_wp2_with fail
                refine (sidesOf_any f _).mono ?_
                rintro e w2 ⟨As, rfl, hsd, hg2⟩
                obtain ⟨gs, os, _, rfl, hgs1, hgs2, _, _⟩ := hsd.at_ (by decide) (show 0 < (sdsOf f).length by simp [sdsOf])
                simp at hgs1
                have hgA := gr_trans (gr_alloc hg (.cells #[.int .i64 f.a, .int .i64 f.b, .int .i64 f.c] 67)) hg2
                have hownA := (hown.pure (gr_alloc (World.grownBy.refl _ _) (.cells #[.int .i64 f.a, .int .i64 f.b, .int .i64 f.c] 67))).pure hg2
                have hA' : ∀ g, blk A' = some g → g ≠ gs := fun g hb => by have := (hown.blk_lt hb).2; omega
                have hsd0 := hsd.mono (Nat.zero_le _)
                have hownA := hide hownA
                have hA' := hide hA'
                clear hown hsd hg hg2 v0 v1 v2
                go_wp2_with fail
                go_loopw [8, 78] (fun o i wr => ∃ (j : Nat) (out2 : List Sd) (A2 : Option Addr) (c2 : Nat), j ≤ 3 ∧ i = .int .i64 j ∧ o = .slice A2 out2.length c2 ∧ Hid (out2 = out ++ (sdsOf f).take j) ∧ Own wr w.heap.size 79 A2 c2 out2 ∧ w.grownBy wr none ∧ Sl wr 0 (some ⟨gs, os, none⟩) (sdsOf f) ∧ (gs < wr.heap.size ∧ ∀ g, blk A2 = some g → g ≠ gs) ∧ Hid out2.Nodup) (fun _ i _ => 3 - (intOf i).toNat)
                case atStart => exact ⟨0, out, A', c', by omega, rfl, rfl, by simp [Hid], hownA.out, hgA, hsd0, ⟨hgs2, hA'.out⟩, hnd⟩
                case round =>
                  obtain ⟨j, out2, A2, c2, hj, rfl, rfl, hout2, hown2, hg, hsd, ⟨hgs3, hA2⟩, hnd2⟩ := hrel
                  by_cases hjt : j < 3
                  · have hjl : j < (sdsOf f).length := by simp [sdsOf]; omega
                    have hlen2 : out2.length ≤ 3003 := by rw [hout2.out]; simp; omega
                    obtain ⟨e0, e1⟩ := hsd.sd_at hjl
                    have HDj := hide (HD.out j hjl)
                    have HT2 : Hid (out ++ (sdsOf f).take (j + 1) = out2 ++ [(sdsOf f)[j]]) := by rw [Hid, hout2.out, take_snoc hjl, List.append_assoc]
                    rw [← hout2.out] at HDj
                    generalize (sdsOf f)[j] = s at *
                    have hz1 := hg.size
                    have hownB := hown2.pure (gr_alloc (World.grownBy.refl wr none) (.cells #[.int .i64 s.u, .int .i64 s.v] 79))
                    have hsdB := hsd.pure (gr_alloc (World.grownBy.refl wr none) (.cells #[.int .i64 s.u, .int .i64 s.v] 79))
                    have b0 := Cell.new wr [.int .i64 s.u, .int .i64 s.v] 79 0 _ rfl _ rfl
                    have b1 := Cell.new wr [.int .i64 s.u, .int .i64 s.v] 79 1 _ rfl _ rfl
                    have hgB := gr_alloc hg (.cells #[.int .i64 s.u, .int .i64 s.v] 79)
                    clear HD HS hsd hown2 hg
                    replace hA2 := hide hA2
                    by_cases hin : s ∈ out2
                    · have hb : decide (s ∈ out2) = true := decide_eq_true hin
                      have HE := hide (HDj.out hin)
                      clear hin HDj
                      go_wp2_with fail
                      refine (containsSide_any A2 _ c2 out2 s _ (hownB.sl.mono (Nat.zero_le _)) rfl).mono ?_
                      rintro e w5 ⟨rfl, hg5⟩
                      rw [hb]
                      clear hb
                      go_wp2_with fail
                      go_ret
                      exact ⟨ret_int HE.out, gr_trans hgB hg5⟩
                    · have hb : decide (s ∈ out2) = false := decide_eq_false hin
                      have hnd5 := hide (nodup_snoc hnd2.out hin)
                      clear hin HDj hnd2
                      go_wp2_with fail
                      refine (containsSide_any A2 _ c2 out2 s _ (hownB.sl.mono (Nat.zero_le _)) rfl).mono ?_
                      rintro e w5 ⟨rfl, hg5⟩
                      rw [hb]
                      clear hb
                      have b0 := (b0.gr hg5 (by simp)).1
                      have b1 := (b1.gr hg5 (by simp)).1
                      have hownC := hownB.pure hg5
                      have hsdC := hsdB.pure hg5
                      have hgC := gr_trans hgB hg5
                      have hz5 := hg5.size
                      simp at hz5
                      clear hownB hsdB hgB hg5
                      obtain ⟨i0, hi, hz, h1, h2⟩ := info_parts info_side
                      go_wp2_with (at_builtin; refine wpList_pushAt (α := Sd) _ rfl (.tmp 85) (.tmp 87) _ rfl w.heap.size 79 i0 _ 16 Try.underlying76 hi hz h1 h2 rfl A2 _ c2 out2 rfl rfl (by exact hownC.pure (by repeat (first | exact World.grownBy.refl _ _ | assumption | refine gr_alloc ?_ _ | refine gr_drewN ?_ _ | refine gr_drew ?_))) 0 ⟨_, 0, none⟩ 1 1 [s] rfl rfl (by exact sl_oneAt _ 0 [.int .i64 s.u, .int .i64 s.v] _ _ _ (by first | rfl | simp) (Nat.zero_le _) rfl) ?c2 ?c3 ?c4 ?_)
                      case c2 => simp; omega
                      case c3 => simp [maxLen]; omega
                      case c4 => simp; omega
                      intro A9 c9 w9 hO9 hG9
                      have hgD := gr_row (gr_alloc hgC (.cells #[.int .i64 s.u, .int .i64 s.v] 79)) hG9.1 (fun g e => (hownC.blk_lt e).1)
                      have hsdD := (hsdC.pure (gr_alloc (World.grownBy.refl w5 none) (.cells #[.int .i64 s.u, .int .i64 s.v] 79))).ne hG9.1 (fun g hb e => hA2.out g e (by simpa [blk] using hb.symm))
                      have hgs4 : gs < w9.heap.size := by have := hG9.1.size; simp at this; omega
                      have hA9 : ∀ g, blk A9 = some g → g ≠ gs := fun g e => by
                        rcases hG9.2 with h | h
                        · exact hA2.out g (by rw [← h]; exact e)
                        · rw [h] at e; simp at e; omega
                      replace hA9 := hide hA9
                      have hout9 : Hid (out2 ++ [s] = out ++ (sdsOf f).take (j + 1)) := HT2.out.symm
                      clear hG9 hA2 HT2 hownC hsdC
                      go_wp2
                      (go_roundw; (case rel => exact ⟨j + 1, out2 ++ [s], A9, c9, by omega, by go_num, by simp, hout9, hO9, hgD, hsdD, ⟨hgs4, hA9.out⟩, hnd5⟩); (case measure => simp [intOf]; omega))
                  · have hj3 : j = 3 := by omega
                    subst hj3
                    have e3 : (sdsOf f).take 3 = sdsOf f := rfl
                    have hout3 : Hid (out2 = allS (fs.take (k + 1))) := by rw [Hid, HS.out, hout2.out, e3]
                    replace hown2 := hide hown2
                    clear hA2 hsd
                    go_wp2
                    (go_roundw; (case rel => exact ⟨k + 1, out2, A2, c2, by omega, by go_num, rfl, hout3, hown2.out, hg, hnd2⟩); (case measure => simp [intOf]; omega))
              · have HE : Hid (0 = meshF ⟨vs, fs⟩) := (HO.out (by have := hnd.out; rw [hout.out] at this; rwa [List.take_of_length_le (by omega)] at this)).symm
                clear HT HO
                go_wp2
                go_ret
                exact ⟨ret_int HE.out, hg⟩

end Go.Proofs.Ytjodjdjfagjiaaa

namespace Go.Proofs.Ytjodjdjfagjiaaa
open Go.RowKit Go.Bl

def pyrV : List V3 := [⟨0, 0, 0⟩, ⟨6, 0, 0⟩, ⟨0, 6, 0⟩, ⟨0, 0, 6⟩]
def pyrF : List Fc := [⟨0, 2, 1⟩, ⟨0, 1, 3⟩, ⟨1, 2, 3⟩, ⟨0, 3, 2⟩]

set_option maxHeartbeats 1000000 in
set_option maxRecDepth 100000 in
theorem pyramid_any (w : World) : Calls Try.prog 61 #[] w fun e w' => ∃ A B, e = .returned (.agg #[.slice A 4 4, .slice B 4 4]) ∧ Sl w' 0 A pyrV ∧ Sl w' 0 B pyrF ∧ w.grownBy w' none := by
  go_enter Try.func61, Try.ntmps61
  go_wp2_with fail
  refine bodyPost_ret (v := .agg #[.slice (some ⟨w.heap.size + 1, 0, none⟩) 4 4, .slice (some ⟨w.heap.size + 1 + 1, 0, none⟩) 4 4]) (by simp [results, Try.results61, go_sem]) rfl ⟨_, _, rfl, ?_, ?_, ?_⟩
  · exact (sl_litAt _ 0 _ 49 pyrV _ (by simp) (Nat.zero_le _) (by simp [pyrV, maxLen]) ⟨_, _, rfl, rfl, _, _, rfl, rfl, _, _, rfl, rfl, _, _, rfl, rfl, rfl⟩).pure (gr_alloc (World.grownBy.refl _ _) _)
  · exact sl_litAt _ 0 _ 67 pyrF _ (by simp) (Nat.zero_le _) (by simp [pyrF, maxLen]) ⟨_, _, rfl, rfl, _, _, rfl, rfl, _, _, rfl, rfl, _, _, rfl, rfl, rfl⟩
  · exact (by repeat (first | exact World.grownBy.refl _ _ | assumption | refine gr_alloc ?_ _ | (apply gr_tail; assumption) | refine gr_drewN ?_ _ | refine gr_drew ?_))

theorem pyr_ok : meshF ⟨pyrV, pyrF⟩ = 0 := by decide
theorem pyr_side : ∀ s ∈ allS pyrF, okS s := by
  intro s hs
  simp only [allS, pyrF, sdsOf, List.flatMap_cons, List.flatMap_nil, List.cons_append, List.nil_append, List.append_nil, List.mem_cons, List.not_mem_nil, or_false] at hs
  rcases hs with rfl | rfl | rfl | rfl | rfl | rfl | rfl | rfl | rfl | rfl | rfl | rfl <;> exact ⟨by decide, by decide⟩
theorem pyr_rev : ∀ s ∈ allS pyrF, revS s ∈ allS pyrF := by decide

set_option maxHeartbeats 1000000 in
theorem closedPyr_any (A B : Option Addr) (w : World) (hA : Sl w 0 A pyrV) (hB : Sl w 0 B pyrF) : Calls Try.prog 99 #[.agg #[.slice A 4 4, .slice B 4 4]] w fun e w' => e = .returned (.int .i64 0) ∧ w.grownBy w' none := by
  have hg0 := gr_alloc (World.grownBy.refl w none) (.cells #[.slice A 4 4, .slice B 4 4] 29)
  have b0 := Cell.new w [.slice A 4 4, .slice B 4 4] 29 0 _ rfl _ rfl
  have b1 := Cell.new w [.slice A 4 4, .slice B 4 4] 29 1 _ rfl _ rfl
  go_enter Try.func99, Try.ntmps99
  go_wp2_with fail
  refine (checkMesh_any A 4 pyrV B 4 pyrF _ (hA.pure hg0) (hB.pure hg0)).mono ?_
  rintro e w1 ⟨rfl, hg1⟩
  rw [pyr_ok]
  have b0 := (b0.gr hg1 (by simp)).1
  have b1 := (b1.gr hg1 (by simp)).1
  have hg2 := gr_trans hg0 hg1
  go_wp2_with fail
  refine (openNone_any A 4 4 B 4 pyrF _ (hB.pure hg2) (by decide) pyr_side pyr_rev).mono ?_
  rintro e w2 ⟨rfl, hg3⟩
  go_wp2_with fail
  go_ret
  exact ⟨rfl, gr_trans hg2 hg3⟩

def partV (vs : List V3) (f : Fc) : Int := dotV (atV vs f.a) (crossV (atV vs f.b) (atV vs f.c))

set_option maxHeartbeats 2000000 in
set_option maxRecDepth 100000 in
theorem part_any (A : Option Addr) (c : Nat) (vs : List V3) (B : Option Addr) (m d : Nat) (f : Fc) (w : World) (hl : Sl w 0 A vs) (hf : vs.any farV = false) (hin : inF vs.length f = true) :
    Calls Try.prog 100 #[.agg #[.slice A vs.length c, .slice B m d], .agg #[.int .i64 f.a, .int .i64 f.b, .int .i64 f.c]] w fun e w' => e = .returned (.int .i64 (partV vs f)) ∧ w.grownBy w' none := by
  have ba := atV_bd hf f.a
  have bb := atV_bd hf f.b
  have bc := atV_bd hf f.c
  have hN : Hid (partV vs f = dotV (atV vs f.a) (crossV (atV vs f.b) (atV vs f.c))) := rfl
  generalize partV vs f = N at *
  clear hf
  have hm := hl.1
  unfold maxLen at hm
  obtain ⟨i, j, k, hi, hj, hk, rfl, ea, eb, ec⟩ := inF_at hin
  rw [ea] at ba hN
  rw [eb] at bb hN
  rw [ec] at bc hN
  clear ea eb ec hin
  obtain ⟨g, o, rfl, hb0, hb1, hcell⟩ := hl.v3 (by omega)
  obtain ⟨x0, x1, x2⟩ := hcell i hi
  obtain ⟨y0, y1, y2⟩ := hcell j hj
  obtain ⟨z0, z1, z2⟩ := hcell k hk
  clear hcell
  have hb2 : g < w.heap.size + 1 := by omega
  have hb3 : g < w.heap.size + 1 + 1 := by omega
  have hb4 : g < w.heap.size + 1 + 1 + 1 := by omega
  generalize vs[i] = va at *
  generalize vs[j] = vb at *
  generalize vs[k] = vc at *
  generalize vs.length = n at *
  go_enter Try.func100, Try.ntmps100
  go_wp2_with fail
  obtain ⟨W, hW⟩ : ∃ W, W = (w.alloc (.cells #[.slice (some ⟨g, o, none⟩) n c, .slice B m d] 29)).alloc (.cells #[.int .i64 i, .int .i64 j, .int .i64 k] 67) := ⟨_, rfl⟩
  have hg : w.grownBy W none := by rw [hW]; exact (by repeat (first | exact World.grownBy.refl _ _ | assumption | refine gr_alloc ?_ _ | (apply gr_tail; assumption) | refine gr_drewN ?_ _ | refine gr_drew ?_))
  have b0 : W.cell? ⟨w.heap.size, 0, none⟩ = some (.slice (some ⟨g, o, none⟩) n c) := by rw [hW]; go_simp
  have b3 : W.cell? ⟨w.heap.size + 1, 0, none⟩ = some (.int .i64 i) := by rw [hW]; go_simp
  have b4 : W.cell? ⟨w.heap.size + 1, 1, none⟩ = some (.int .i64 j) := by rw [hW]; go_simp
  have b5 : W.cell? ⟨w.heap.size + 1, 2, none⟩ = some (.int .i64 k) := by rw [hW]; go_simp
  rw [← hW]
  clear hW
  replace x0 := hg.k x0
  replace x1 := hg.k x1
  replace x2 := hg.k x2
  replace y0 := hg.k y0
  replace y1 := hg.k y1
  replace y2 := hg.k y2
  replace z0 := hg.k z0
  replace z1 := hg.k z1
  replace z2 := hg.k z2
  refine wp_region_fix 20 ((fun wx => W.grownBy wx none)) (by kernel_rfl) (by kernel_rfl) (gr_drew (World.grownBy.refl _ _)) ?_
  simp only [List.take_succ_cons, List.take_zero, List.drop_succ_cons, List.drop_zero]
  iterate 18 ((refine fix_b (fun K hK => ?_); apply Exists.intro; refine ⟨fun wx hC K' hK' => ?_, ?_⟩; (focus (replace hK' := hide hK'; (have d0 := hC.k b0; have d3 := hC.k b3; have d4 := hC.k b4; have d5 := hC.k b5; have d6 := hC.k x0; have d7 := hC.k x1; have d8 := hC.k x2; have d9 := hC.k y0; have e1 := hC.k y1; have e2 := hC.k y2; have e3 := hC.k z0; have e4 := hC.k z1; have e5 := hC.k z2); go_wp2_with fail; exact hK'.out _ hC)); go_simp; refine hK _ ?_; clear hK K))
  (refine fix_b (fun K hK => ?_); apply Exists.intro; refine ⟨fun wx hC K' hK' => ?_, ?_⟩; (focus (replace hK' := hide hK'; skip; go_wp2_with fail; (refine (cross_any vb vc _ (bb.mono (by decide)) (bc.mono (by decide))).mono ?_; rintro e w' ⟨rfl, hg'⟩; go_wp2_with fail; exact hK'.out _ (gr_trans hC hg')))); go_simp; refine hK _ ?_; clear hK K)
  (refine fix_b (fun K hK => ?_); apply Exists.intro; refine ⟨fun wx hC K' hK' => ?_, ?_⟩; (focus (replace hK' := hide hK'; skip; go_wp2_with fail; (refine (dot_any va (crossV vb vc) _ ba ((bb.cross bc).mono (by decide))).mono ?_; rintro e w' ⟨rfl, hg'⟩; go_wp2_with fail; exact hK'.out _ (gr_trans hC hg')))); go_simp; refine hK _ ?_; clear hK K)
  refine fix_nil ?_
  intro wz hC
  go_wp2_with fail
  go_ret
  exact ⟨ret_int hN.out.symm, gr_trans hg hC⟩

end Go.Proofs.Ytjodjdjfagjiaaa

namespace Go.Proofs.Ytjodjdjfagjiaaa
open Go.RowKit Go.Bl

def volK (k : Nat) : Int := ((pyrF.take k).map (partV pyrV)).sum

def pyrAt (k : Nat) : Fc := pyrF.getD k ⟨0, 0, 0⟩
theorem volK_succ : ∀ k, k < 4 → volK (k + 1) = volK k + partV pyrV (pyrAt k) ∧ (-1000 ≤ volK k ∧ volK k ≤ 1000) ∧ (-1000 ≤ partV pyrV (pyrAt k) ∧ partV pyrV (pyrAt k) ≤ 1000) ∧ inF pyrV.length (pyrAt k) = true := by decide

set_option maxHeartbeats 2000000 in
set_option maxRecDepth 100000 in
theorem volumePyr_any (A B : Option Addr) (w : World) (hA : Sl w 0 A pyrV) (hB : Sl w 0 B pyrF) : Calls Try.prog 60 #[.agg #[.slice A 4 4, .slice B 4 4]] w fun e w' => e = .returned (.tuple #[.int .i64 216, .int .i64 0]) ∧ w.grownBy w' none := by
  have hg0 := gr_alloc (World.grownBy.refl w none) (.cells #[.slice A 4 4, .slice B 4 4] 29)
  have b0 := Cell.new w [.slice A 4 4, .slice B 4 4] 29 0 _ rfl _ rfl
  have b1 := Cell.new w [.slice A 4 4, .slice B 4 4] 29 1 _ rfl _ rfl
  go_enter Try.func60, Try.ntmps60
  go_wp2_with fail
  refine (closedPyr_any A B _ (hA.pure hg0) (hB.pure hg0)).mono ?_
  rintro e w1 ⟨rfl, hg1⟩
  have b0 := (b0.gr hg1 (by simp)).1
  have b1 := (b1.gr hg1 (by simp)).1
  have hg2 := gr_trans hg0 hg1
  clear hg0 hg1
  go_wp2_with fail
  have hW := World.grownBy.refl w1 none
  go_loopw [5, 16] (fun o i wr => ∃ k : Nat, k ≤ 4 ∧ i = .int .i64 k ∧ o = .int .i64 (volK k) ∧ w.grownBy wr none ∧ w1.grownBy wr none) (fun _ i _ => 4 - (intOf i).toNat)
  case atStart => exact ⟨0, by omega, rfl, rfl, hg2, hW⟩
  case round =>
    obtain ⟨k, hk, rfl, rfl, hg, hgW⟩ := hrel
    by_cases hlt : k < 4
    · obtain ⟨hv1, hv2, hv3, hv4⟩ := volK_succ k hlt
      have d0 := hgW.k b0
      have d1 := hgW.k b1
      have hlt0 : w.heap.size < wr.heap.size := cell_lt d0
      obtain ⟨g, o, rfl, hb0, hb1, hc⟩ := (hB.pure hg).fc (by decide)
      have hlt' : k < pyrF.length := hlt
      have hpe : pyrF[k] = pyrAt k := by simp [pyrAt, hlt']
      obtain ⟨v0, v1, v2⟩ := hc k hlt'
      rw [hpe] at v0 v1 v2
      clear hpe
      clear hc
      replace hv1 := hide hv1
      replace hv4 := hide hv4
      generalize pyrAt k = f at *
      go_wp2_with fail
      refine (part_any A 4 pyrV _ 4 4 f _ (hA.pure (gr_alloc hg _)) (by decide) hv4.out).mono ?_
      rintro e w' ⟨rfl, hg'⟩
      generalize partV pyrV f = X at *
      generalize hVk : volK k = V at *
      go_wp2_with fail
      (go_roundw; (case rel => exact ⟨k + 1, by omega, by go_num, by rw [hv1.out], (by repeat (first | exact World.grownBy.refl _ _ | assumption | refine gr_alloc ?_ _ | (apply gr_tail; assumption) | refine gr_drewN ?_ _ | refine gr_drew ?_)), (by repeat (first | exact World.grownBy.refl _ _ | assumption | refine gr_alloc ?_ _ | (apply gr_tail; assumption) | refine gr_drewN ?_ _ | refine gr_drew ?_))⟩); (case measure => simp [intOf]; omega))
    · have hk4 : k = 4 := by omega
      subst hk4
      rw [show volK 4 = 216 by decide]
      go_wp2
      exact bodyPost_ret (v := .tuple #[.int .i64 216, .int .i64 0]) (by simp [results, Try.results60, go_sem]) rfl ⟨rfl, hg⟩

theorem meshed_any (w : World) : Calls Try.prog 18 #[] w fun e w' => e = .returned (.bool true) ∧ w.grownBy w' none := by
  go_enter Try.func18, Try.ntmps18
  go_wp2_with fail
  refine (pyramid_any _).mono ?_
  rintro e w1 ⟨A, B, rfl, hA, hB, hg1⟩
  go_wp2_with fail
  refine (volumePyr_any A B _ hA hB).mono ?_
  rintro e w2 ⟨rfl, hg2⟩
  go_wp2_with fail
  go_ret
  exact ⟨rfl, gr_trans hg1 hg2⟩

end Go.Proofs.Ytjodjdjfagjiaaa

namespace Go.Proofs.Ytjodjdjfagjiaaa
open Go.RowKit Go.Bl

def SVec (b : Nat) (N : Int) (w : World) (e : Ending) (w' : World) : Prop := ∃ v : V3, e = .returned (.agg #[.int .i64 v.x, .int .i64 v.y, .int .i64 v.z]) ∧ Bd 1000000000000000 v ∧ SOut b N w w'

set_option maxHeartbeats 2000000 in
theorem aVec_any (b : Nat) (N : Int) (w : World) (hs : Strm w b N) (hN : N ≤ 1000000000) :
    Calls Try.prog 38 #[.pointer (some ⟨b, 0, none⟩)] w (SVec b (N + 6) w) := by
  have hbw := hs.lt
  have ho0 : SOut b N w (w.alloc (.cells #[.int .i64 0, .int .i64 0, .int .i64 0] 49)) := (SOut.refl hs).pure (gr_alloc (World.grownBy.refl _ _) _)
  have q0 := Cell.new w [.int .i64 0, .int .i64 0, .int .i64 0] 49 0 _ rfl _ rfl
  have q1 := Cell.new w [.int .i64 0, .int .i64 0, .int .i64 0] 49 1 _ rfl _ rfl
  have q2 := Cell.new w [.int .i64 0, .int .i64 0, .int .i64 0] 49 2 _ rfl _ rfl
  obtain ⟨W, hW⟩ : ∃ W, W = w.alloc (.cells #[.int .i64 0, .int .i64 0, .int .i64 0] 49) := ⟨_, rfl⟩
  simp only [List.toArray] at q0 q1 q2
  rw [← hW] at ho0 q0 q1 q2
  have hWs : W.heap.size = w.heap.size + 1 := by rw [hW]; simp
  have hoW : SOut b N W W := SOut.refl ho0.2
  have hbW : b < W.heap.size := by omega
  have hne : (some b : Option Nat) ≠ some w.heap.size := by simp; omega
  replace hW := hide hW.symm
  replace q0 := hide q0
  replace q1 := hide q1
  replace q2 := hide q2
  have hWt : Hid (w.heap.size + 1 = W.heap.size) := hWs.symm
  replace hWs := hide hWs
  go_enter Try.func38, Try.ntmps38
  go_wp2_with fail
  rw [hW.out]
  refine (pick_any b (N) _ _ _ [0, 1, 3, -5, 100] _ ((hoW).2.pure (gr_alloc (World.grownBy.refl _ _) _)) (by omega) (sl_intsAt _ _ _ _ _ (by first | rfl | exact hWt.out | simp) (by have := (hoW).lt; omega) (by simp [maxLen])) rfl (by simp)).mono ?_
  rintro e w1 ⟨r1, rfl, hr1, ho1⟩
  have hoA := (hoW.pure (gr_alloc (World.grownBy.refl _ _) _)).trans ho1
  have b1 : Hid (-1000000000000000 ≤ r1 ∧ r1 ≤ 1000000000000000) := by simp at hr1; simp only [Hid]; omega
  clear hr1 ho1
  go_wp2_with fail
  refine (pick_any b (N + 1) _ _ _ [0, 2, -7, 50] _ ((hoA).2.pure (gr_alloc (World.grownBy.refl _ _) _)) (by omega) (sl_intsAt _ _ _ _ _ (by first | rfl | exact hWt.out | simp) (by have := (hoA).lt; omega) (by simp [maxLen])) rfl (by simp)).mono ?_
  rintro e w2 ⟨r2, rfl, hr2, ho2⟩
  have hoB := (hoA.pure (gr_alloc (World.grownBy.refl _ _) _)).trans ho2
  have b2 : Hid (-1000000000000000 ≤ r2 ∧ r2 ≤ 1000000000000000) := by simp at hr2; simp only [Hid]; omega
  clear hr2 ho2
  go_wp2_with fail
  refine (pick_any b (N + 1 + 1) _ _ _ [0, 0, 4, -2, 20] _ ((hoB).2.pure (gr_alloc (World.grownBy.refl _ _) _)) (by omega) (sl_intsAt _ _ _ _ _ (by first | rfl | exact hWt.out | simp) (by have := (hoB).lt; omega) (by simp [maxLen])) rfl (by simp)).mono ?_
  rintro e w3 ⟨r3, rfl, hr3, ho3⟩
  have hoC := (hoB.pure (gr_alloc (World.grownBy.refl _ _) _)).trans ho3
  have b3 : Hid (-1000000000000000 ≤ r3 ∧ r3 ≤ 1000000000000000) := by simp at hr3; simp only [Hid]; omega
  clear hr3 ho3 hoA hoB hoW
  have v0 := Cell.new w3 [.int .i64 r1, .int .i64 r2, .int .i64 r3] 49 0 _ rfl _ rfl
  have v1 := Cell.new w3 [.int .i64 r1, .int .i64 r2, .int .i64 r3] 49 1 _ rfl _ rfl
  have v2 := Cell.new w3 [.int .i64 r1, .int .i64 r2, .int .i64 r3] 49 2 _ rfl _ rfl
  have hbe := hoC.1.size
  have hne3 : (some b : Option Nat) ≠ some w3.heap.size := by simp; omega
  go_wp2_with fail
  refine (flip_any b (N + 1 + 1 + 1) _ _ (hoC.2.pure (gr_alloc (World.grownBy.refl _ _) _)) (by omega) (by omega)).mono ?_
  rintro e w4 ⟨r4, rfl, ho4⟩
  have hoD := (hoC.pure (gr_alloc (World.grownBy.refl _ _) _)).trans ho4
  obtain ⟨d0, f0⟩ := v0.gr ho4.1 hne3
  obtain ⟨d1, f1⟩ := v1.gr ho4.1 hne3
  obtain ⟨d2, f2⟩ := v2.gr ho4.1 hne3
  cases r4 with
  | false =>
    obtain ⟨c0, g0⟩ := q0.out.gr hoD.1 hne
    obtain ⟨c1, g1⟩ := q1.out.gr hoD.1 hne
    obtain ⟨c2, g2⟩ := q2.out.gr hoD.1 hne
    clear hoC ho4
    go_wp2_with fail
    exact bodyPost_ret (v := .agg #[.int .i64 r1, .int .i64 r2, .int .i64 r3]) (by simp [results, Try.results38, go_sem, c0, g0, c1, g1, c2, g2]) rfl ⟨⟨r1, r2, r3⟩, rfl, ⟨b1.out, b2.out, b3.out⟩, (((ho0.trans hoD).mono (by omega)).set hbw (Nat.le_refl _) _ |>.set hbw (Nat.le_refl _) _).set hbw (Nat.le_refl _) _⟩
  | true =>
    go_wp2_with fail
    refine (odd_any b (N + 1 + 1 + 1 + 1) _ _ _ hoD.2 (by omega) (by omega) (by omega) (by omega)).mono ?_
    rintro e w5 ⟨r5, rfl, hr5, ho5⟩
    have hoE := hoD.trans ho5
    obtain ⟨d0, f0⟩ := (v0.gr ho4.1 hne3).gr ho5.1 hne3
    obtain ⟨d1, f1⟩ := (v1.gr ho4.1 hne3).gr ho5.1 hne3
    obtain ⟨d2, f2⟩ := (v2.gr ho4.1 hne3).gr ho5.1 hne3
    obtain ⟨c0, g0⟩ := q0.out.gr hoE.1 hne
    obtain ⟨c1, g1⟩ := q1.out.gr hoE.1 hne
    obtain ⟨c2, g2⟩ := q2.out.gr hoE.1 hne
    have hne5 : w3.heap.size ≠ w.heap.size := by have := hWt.out; omega
    have hne6 : w.heap.size ≠ w3.heap.size := by omega
    have hle : w.heap.size ≤ w3.heap.size := by have := hWt.out; omega
    clear hoC ho4 hoD ho5
    replace hr5 := hide hr5
    go_wp2_with fail
    exact bodyPost_ret (v := .agg #[.int .i64 r5, .int .i64 r2, .int .i64 r3]) (by simp [results, Try.results38, go_sem, c0, g0, c1, g1, c2, g2, hne5, hne6]) rfl ⟨⟨r5, r2, r3⟩, rfl, ⟨hr5.out, b2.out, b3.out⟩, ((((ho0.trans hoE).mono (by omega)).set hbw hle _ |>.set hbw (Nat.le_refl _) _).set hbw (Nat.le_refl _) _).set hbw (Nat.le_refl _) _⟩

end Go.Proofs.Ytjodjdjfagjiaaa

namespace Go.Proofs.Ytjodjdjfagjiaaa
open Go.RowKit Go.Bl

theorem own_litAt {α : Type} [Enc α] [Flat α] (w : World) (lo : Nat) (cs : List Value) (t : TypeId) (l : List α) (g : Nat) (hg : g = w.heap.size) (hlo : lo ≤ w.heap.size) (hm : l.length ≤ maxLen) (hr : Row w lo l cs) :
    Own (w.alloc (.cells cs.toArray t)) lo t (some ⟨g, 0, none⟩) l.length l := by
  subst hg
  have hlen := hr.len
  exact ⟨hm, cs, hr.flat, hlen, .inr ⟨w.heap.size, l.length, cs.toArray, rfl, hlo, heap_alloc_new w _, Nat.le_refl _, hm, by simpa using hlen, by rw [← hlen]; simp⟩⟩

/-- a mesh under construction: two slices of one's own in two blocks -/
def MOwn (w : World) (lo : Nat) (A : Option Addr) (c : Nat) (vs : List V3) (B : Option Addr) (d : Nat) (fs : List Fc) : Prop :=
  Own w lo 49 A c vs ∧ Own w lo 67 B d fs ∧ ∀ g, blk A = some g → blk B ≠ some g
def FB (f : Fc) : Prop := (0 ≤ f.a ∧ f.a ≤ 7) ∧ (0 ≤ f.b ∧ f.b ≤ 7) ∧ 0 ≤ f.c ∧ f.c ≤ 7
instance (f : Fc) : Decidable (FB f) := by unfold FB; infer_instance
def SMesh0 (w : World) (nv nf : Nat) (e : Ending) (w' : World) : Prop := ∃ A c vs B d fs, e = .returned (.agg #[.slice A vs.length c, .slice B fs.length d]) ∧ vs.length = nv ∧ fs.length = nf ∧ MOwn w' w.heap.size A c vs B d fs ∧ (∀ f ∈ fs, inF nv f = true) ∧ w.grownBy w' none

theorem MOwn.gr {w w' : World} {lo : Nat} {A : Option Addr} {c : Nat} {vs : List V3} {B : Option Addr} {d : Nat} {fs : List Fc} (h : MOwn w lo A c vs B d fs) (hg : w.grownBy w' none) : MOwn w' lo A c vs B d fs := ⟨h.1.pure hg, h.2.1.pure hg, h.2.2⟩

set_option maxHeartbeats 2000000 in
set_option maxRecDepth 100000 in
theorem tetra_any (v : V3) (n : Int) (w : World) (hv : Bd 1000000000000000 v) (hn : 0 ≤ n ∧ n ≤ 1000) :
    Calls Try.prog 37 #[.agg #[.int .i64 v.x, .int .i64 v.y, .int .i64 v.z], .int .i64 n] w (SMesh0 w 4 4) := by
  obtain ⟨⟨v1, v2⟩, ⟨v3, v4⟩, v5, v6⟩ := hv
  go_enter Try.func37, Try.ntmps37
  go_wp2_with fail
  refine bodyPost_ret (v := .agg #[.slice (some (⟨w.heap.size + 1 + 1, 0, none⟩ : Addr)) 4 4, .slice (some (⟨w.heap.size + 1 + 1 + 1, 0, none⟩ : Addr)) 4 4]) (by simp [results, Try.results37, go_sem]) rfl ⟨_, _, [v, ⟨v.x + n, v.y, v.z⟩, ⟨v.x, v.y + n, v.z⟩, ⟨v.x, v.y, v.z + n⟩], _, _, pyrF, rfl, rfl, rfl, ⟨?_, ?_, ?_⟩, by decide, (by repeat (first | exact World.grownBy.refl _ _ | assumption | refine gr_alloc ?_ _ | (apply gr_tail; assumption) | refine gr_drewN ?_ _ | refine gr_drew ?_))⟩
  · exact (own_litAt _ _ _ 49 [v, ⟨v.x + n, v.y, v.z⟩, ⟨v.x, v.y + n, v.z⟩, ⟨v.x, v.y, v.z + n⟩] _ (by simp) (by simp; omega) (by simp [maxLen]) ⟨_, _, rfl, rfl, _, _, rfl, rfl, _, _, rfl, rfl, _, _, rfl, rfl, rfl⟩).pure (gr_alloc (World.grownBy.refl _ _) _)
  · exact own_litAt _ _ _ 67 pyrF _ (by simp) (by simp; omega) (by simp [pyrF, maxLen]) ⟨_, _, rfl, rfl, _, _, rfl, rfl, _, _, rfl, rfl, _, _, rfl, rfl, rfl⟩
  · intro g hg h2
    simp only [blk, Option.map_some, Option.some.injEq] at hg h2
    omega

end Go.Proofs.Ytjodjdjfagjiaaa

namespace Go.Proofs.Ytjodjdjfagjiaaa
open Go.RowKit Go.Bl

theorem _root_.Go.Bl.Cell.grew {α : Type} [Enc α] {w w' : World} {g o lo : Nat} {v : Value} {B B' : Option Addr} {e : TypeId} {c : Nat} {l : List α} (h : Cell w g o v) (hG : Grew B B' w w') (hb : Own w lo e B c l) (hlt : g < lo) : Cell w' g o v :=
  h.gr hG.1 (fun e => by have := hb.blk_lt e; omega)
theorem _root_.Go.Bl.Grew.row {α : Type} [Enc α] {w w1 w2 : World} {lo : Nat} {r : Option Nat} {B B' : Option Addr} {e : TypeId} {c : Nat} {l : List α} (hG : Grew B B' w1 w2) (hb : Own w1 lo e B c l) (h : w.grownBy w1 r) (hlo : w.heap.size ≤ lo) : w.grownBy w2 r :=
  gr_row h hG.1 (fun g e => by have := hb.blk_lt e; omega)

theorem FB_in {f : Fc} (h : FB f) : inF 8 f = true := by
  unfold FB at h
  simp [inF, inI]
  omega
def quadL : List Int := [0, 2, 3, 1, 4, 5, 7, 6, 0, 1, 5, 4, 2, 6, 7, 3, 0, 4, 6, 2, 1, 3, 7, 5]
theorem quad_at : ∀ j, j < 6 → ∃ a b c d : Int, quadL[j * 4]? = some a ∧ quadL[j * 4 + 1]? = some b ∧ quadL[j * 4 + 2]? = some c ∧ quadL[j * 4 + 3]? = some d ∧ FB ⟨a, b, c⟩ ∧ FB ⟨a, c, d⟩ := by
  intro j hj
  have : j = 0 ∨ j = 1 ∨ j = 2 ∨ j = 3 ∨ j = 4 ∨ j = 5 := by omega
  rcases this with rfl | rfl | rfl | rfl | rfl | rfl <;> exact ⟨_, _, _, _, rfl, rfl, rfl, rfl, by decide, by decide⟩
theorem quad_cell (w : World) (t : TypeId) (n : Nat) (a : Int) (h : quadL[n]? = some a) : Cell (w.alloc (.cells (quadL.map (Value.int .i64)).toArray t)) w.heap.size n (.int .i64 a) :=
  Cell.new w _ t n _ (by rw [List.getElem?_map, h]; rfl) _ rfl

set_option maxHeartbeats 4000000 in
set_option maxRecDepth 100000 in
theorem block_any (v : V3) (x y z : Int) (w : World) :
    Calls Try.prog 39 #[.agg #[.int .i64 v.x, .int .i64 v.y, .int .i64 v.z], .int .i64 x, .int .i64 y, .int .i64 z] w (SMesh0 w 8 12) := by
  obtain ⟨W, hW⟩ : ∃ W, W = ((w.alloc (.cells #[.int .i64 v.x, .int .i64 v.y, .int .i64 v.z] 49)).alloc (.cells #[.slice none 0 0, .slice none 0 0] 29)).alloc (.cells #[.slice none 0 0, .slice none 0 0] 29) := ⟨_, rfl⟩
  have hg0 : w.grownBy W none := by rw [hW]; exact (by repeat (first | exact World.grownBy.refl _ _ | assumption | refine gr_alloc ?_ _ | (apply gr_tail; assumption) | refine gr_drewN ?_ _ | refine gr_drew ?_))
  have hWs : W.heap.size = w.heap.size + 1 + 1 + 1 := by rw [hW]; simp
  have b0 : Cell W w.heap.size 0 (.int .i64 v.x) := by rw [hW]; exact ⟨by go_simp, by go_simp⟩
  have b1 : Cell W w.heap.size 1 (.int .i64 v.y) := by rw [hW]; exact ⟨by go_simp, by go_simp⟩
  have b2 : Cell W w.heap.size 2 (.int .i64 v.z) := by rw [hW]; exact ⟨by go_simp, by go_simp⟩
  have r0 : Cell W (w.heap.size + 1) 0 (.slice none 0 0) := by rw [hW]; exact ⟨by go_simp, by go_simp⟩
  have r1 : Cell W (w.heap.size + 1) 1 (.slice none 0 0) := by rw [hW]; exact ⟨by go_simp, by go_simp⟩
  have m0 : Cell W (w.heap.size + 1 + 1) 0 (.slice none 0 0) := by rw [hW]; exact ⟨by go_simp, by go_simp⟩
  have m1 : Cell W (w.heap.size + 1 + 1) 1 (.slice none 0 0) := by rw [hW]; exact ⟨by go_simp, by go_simp⟩
  replace hW := hide hW.symm
  replace hWs := hide hWs
  replace b0 := hide b0
  replace b1 := hide b1
  replace b2 := hide b2
  replace r0 := hide r0
  replace r1 := hide r1
  go_enter Try.func39, Try.ntmps39
  go_wp2_with fail
  rw [hW.out]
  go_loopw [13] (fun i wr => ∃ (k : Nat) (vs : List V3) (A : Option Addr) (c : Nat), k ≤ 8 ∧ i = .int .i64 k ∧ Hid (vs.length = k) ∧ Own wr W.heap.size 49 A c vs ∧ Cell wr (w.heap.size + 1 + 1) 0 (.slice A vs.length c) ∧ Cell wr (w.heap.size + 1 + 1) 1 (.slice none 0 0) ∧ W.grownBy wr (some (w.heap.size + 1 + 1))) (fun i _ => 8 - (intOf i).toNat)
  case atStart => exact ⟨0, [], none, 0, by omega, rfl, rfl, Own.nil _ _ _, m0, m1, World.grownBy.refl _ _⟩
  case round =>
    obtain ⟨k, vs, A, c, hk, rfl, hvl, hown, c0, c1, hg⟩ := hrel
    obtain ⟨c0, f0⟩ := c0
    obtain ⟨c1, f1⟩ := c1
    by_cases hlt : k < 8
    · obtain ⟨d0, _⟩ := b0.out.gr hg (fun e => by injection e with e; omega)
      obtain ⟨d1, _⟩ := b1.out.gr hg (fun e => by injection e with e; omega)
      obtain ⟨d2, _⟩ := b2.out.gr hg (fun e => by injection e with e; omega)
      have hsz := hg.size
      have hvl' : vs.length ≤ 8 := by have := hvl.out; omega
      go_wp2_with (at_builtin; obtain ⟨i0, hi, hz, h1, h2⟩ := info_parts info_v3; refine wpList_pushAt (α := V3) _ rfl (.tmp 17) (.tmp 41) _ rfl W.heap.size 49 i0 _ 24 Try.underlying26 hi hz h1 h2 rfl _ _ _ vs rfl ?c1 (by exact (hown.pure (gr_alloc (World.grownBy.refl _ _) _))) 0 ⟨_, 0, none⟩ 1 1 [⟨_, _, _⟩] rfl rfl (by exact (sl_oneAt _ 0 _ _ _ _ (by first | rfl | simp) (Nat.zero_le _) rfl)) ?c2 ?c3 ?c4 ?_)
      case c1 => rfl
      case c2 => first | omega | (simp; omega)
      case c3 => first | (simp [maxLen]; omega) | (unfold maxLen; omega)
      case c4 => first | omega | (simp; omega)
      intro A5 c5 w5 hown5 hG5
      have hga := gr_alloc hg
      clear d0 d1 d2
      obtain ⟨c0, f0⟩ := (Cell.gr ⟨c0, f0⟩ (gr_alloc (World.grownBy.refl wr none) _) (by simp)).grew hG5 (hown.pure (gr_alloc (World.grownBy.refl wr none) _)) (by have := hWs.out; omega)
      obtain ⟨c1, f1⟩ := (Cell.gr ⟨c1, f1⟩ (gr_alloc (World.grownBy.refl wr none) _) (by simp)).grew hG5 (hown.pure (gr_alloc (World.grownBy.refl wr none) _)) (by have := hWs.out; omega)
      have hg5 := hG5.row (hown.pure (gr_alloc (World.grownBy.refl wr none) _)) (gr_alloc hg _) (Nat.le_refl _)
      go_wp2_with fail
      have hgs := gr_set (World.grownBy.refl w5 (some (w.heap.size + 1 + 1))) (p := ⟨w.heap.size + 1 + 1, 0, none⟩) (.inl rfl) (.slice A5 (vs.length + 1) c5)
      (go_roundw; (case rel => exact ⟨k + 1, _, A5, c5, by omega, by go_num, by have := hvl.out; simp [Hid, this], hown5.ne hgs (fun g e1 e2 => by have := (hown5.blk_lt e1).1; have := hWs.out; injection e2; omega), by have := Cell.set_ ⟨c0, f0⟩ (.slice A5 (vs.length + 1) c5); simpa using this, Cell.set_ne ⟨c1, f1⟩ _ (by decide), gr_trans hg5 hgs⟩); (case measure => simp [intOf]; omega))
    · have hk8 : k = 8 := by omega
      subst hk8
      rw [show ((8 : Nat) : Int) = (8 : Int) from rfl]
      obtain ⟨d0, _⟩ := b0.out.gr hg (fun e => by injection e with e; omega)
      go_wp2_with fail
      obtain ⟨wp, rfl⟩ : ∃ x, x = wr := ⟨wr, rfl⟩
      obtain ⟨Wb, hWb⟩ : ∃ Wb, Wb = wp.alloc (.cells (quadL.map (Value.int .i64)).toArray 107) := ⟨_, rfl⟩
      have hQ := quad_cell wp 107
      rw [← hWb] at hQ
      have hga : wp.grownBy Wb none := by rw [hWb]; exact gr_alloc (World.grownBy.refl _ _) _
      have hWbs : Wb.heap.size = wp.heap.size + 1 := by rw [hWb]; simp
      have e0 := Cell.gr ⟨c0, f0⟩ hga (by simp)
      have e1 := Cell.gr ⟨c1, f1⟩ hga (by simp)
      have hAlt : ∀ g, blk A = some g → W.heap.size ≤ g ∧ g < wp.heap.size := fun g e => hown.blk_lt e
      have hown := hown.pure hga
      replace hQ := hide hQ
      simp only [quadL, List.map_cons, List.map_nil] at hWb
      replace hWb := hide hWb.symm
      have hgW := hg
      replace hg := gr_step hg hga
      replace hAlt := hide hAlt
      replace hWbs := hide hWbs
      have hmb := c0
      clear c0 f0 c1 f1 d0 hga
      rw [hWb.out]
      have hmlt : w.heap.size + 1 + 1 < wp.heap.size := cell_lt hmb
      clear hmb
      go_loopw [53] (fun i wr => ∃ (j : Nat) (fs : List Fc) (B : Option Addr) (d : Nat), j ≤ 6 ∧ i = .int .i64 j ∧ Hid (fs.length = 2 * j) ∧ Own wr Wb.heap.size 67 B d fs ∧ Cell wr (w.heap.size + 1 + 1) 0 (.slice A vs.length c) ∧ Cell wr (w.heap.size + 1 + 1) 1 (.slice B fs.length d) ∧ Hid (∀ f ∈ fs, FB f) ∧ Wb.grownBy wr (some (w.heap.size + 1 + 1))) (fun i _ => 6 - (intOf i).toNat)
      case atStart => exact ⟨0, [], none, 0, by omega, rfl, rfl, Own.nil _ _ _, e0, e1, by intro f hf; simp at hf, World.grownBy.refl _ _⟩
      case round =>
        obtain ⟨j, fs, B, d, hj, rfl, hfl, hownB, c0, c1, hFB, hgq⟩ := hrel
        by_cases hlj : j < 6
        · obtain ⟨q0, q1, q2, q3, x0, x1, x2, x3, y0, y1⟩ := quad_at j hlj
          have x0 := ((hQ.out _ _ x0).gr hgq (fun e => by injection e with e; omega)).1
          have x1 := ((hQ.out _ _ x1).gr hgq (fun e => by injection e with e; omega)).1
          have x2 := ((hQ.out _ _ x2).gr hgq (fun e => by injection e with e; omega)).1
          have x3 := ((hQ.out _ _ x3).gr hgq (fun e => by injection e with e; omega)).1
          have hlq : wp.heap.size < wr.heap.size := cell_lt x0
          have hmq : w.heap.size + 1 + 1 < wr.heap.size := by omega
          replace y0 := hide y0
          replace y1 := hide y1
          obtain ⟨c0, f0⟩ := c0
          obtain ⟨c1, f1⟩ := c1
          have hsz := hgq.size
          have hfl' : fs.length ≤ 12 := by have := hfl.out; omega
          go_wp2_with (at_builtin; obtain ⟨i0, hi, hz, h1, h2⟩ := info_parts info_face; refine wpList_pushAt (α := Fc) _ rfl (.tmp 58) (.tmp 73) _ rfl Wb.heap.size 67 i0 _ 24 Try.underlying27 hi hz h1 h2 rfl _ _ _ fs rfl ?c1 (by exact (hownB.pure (by repeat (first | exact World.grownBy.refl _ _ | assumption | refine gr_alloc ?_ _ | refine gr_drewN ?_ _ | refine gr_drew ?_)))) 0 ⟨_, 0, none⟩ 2 2 [⟨q0, q1, q2⟩, ⟨q0, q2, q3⟩] rfl rfl (by exact (sl_litAt _ 0 _ _ _ _ (by first | rfl | simp) (Nat.zero_le _) (by simp [maxLen]) ⟨_, _, rfl, rfl, _, _, rfl, rfl, rfl⟩)) ?c2 ?c3 ?c4 ?_)
          case c1 => rfl
          case c2 => first | omega | (simp; omega)
          case c3 => first | (simp [maxLen]; omega) | (unfold maxLen; omega)
          case c4 => first | omega | (simp; omega)
          intro A5 c5 w5 hown5 hG5
          have hgm := gr_alloc (gr_alloc (World.grownBy.refl wr none) (.cells #[.int .i64 q0, .int .i64 q1, .int .i64 q2, .int .i64 q3] 107)) (.cells #[.int .i64 q0, .int .i64 q1, .int .i64 q2, .int .i64 q0, .int .i64 q2, .int .i64 q3] 67)
          have hmlo : w.heap.size + 1 + 1 < Wb.heap.size := by have := hWbs.out; omega
          clear x0 x1 x2 x3
          obtain ⟨c0, f0⟩ := (Cell.gr ⟨c0, f0⟩ hgm (by simp)).grew hG5 (hownB.pure hgm) hmlo
          obtain ⟨c1, f1⟩ := (Cell.gr ⟨c1, f1⟩ hgm (by simp)).grew hG5 (hownB.pure hgm) hmlo
          have hg5 := hG5.row (hownB.pure hgm) (gr_step hgq hgm) (Nat.le_refl _)
          have hF5 : Hid (∀ f ∈ fs ++ [⟨q0, q1, q2⟩, ⟨q0, q2, q3⟩], FB f) := by
            intro f hf
            rcases List.mem_append.1 hf with hf | hf
            · exact hFB.out f hf
            · simp only [List.mem_cons, List.not_mem_nil, or_false] at hf
              rcases hf with rfl | rfl
              · exact y0.out
              · exact y1.out
          go_wp2_with fail
          have hgs := gr_set (World.grownBy.refl w5 (some (w.heap.size + 1 + 1))) (p := ⟨w.heap.size + 1 + 1, 1, none⟩) (.inl rfl) (.slice A5 (fs.length + 2) c5)
          (go_roundw; (case rel => exact ⟨j + 1, _, A5, c5, by omega, by go_num, by have := hfl.out; simp [Hid, this]; omega, hown5.ne hgs (fun g e1 e2 => by have := (hown5.blk_lt e1).1; injection e2; omega), Cell.set_ne ⟨c0, f0⟩ _ (by decide), by have := Cell.set_ ⟨c1, f1⟩ (.slice A5 (fs.length + 2) c5); simpa using this, hF5, gr_trans hg5 hgs⟩); (case measure => simp [intOf]; omega))
        · have hj6 : j = 6 := by omega
          subst hj6
          have hgr := gr_trans hg hgq
          obtain ⟨c0, f0⟩ := c0
          obtain ⟨c1, f1⟩ := c1
          obtain ⟨x0, y0⟩ := r0.out.gr hgr (fun e => by injection e with e; omega)
          obtain ⟨x1, y1⟩ := r1.out.gr hgr (fun e => by injection e with e; omega)
          have hne : ¬ w.heap.size + 1 + 1 = w.heap.size + 1 := by omega
          have hne2 : ¬ w.heap.size + 1 = w.heap.size + 1 + 1 := by omega
          go_wp2_with fail
          have hWs' := hWs.out
          have hWbs' := hWbs.out
          have hgs := fun (u : World) (v1 v2 : Value) => gr_set (gr_set (World.grownBy.refl u (some (w.heap.size + 1))) (p := ⟨w.heap.size + 1, 0, none⟩) (.inl rfl) v1) (p := ⟨w.heap.size + 1, 1, none⟩) (.inl rfl) v2
          refine bodyPost_ret (v := .agg #[.slice A vs.length c, .slice B fs.length d]) (by simp [results, Try.results39, go_sem, x0, x1, y0, y1]) rfl ⟨A, c, vs, B, d, fs, rfl, hvl.out, hfl.out, ⟨?_, ?_, ?_⟩, fun f hf => FB_in (hFB.out f hf), ?_⟩
          · exact (((hown.ne hgq (fun g e e2 => by have := hAlt.out g e; injection e2; omega)).ne (hgs _ _ _) (fun g e e2 => by have := hAlt.out g e; injection e2; omega))).lower (by omega)
          · exact (hownB.ne (hgs _ _ _) (fun g e e2 => by have := (hownB.blk_lt e).1; injection e2; omega)).lower (by omega)
          · intro g e e2
            have := hAlt.out g e
            have := (hownB.blk_lt e2).1
            omega
          · exact gr_set (gr_set (gr_row hg0 hgr (fun g e => by injection e; omega)) (.inr (by simp)) _) (.inr (by simp)) _

end Go.Proofs.Ytjodjdjfagjiaaa

namespace Go.Proofs.Ytjodjdjfagjiaaa
open Go.RowKit Go.Bl

theorem _root_.Go.Bl.Own.take {α : Type} [Enc α] {w : World} {lo : Nat} {e : TypeId} {A : Option Addr} {c : Nat} {l : List α} (h : Own w lo e A c l) (k : Nat) (hk : k ≤ l.length) : Own w lo e A c (l.take k) := by
  obtain ⟨hm, cs, hr, ho⟩ := h
  have hl : (l.take k).length = k := by rw [List.length_take]; omega
  have hrl := (hr.take k).len
  rw [hl] at hrl
  refine ⟨by omega, cs.take (k * Enc.sz α), hr.take k, by rw [hl]; exact hrl, ?_⟩
  rw [hl]
  rcases ho.2 with ⟨h1, h2⟩ | ⟨g, cap, cur, hv, hb, hh, hn, hc, hs, ht⟩
  · injection h1 with a b d
    exact .inl ⟨by rw [a, d, show k = 0 by omega], by omega⟩
  · injection hv with a b d
    refine .inr ⟨g, cap, cur, by rw [a, d], hb, hh, by omega, hc, hs, ?_⟩
    rw [← ht, List.take_take]
    congr 1
    exact (Nat.min_eq_left (Nat.mul_le_mul_right _ hk)).symm
theorem _root_.Go.Bl.Sl.drop {α : Type} [Enc α] {w : World} {lo : Nat} {g o : Nat} {l : List α} (h : Sl w lo (some ⟨g, o, none⟩) l) (k : Nat) : Sl w lo (some ⟨g, o + k * Enc.sz α, none⟩) (l.drop k) := by
  obtain ⟨hm, cs, hr, hl⟩ := h
  refine ⟨by rw [List.length_drop]; omega, _, hr.drop k, fun hne => ?_⟩
  obtain ⟨ad, e, hb, hc⟩ := hl (by rintro rfl; simp at hne)
  injection e with e
  subst e
  refine ⟨_, rfl, hb, fun j u hu => ?_⟩
  rw [List.getElem?_drop] at hu
  have := hc _ u hu
  rw [Addr.add_lit] at this ⊢
  rwa [Nat.add_assoc]

theorem _root_.Go.Bl.Own.spare {α : Type} [Enc α] {w : World} {lo : Nat} {e : TypeId} {g c : Nat} {l : List α} (h : Own w lo e (some ⟨g, 0, none⟩) c l) {j : Nat} (hj : j < c * Enc.sz α) : (w.cell? ⟨g, j, none⟩).isSome = true := by
  obtain ⟨hm, cs, hr, h1, h2⟩ := h
  rcases h2 with ⟨h2, _⟩ | ⟨g', cap, cur, hv, _, hh, _, _, hs, _⟩
  · simp at h2
  · injection hv with a b d
    injection a with a
    injection a with a
    subst a
    subst d
    rw [cell_of_row _ _ _ _ _ _ hh, Array.getElem?_eq_getElem (by omega)]
    rfl
theorem _root_.Go.Bl.Own.past {α : Type} [Enc α] [Flat α] {w : World} {lo : Nat} {e : TypeId} {g c : Nat} {l : List α} (h : Own w lo e (some ⟨g, 0, none⟩) c l) {j : Nat} (hj : l.length * Enc.sz α ≤ j) (u : Value) : Own (w.setCell ⟨g, j, none⟩ u) lo e (some ⟨g, 0, none⟩) c l ∧ w.grownBy (w.setCell ⟨g, j, none⟩ u) (some g) := by
  obtain ⟨hm, cs, hr, ho⟩ := h
  have hl := hr.len
  obtain ⟨h1, h2⟩ := ho.stored j u
  rw [List.set_eq_of_length_le (by omega)] at h1
  exact ⟨⟨hm, cs, hr.flat, h1⟩, h2⟩
theorem run_clearF (w : World) (ty : TypeId) (g o c : Nat) (hc : ∀ j, j < 3 → (w.cell? ⟨g, o + j, none⟩).isSome = true) (hf : ∀ j, j < 3 → w.frozen? ⟨g, o + j, none⟩ = false) :
    (Builtin.clear_ #[27] ty #[.slice (some ⟨g, o, none⟩) 1 c]).run Try.prog w = .ok (.tuple #[]) (((w.setCell ⟨g, o, none⟩ (.int .i64 0)).setCell ⟨g, o + 1, none⟩ (.int .i64 0)).setCell ⟨g, o + 2, none⟩ (.int .i64 0)) := by
  have hst := run_storeCells_cells (P := Try.prog) g o [.int .i64 0, .int .i64 0, .int .i64 0] 0 w (by simpa using hc) (by simpa using hf) (by intro v hv; simp at hv; subst hv; rfl)
  simp only [Nat.add_zero] at hst
  have hv : ∀ w, (zeroValue 67).run Try.prog w = .ok (.agg #[.int .i64 0, .int .i64 0, .int .i64 0]) w := Try.zeroValue67
  have hz : (Builtin.zeroCells (Value.agg #[.int .i64 0, .int .i64 0, .int .i64 0]).cells 1).toList = [.int .i64 0, .int .i64 0, .int .i64 0] := by kernel_rfl
  simp [Builtin.clear_, run_underlying Try.underlying27, hv, hz, hst, World.setCells]

set_option maxHeartbeats 2000000 in
set_option maxRecDepth 100000 in
theorem deleteF_any (g lo c i : Nat) (fs : List Fc) (w : World) (h : Own w lo 67 (some ⟨g, 0, none⟩) c fs) (hi : i < fs.length) (hn : fs.length ≤ 1000) :
    Calls Try.prog 41 #[.slice (some ⟨g, 0, none⟩) fs.length c, .int .i64 i, .int .i64 (i + 1)] w fun e w' =>
      e = .returned (.slice (some ⟨g, 0, none⟩) (fs.take i ++ fs.drop (i + 1)).length c) ∧ Own w' lo 67 (some ⟨g, 0, none⟩) c (fs.take i ++ fs.drop (i + 1)) ∧ w.grownBy w' (some g) := by
  have hcap := h.cap
  obtain ⟨r, hr⟩ : ∃ r, fs.length = i + 1 + r := ⟨fs.length - (i + 1), by omega⟩
  have hlen : (fs.take i ++ fs.drop (i + 1)).length = i + r := by rw [List.length_append, List.length_take, List.length_drop]; omega
  have hdl : (fs.drop (i + 1)).length = r := by rw [List.length_drop]; omega
  rw [hr] at hcap
  rw [hr, hlen]
  obtain ⟨i0, hi', hz, h1, h2⟩ := info_parts info_face
  by_cases hc1 : i + 1 < c
  · replace hi' := hide hi'
    replace hz := hide hz
    replace h1 := hide h1
    replace h2 := hide h2
    replace hr := hide hr
    replace hlen := hide hlen
    replace hdl := hide hdl
    go_enter Try.func41, Try.ntmps41
    go_wp2_with fail
    rw [show (((i : Nat) : Int) == (i : Int) + 1) = false from beq_eq_false_iff_ne.2 (by omega)]
    refine wp_region_fix 6 ((fun wx => w.grownBy wx none)) (by kernel_rfl) (by kernel_rfl) (gr_drew (World.grownBy.refl _ _)) ?_
    simp only [List.take_succ_cons, List.take_zero, List.drop_succ_cons, List.drop_zero]
    iterate 6 ((refine fix_b (fun K hK => ?_); apply Exists.intro; refine ⟨fun wx hC K' hK' => ?_, ?_⟩; (focus (replace hK' := hide hK'; skip; go_wp2_with fail; exact hK'.out _ hC)); go_simp; refine hK _ ?_; clear hK K))
    refine fix_nil ?_
    intro wz hC
    obtain ⟨cs, hrow, hown⟩ : ∃ cs, Row wz lo (fs.take i) cs ∧ wz.ownsRow lo 67 3 (.slice (some ⟨g, 0, none⟩) (fs.take i).length c) (fs.take i).length cs := by
      obtain ⟨_, cs, hr, ho⟩ := (h.pure hC).take i (Nat.le_of_lt hi)
      exact ⟨cs, hr, ho⟩
    rw [show (fs.take i).length = i by rw [List.length_take]; omega] at hown
    obtain ⟨hd1, ds, hd2, hd3⟩ := (h.pure hC).sl.drop (i + 1)
    have hdl2 := hd2.len
    rw [hdl.out] at hdl2
    go_wp2_with (at_builtin; refine wpList_append_own_spare _ rfl (.tmp 22) (.tmp 25) _ rfl lo 67 i0 3 Try.underlying27 hi'.out h1.out g i c cs rfl hown ⟨g, (i + 1) * 3, none⟩ r _ ds rfl ?c1 ?c2 ?c3 ?c4 ?_)
    case c1 => exact hdl2
    case c2 =>
      intro j u hu
      obtain ⟨ad, e, _, hc⟩ := hd3 (by rintro rfl; simp at hu)
      injection e with e
      subst e
      rw [← hc j u hu, show (0 : Nat) + (i + 1) * Enc.sz Fc = (i + 1) * 3 from Nat.zero_add _]
    case c3 => exact hd2.one
    case c4 => omega
    intro w1 hown1 hg1
    have hO : Own w1 lo 67 (some ⟨g, 0, none⟩) c (fs.take i ++ fs.drop (i + 1)) := by
      refine ⟨by rw [hlen.out]; unfold maxLen; have := hr.out; omega, cs ++ ds, hrow.flat.append hd2.flat, ?_⟩
      rw [hlen.out]
      exact hown1
    have hwg : w.grownBy w1 (some g) := gr_trans (gr_any hC) hg1
    clear hown1 hown hd2 hd3 hrow hd1 hdl2 hC hg1
    have hcl : ∀ ty, (Builtin.clear_ #[27] ty #[.slice (some ⟨g, (i + r) * 3, none⟩) (i + 1 + r - (i + r)) (c - (i + r))]).run Try.prog w1 = .ok (.tuple #[]) (((w1.setCell ⟨g, (i + r) * 3, none⟩ (.int .i64 0)).setCell ⟨g, (i + r) * 3 + 1, none⟩ (.int .i64 0)).setCell ⟨g, (i + r) * 3 + 2, none⟩ (.int .i64 0)) := fun ty => by
      rw [show i + 1 + r - (i + r) = 1 by omega]
      exact run_clearF w1 ty g ((i + r) * 3) (c - (i + r)) (fun j hj => hO.spare (by rw [show Enc.sz Fc = 3 from rfl]; omega)) (fun j _ => hO.frozen _)
    have hp : (fs.take i ++ fs.drop (i + 1)).length * Enc.sz Fc ≤ (i + r) * 3 := by rw [hlen.out, show Enc.sz Fc = 3 from rfl]; exact Nat.le_refl _
    have p1 := hO.past hp (.int .i64 0)
    have p2 := p1.1.past (Nat.le_trans hp (Nat.le_add_right _ 1)) (.int .i64 0)
    have p3 := p2.1.past (Nat.le_trans hp (Nat.le_add_right _ 2)) (.int .i64 0)
    have hgz := gr_trans (gr_trans (gr_trans hwg p1.2) p2.2) p3.2
    have hO3 := p3.1
    clear p1 p2 p3 hO hp hwg
    go_wp2
    go_ret
    exact ⟨rfl, hO3, hgz⟩
  · have hc2 : c = i + 1 := by omega
    have hr0 : r = 0 := by omega
    subst hr0
    subst hc2
    have hd0 : fs.drop (i + 1) = [] := List.drop_eq_nil_of_le (by omega)
    rw [hd0, List.append_nil]
    rw [hd0, List.append_nil] at hlen
    clear hd0 hdl
    replace hr := hide hr
    replace hlen := hide hlen
    rw [Nat.add_zero, Nat.add_zero]
    go_enter Try.func41, Try.ntmps41
    go_wp2_with fail
    rw [show (((i : Nat) : Int) == (i : Int) + 1) = false from beq_eq_false_iff_ne.2 (by omega)]
    refine wp_region_fix 6 ((fun wx => w.grownBy wx none)) (by kernel_rfl) (by kernel_rfl) (gr_drew (World.grownBy.refl _ _)) ?_
    simp only [List.take_succ_cons, List.take_zero, List.drop_succ_cons, List.drop_zero]
    iterate 6 ((refine fix_b (fun K hK => ?_); apply Exists.intro; refine ⟨fun wx hC K' hK' => ?_, ?_⟩; (focus (replace hK' := hide hK'; skip; go_wp2_with fail; exact hK'.out _ hC)); go_simp; refine hK _ ?_; clear hK K))
    refine fix_nil ?_
    intro wz hC
    have hO := (h.pure hC).take i (Nat.le_of_lt hi)
    have hcl : ∀ ty, (Builtin.clear_ #[27] ty #[.slice (some ⟨g, i * 3, none⟩) 1 1]).run Try.prog wz = .ok (.tuple #[]) (((wz.setCell ⟨g, i * 3, none⟩ (.int .i64 0)).setCell ⟨g, i * 3 + 1, none⟩ (.int .i64 0)).setCell ⟨g, i * 3 + 2, none⟩ (.int .i64 0)) := fun ty =>
      run_clearF wz ty g (i * 3) 1 (fun j hj => hO.spare (by rw [show Enc.sz Fc = 3 from rfl]; omega)) (fun j _ => hO.frozen _)
    have hp : (fs.take i).length * Enc.sz Fc ≤ i * 3 := by rw [hlen.out, show Enc.sz Fc = 3 from rfl]; exact Nat.le_refl _
    have p1 := hO.past hp (.int .i64 0)
    have p2 := p1.1.past (Nat.le_trans hp (Nat.le_add_right _ 1)) (.int .i64 0)
    have p3 := p2.1.past (Nat.le_trans hp (Nat.le_add_right _ 2)) (.int .i64 0)
    have hgz := gr_trans (gr_trans (gr_trans (gr_any hC) p1.2) p2.2) p3.2
    have hO3 := p3.1
    clear p1 p2 p3 hO hp
    go_wp2
    go_ret
    exact ⟨rfl, hO3, hgz⟩

end Go.Proofs.Ytjodjdjfagjiaaa

/- When the jobs of a plan end. -/
import Derived.Test.YtlfobddinilmcaaDoorFarmI
set_option linter.unusedVariables false
set_option linter.unusedSimpArgs false
namespace Go.Proofs.YtlfobddinilmcaaDoor
open Go Go.RowKit Go.Bl

def jobAt (j : List Jb) (i : Int) : Jb := j.getD i.toNat default
/-- the ends of a row of jobs, from a clock on -/
def rowC (j : List Jb) (ch : Int) (c : Int × ByteArray) : List Int → List (Int × Int)
  | [] => []
  | i :: r => (i, (doC c (jobAt j i) ch).1) :: rowC j ch (doC c (jobAt j i) ch) r
def clkC (j : List Jb) (ch : Int) (c : Int × ByteArray) (row : List Int) : Int × ByteArray := row.foldl (fun c i => doC c (jobAt j i) ch) c
def rowP (p : List Prn) (j : List Jb) (ch : Int) (plan : List (List Int)) (k : Nat) : List (Int × Int) := rowC j ch (0, (p.getD k default).mat) (plan.getD k [])
def pairsK (p : List Prn) (j : List Jb) (plan : List (List Int)) (ch : Int) (k : Nat) : List (Int × Int) := ((List.range k).map (rowP p j ch plan)).flatten
def outO (n : Nat) (L : List (Int × Int)) : List Int := L.foldl (fun o q => o.set q.1.toNat q.2) (List.replicate n 0)
def lastO (L : List (Int × Int)) : Int := L.foldl (fun a q => max a q.2) 0
def endsF (p : List Prn) (j : List Jb) (plan : List (List Int)) (ch : Int) : List Int := outO j.length (pairsK p j plan ch plan.length)
def endF (p : List Prn) (j : List Jb) (plan : List (List Int)) (ch : Int) : Int := lastO (pairsK p j plan ch plan.length)

theorem rowC_append (j : List Jb) (ch : Int) : ∀ (c : Int × ByteArray) (a b : List Int), rowC j ch c (a ++ b) = rowC j ch c a ++ rowC j ch (clkC j ch c a) b
  | _, [], _ => rfl
  | c, i :: a, b => by simp only [List.cons_append, rowC, rowC_append j ch _ a b]; rfl
theorem rowC_snoc (j : List Jb) (ch : Int) (c : Int × ByteArray) (a : List Int) (i : Int) : rowC j ch c (a ++ [i]) = rowC j ch c a ++ [(i, (doC (clkC j ch c a) (jobAt j i) ch).1)] := by rw [rowC_append]; rfl
theorem clkC_snoc (j : List Jb) (ch : Int) (c : Int × ByteArray) (a : List Int) (i : Int) : clkC j ch c (a ++ [i]) = doC (clkC j ch c a) (jobAt j i) ch := by simp [clkC]
theorem outO_snoc (n : Nat) (L : List (Int × Int)) (q : Int × Int) : outO n (L ++ [q]) = (outO n L).set q.1.toNat q.2 := by simp [outO]
theorem lastO_snoc (L : List (Int × Int)) (q : Int × Int) : lastO (L ++ [q]) = max (lastO L) q.2 := by simp [lastO]
theorem outO_len (n : Nat) (L : List (Int × Int)) : (outO n L).length = n := by
  have : ∀ (L : List (Int × Int)) (o : List Int), (L.foldl (fun o q => o.set q.1.toNat q.2) o).length = o.length := by
    intro L; induction L with
    | nil => intro o; rfl
    | cons q L ih => intro o; rw [List.foldl_cons, ih, List.length_set]
  simp [outO, this]
theorem pairsK_succ (p : List Prn) (j : List Jb) (plan : List (List Int)) (ch : Int) (k : Nat) : pairsK p j plan ch (k + 1) = pairsK p j plan ch k ++ rowP p j ch plan k := by
  unfold pairsK; rw [List.range_succ, List.map_append, List.flatten_append]; simp
theorem jobAt_nat {j : List Jb} {i : Nat} (h : i < j.length) : jobAt j i = j[i] := by unfold jobAt; rw [Int.toNat_natCast]; simp [List.getD, h]

/-- what is asked of printers, jobs, plans and changes that are right -/
structure JOk (j : List Jb) (ch : Int) : Prop where
  len : j.length ≤ 500
  bd : ∀ x ∈ j, 1 ≤ x.min ∧ x.min ≤ 100000 ∧ 0 ≤ x.due ∧ x.due ≤ 1000000000
  chg : 0 ≤ ch ∧ ch ≤ 100000
structure POk (p : List Prn) (j : List Jb) (plan : List (List Int)) (ch : Int) : Prop extends JOk j ch where
  row : plan.length = p.length
  few : plan.flatten.length ≤ 500
  ix : ∀ i ∈ plan.flatten, 0 ≤ i ∧ i < j.length
theorem scanN_zero {f : Nat → Int} : ∀ {n : Nat}, scanN f n = 0 → ∀ k, k < n → f k = 0
  | 0, _, k, hk => by omega
  | n + 1, h, k, hk => by
    by_cases e : scanN f n = 0
    · have hn : f n = 0 := by simpa [scanN, e] using h
      by_cases he : k = n
      · rw [he]; exact hn
      · exact scanN_zero e k (by omega)
    · simp [scanN, e] at h
theorem jok_of {p : List Prn} {j : List Jb} {ch : Int} (h : farmF p j = 0) (hc : spanF ch 0 100000 = 0) : JOk j ch := by
  have h2 : jbsF j = 0 := by
    unfold farmF at h
    by_cases hz : prnsF p = 0
    · rw [if_pos hz] at h; exact h
    · rw [if_neg hz] at h; exact absurd h hz
  unfold jbsF at h2
  have hlen : j.length ≤ 500 := by
    by_cases hq : 500 < j.length
    · rw [if_pos hq] at h2; cases h2
    · omega
  rw [if_neg (by omega)] at h2
  refine ⟨hlen, fun x hx => ?_, ?_⟩
  · obtain ⟨k, hk, rfl⟩ := List.getElem_of_mem hx
    have := scanN_zero h2 k hk
    unfold jbF at this
    have e : j.getD k default = j[k] := by simp [List.getD, hk]
    rw [e] at this
    by_cases h1 : (keyB j[k].key && keyB j[k].mat) = true
    · rw [if_pos h1] at this
      by_cases h3 : (outB j[k].min 1 100000 || outB j[k].due 0 1000000000) = true
      · rw [if_pos h3] at this; cases this
      · simp [outB] at h3; omega
    · rw [if_neg h1] at this; cases this
  · rw [spanF_outB] at hc
    by_cases ho : outB ch 0 100000 = true
    · rw [if_pos ho] at hc; cases hc
    · simp [outB] at ho; omega
theorem planIn_zero (n : Nat) : ∀ (L T : List Int), planIn n T L = 0 → ∀ i (h : i < L.length), 0 ≤ L[i] ∧ L[i] < n ∧ memI (T ++ L.take i) L[i] = false
  | [], _, _, i, h => by simp at h
  | k :: r, T, h, i, hi => by
    unfold planIn at h
    by_cases h1 : k < 0 ∨ (n : Int) ≤ k
    · rw [if_pos h1] at h; cases h
    · rw [if_neg h1] at h
      rcases hm : memI T k with _ | _
      · rw [hm] at h
        have ih := planIn_zero n r (T ++ [k]) h
        rcases i with _ | i
        · simp [hm]; omega
        · have := ih i (by simpa using hi)
          simpa using this
      · rw [hm] at h; cases h
theorem planK_good {n : Nat} {L : List Int} (h : planK n L 0 = 0) : ∀ i (h : i < L.length), 0 ≤ L[i] ∧ L[i] < n ∧ memI (L.take i) L[i] = false := by
  intro i hi
  have := planIn_zero n L [] (by simpa [planK] using h) i hi
  simpa using this
theorem planK_few {n : Nat} {L : List Int} (h : planK n L 0 = 0) : L.length ≤ n := by
  have hg := planK_good h
  have hc := seenN_count (n := n) (L := L) (Nat.le_refl _) (fun i hh _ => hg i hh)
  rw [List.take_length] at hc
  have := List.count_le_length (a := true) (l := seenN n L)
  rw [hc, seenN_len] at this
  exact this
theorem pok_of {p : List Prn} {j : List Jb} {plan : List (List Int)} {ch : Int} (h : plannedF p j plan ch = 0) : POk p j plan ch := by
  unfold plannedF at h
  by_cases h0 : planF p j plan = 0
  · rw [if_pos h0] at h
    unfold planF at h0
    by_cases h1 : farmF p j = 0
    · rw [if_neg (by simp [h1])] at h0
      by_cases h2 : plan.length = p.length
      · rw [if_neg (by simp [h2])] at h0
        have hj := jok_of h1 h
        exact { toJOk := hj, row := h2, few := Nat.le_trans (planK_few h0) hj.len, ix := fun i hi => by
                  obtain ⟨k, hk, rfl⟩ := List.getElem_of_mem hi
                  exact ⟨(planK_good h0 k hk).1, (planK_good h0 k hk).2.1⟩ }
      · rw [if_pos (by simpa using h2)] at h0; cases h0
    · rw [if_pos (by simpa using h1)] at h0; exact absurd h0 h1
  · rw [if_neg h0] at h; exact absurd h h0
theorem doC_bd {j : List Jb} {ch : Int} (h : JOk j ch) {c : Int × ByteArray} {i : Int} (hi : 0 ≤ i ∧ i < j.length) {N : Int} (hc : 0 ≤ c.1 ∧ c.1 ≤ N) : 0 ≤ (doC c (jobAt j i) ch).1 ∧ (doC c (jobAt j i) ch).1 ≤ N + 200000 := by
  obtain ⟨k, rfl⟩ := Int.eq_ofNat_of_zero_le hi.1
  have hk : k < j.length := by omega
  rw [jobAt_nat hk]
  have hb := h.bd _ (List.getElem_mem hk)
  have hch := h.chg
  unfold doC
  by_cases hm : c.2 = j[k].mat
  · rw [if_pos hm]; simp only; omega
  · rw [if_neg hm]; simp only; omega
theorem clkC_bd {j : List Jb} {ch : Int} (h : JOk j ch) : ∀ (row : List Int) (_ : ∀ i ∈ row, 0 ≤ i ∧ i < (j.length : Int)) (c : Int × ByteArray) {N : Int} (_ : 0 ≤ c.1 ∧ c.1 ≤ N), 0 ≤ (clkC j ch c row).1 ∧ (clkC j ch c row).1 ≤ N + 200000 * row.length
  | [], _, c, N, hc => by unfold clkC; simpa using hc
  | i :: r, hr, c, N, hc => by
    have h1 := doC_bd h (hr i (by simp)) hc
    have := clkC_bd h r (fun k hk => hr k (by simp [hk])) (doC c (jobAt j i) ch) h1
    rw [show clkC j ch c (i :: r) = clkC j ch (doC c (jobAt j i) ch) r from rfl, List.length_cons]
    constructor
    · exact this.1
    · have := this.2; push_cast; omega
theorem row_in {plan : List (List Int)} {k : Nat} (hk : k < plan.length) : ∀ i ∈ plan[k], i ∈ plan.flatten := fun i hi => List.mem_flatten.2 ⟨_, List.getElem_mem hk, hi⟩
theorem row_len {plan : List (List Int)} {k : Nat} (hk : k < plan.length) : plan[k].length ≤ plan.flatten.length := by
  have e : plan.flatten = flatK plan k ++ (plan[k] ++ (plan.drop (k + 1)).flatten) := by
    unfold flatK
    conv => lhs; rw [← List.take_append_drop k plan, List.flatten_append, List.drop_eq_getElem_cons hk, List.flatten_cons]
  rw [e]; simp; omega
end Go.Proofs.YtlfobddinilmcaaDoor

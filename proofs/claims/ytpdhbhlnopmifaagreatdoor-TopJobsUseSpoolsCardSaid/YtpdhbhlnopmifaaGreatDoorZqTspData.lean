/- Contracts of functions that this seat's laws reach, each: what one call returns and what it leaves in memory; no condition beyond each theorem's own hypotheses. -/
import Derived.Test.YtpdhbhlnopmifaaGreatDoorZqFitP
import Derived.Test.YtpdhbhlnopmifaaGreatDoorZqFarmK
import Derived.Test.YtpdhbhlnopmifaaGreatDoorZqSpoolG
set_option linter.unusedVariables false
set_option linter.unusedSimpArgs false
namespace Go.Proofs.YtpdhbhlnopmifaaGreatDoor
open Go Go.RowKit Go.Bl Go.Maps Go.WideShapes

theorem scanN_allz {f : Nat → Int} : ∀ {n : Nat}, (∀ k, k < n → f k = 0) → scanN f n = 0
  | 0, _ => rfl
  | n + 1, h => by
    unfold scanN
    rw [if_pos (scanN_allz fun k hk => h k (by omega))]
    exact h n (by omega)

def drwAt (s : List Spl) (out nd : List Int) (i : Nat) : Drw := ⟨(i : Int), (s.getD (out.getD i 0).toNat default).key, nd.getD i 0⟩

def drwL (s : List Spl) (out nd : List Int) : List Drw := (List.range nd.length).map (drwAt s out nd)

theorem drwL_len (s : List Spl) (out nd : List Int) : (drwL s out nd).length = nd.length := by simp [drwL]

theorem drwL_get (s : List Spl) (out nd : List Int) {k : Nat} (h : k < nd.length) : (drwL s out nd).getD k default = drwAt s out nd k := by
  unfold drwL
  simp [List.getD_eq_getElem?_getD, h]

/-- each need is put on a spool that is there and has enough -/
theorem put_at : ∀ {ns left out left' : List Int}, PutTo ns left out left' → ∀ i, i < ns.length → ∃ k : Nat, out.getD i 0 = (k : Int) ∧ k < left.length
  | [], _, _, _, _, i, hi => by cases hi
  | n :: ns, left, out, left', h, i, hi => by
    obtain ⟨k, out', rfl, h1, h2, h3⟩ := h
    cases i with
    | zero => exact ⟨k, rfl, h1⟩
    | succ i =>
      obtain ⟨q, e, h4⟩ := put_at h3 i (by simpa using hi)
      exact ⟨q, by simpa using e, by simpa using h4⟩

theorem drwsF_put {s : List Spl} {m : ByteArray} {nd out left' : List Int} (hs : splsF s = 0) (h8 : nd.length ≤ 8) (hb : ∀ v ∈ nd, 1 ≤ v ∧ v ≤ 1000000000) (hp : PutTo nd (leftL s m) out left') : drwsF s (drwL s out nd) = 0 := by
  unfold drwsF
  rw [if_neg (by simp [hs]), drwL_len, if_neg (by omega)]
  refine scanN_allz fun k hk => ?_
  unfold drwF
  obtain ⟨q, e, hq⟩ := put_at hp k hk
  rw [leftL_len] at hq
  have hkey : (drwAt s out nd k).spool = s[q].key := by unfold drwAt; rw [e]; simp [List.getD_eq_getElem?_getD, hq]
  have hn := hb _ (List.getElem_mem hk)
  have hl : (drwAt s out nd k).long = nd[k] := by unfold drwAt; simp [List.getD_eq_getElem?_getD, hk]
  rw [drwL_get _ _ _ hk, hkey, (idx_of hs hq rfl).1, hl]
  have h1 : momO (drwAt s out nd k).at_ = false := by unfold momO outB drwAt; simp; omega
  have h2 : longO nd[k] = false := by unfold longO outB; simp; omega
  rw [h1, h2]
  rcases k with _ | k
  · simp
  · have h3 : (drwL s out nd).getD (k + 1 - 1) default = drwAt s out nd k := by
      rw [Nat.add_sub_cancel]; exact drwL_get _ _ _ (by omega)
    rw [h3]
    have h4 : ¬ (drwAt s out nd (k + 1)).at_ < (drwAt s out nd k).at_ := by unfold drwAt; simp only; omega
    simp [h4]

/-- what is left in the draws, and what is left in the fitting -/
def Rl (s : List Spl) (m : ByteArray) (lf L : List Int) : Prop := lf.length = s.length ∧ L.length = s.length ∧ ∀ i (h : i < s.length), (s[i].mat = m → lf.getD i 0 = L.getD i 0) ∧ (s[i].mat ≠ m → lf.getD i 0 = -1)

theorem foll_put {s : List Spl} {m : ByteArray} {nd out left' : List Int} (hs : splsF s = 0) (hb : ∀ v ∈ nd, 1 ≤ v ∧ v ≤ 1000000000) (hp : PutTo nd (leftL s m) out left') : ∀ k, k ≤ nd.length → (follW s (drwL s out nd) k).2 = [] ∧ ∃ lf, PutTo (nd.drop k) lf (out.drop k) left' ∧ Rl s m lf (follW s (drwL s out nd) k).1
  | 0, _ => by
    refine ⟨rfl, leftL s m, by simpa using hp, leftL_len s m, by simp [follW], fun i hi => ?_⟩
    have e : (leftL s m).getD i 0 = if s[i].mat = m then s[i].left else -1 := by
      rw [getD_at (by rw [leftL_len]; exact hi)]
      unfold leftL
      simp
    refine ⟨fun hm => ?_, fun hm => ?_⟩
    · rw [e, if_pos hm]
      unfold follW
      simp [List.getD_eq_getElem?_getD, hi]
    · rw [e, if_neg hm]
  | k + 1, hk => by
    obtain ⟨h1, lf, h2, h3, h4, h5⟩ := foll_put hs hb hp k (by omega)
    have hk2 : k < nd.length := by omega
    have hln := h2.len.1
    rw [List.length_drop, List.length_drop] at hln
    have hko : k < out.length := by omega
    rw [List.drop_eq_getElem_cons hk2, List.drop_eq_getElem_cons hko] at h2
    obtain ⟨q, out', e, hq, hn, h6⟩ := h2
    injection e with e1 e2
    have hqs : q < s.length := by omega
    have hv := hb _ (List.getElem_mem hk2)
    have hm : s[q].mat = m := Classical.byContradiction fun hc => by
      have := (h5 q hqs).2 hc
      omega
    have hLq := (h5 q hqs).1 hm
    have hbd := follW_bd hs (drwL s out nd) k
    unfold follW
    rw [drwL_get _ _ _ hk2]
    have hkey : (drwAt s out nd k).spool = s[q].key := by
      unfold drwAt
      rw [getD_at hko, e1]
      simp [List.getD_eq_getElem?_getD, hqs]
    have hl : (drwAt s out nd k).long = nd[k] := by unfold drwAt; simp [List.getD_eq_getElem?_getD, hk2]
    unfold stepW
    rw [hkey, (idx_of hs hqs rfl).2, hl]
    have hLb := hbd ((follW s (drwL s out nd) k).1.getD q 0) (by rw [getD_at (by omega)]; exact List.getElem_mem _)
    have ho : outB ((follW s (drwL s out nd) k).1.getD q 0 - nd[k]) 0 1000000000 = false := by
      rw [hLq] at hn
      generalize (follW s (drwL s out nd) k).1.getD q 0 = y at *
      unfold outB
      rw [decide_eq_false (by omega), decide_eq_false (by omega)]
      rfl
    rw [ho]
    refine ⟨h1, lf.set q (lf.getD q 0 - nd[k]), by rw [e2]; exact h6, ?_⟩
    refine ⟨by simpa using h3, by simpa using h4, fun i hi => ?_⟩
    by_cases ei : i = q
    · subst ei
      refine ⟨fun _ => ?_, fun hc => absurd hm hc⟩
      simp only [Bool.false_eq_true, if_false]
      rw [Go.Bl.getD_set_same (by omega), Go.Bl.getD_set_same (by omega), hLq]
    · simp only [Bool.false_eq_true, if_false]
      rw [Go.Bl.getD_set_ne (fun h => ei h.symm), Go.Bl.getD_set_ne (fun h => ei h.symm)]
      exact h5 i hi

/-! ### the jobs -/

def jKey (i : Nat) : ByteArray := ⟨#[106]⟩ ++ Utf8.encode (97 + (i : Int))

def plB : ByteArray := ⟨#[112, 108, 97]⟩

def jbAt (nd : List Int) (i : Nat) : Jb := ⟨jKey i, plB, 1 + nd.getD i 0 % 100, 0⟩

def jbL (nd : List Int) : List Jb := (List.range nd.length).map (jbAt nd)

def ordL (nd : List Int) : List Int := (List.range nd.length).map (fun i : Nat => (i : Int))

def sumJ (nd : List Int) (k : Nat) : Int := ((nd.take k).map (fun v => 1 + v % 100)).sum

theorem jbL_len (nd : List Int) : (jbL nd).length = nd.length := by simp [jbL]

theorem ordL_len (nd : List Int) : (ordL nd).length = nd.length := by simp [ordL]

theorem jbL_get (nd : List Int) {k : Nat} (h : k < nd.length) : (jbL nd).getD k default = jbAt nd k := by
  unfold jbL
  simp [List.getD_eq_getElem?_getD, h]

theorem sumJ_succ (nd : List Int) {k : Nat} (h : k < nd.length) : sumJ nd (k + 1) = sumJ nd k + (1 + nd[k] % 100) := by
  unfold sumJ
  rw [List.take_succ_eq_append_getElem h, List.map_append, List.sum_append]
  simp

theorem sumJ_bd (nd : List Int) : ∀ k, k ≤ nd.length → 0 ≤ sumJ nd k ∧ sumJ nd k ≤ 100 * k
  | 0, _ => by simp [sumJ]
  | k + 1, hk => by
    have := sumJ_bd nd k (by omega)
    rw [sumJ_succ nd (by omega)]
    omega

theorem plB_key : keyB plB = true := by decide +kernel

theorem jKey_key : ∀ i < 8, keyB (jKey i) = true := by decide +kernel

theorem jKey_le : ∀ i < 7, leS (jKey (i + 1)) (jKey i) = false := by decide +kernel

theorem jbsF_zero (nd : List Int) (h8 : nd.length ≤ 8) : jbsF (jbL nd) = 0 := by
  unfold jbsF
  rw [jbL_len, if_neg (by omega)]
  refine scanN_allz fun k hk => ?_
  unfold jbF
  rw [jbL_get nd hk]
  have h1 : keyB (jbAt nd k).key = true := jKey_key k (by omega)
  have h2 : keyB (jbAt nd k).mat = true := plB_key
  have h3 : outB (jbAt nd k).min 1 100000 = false := by unfold outB jbAt; simp; omega
  have h4 : outB (jbAt nd k).due 0 1000000000 = false := by unfold outB jbAt; simp
  rw [h1, h2, h3, h4]
  rcases k with _ | k
  · simp
  · have e : (jbL nd).getD (k + 1 - 1) default = jbAt nd k := by rw [Nat.add_sub_cancel]; exact jbL_get nd (by omega)
    rw [e]
    have h5 : leS (jbAt nd (k + 1)).key (jbAt nd k).key = false := jKey_le k (by omega)
    rw [h5]
    simp

def prP : List Prn := [⟨⟨#[112]⟩, plB⟩]

theorem prnsF_one : prnsF prP = 0 := by decide +kernel

theorem ordL_at (nd : List Int) {k : Nat} (h : k < (ordL nd).length) : (ordL nd)[k] = (k : Int) := by simp [ordL]

theorem planK_ord (nd : List Int) : ∀ d k, k + d = nd.length → planK nd.length (ordL nd) k = 0
  | 0, k, h => by
    have e : k = (ordL nd).length := by rw [ordL_len]; omega
    rw [e, planK_end, ordL_len, if_neg (by omega)]
  | d + 1, k, h => by
    have hk : k < (ordL nd).length := by rw [ordL_len]; omega
    rw [planK_step hk, ordL_at nd hk, if_neg (by omega)]
    have hm : memI ((ordL nd).take k) (k : Int) = false := by
      unfold memI
      rw [decide_eq_false_iff_not]
      intro hc
      obtain ⟨i, hi, e⟩ := List.getElem_of_mem hc
      rw [List.getElem_take, ordL_at] at e
      rw [List.length_take] at hi
      omega
    rw [hm]
    simp only [Bool.false_eq_true, if_false]
    exact planK_ord nd d (k + 1) (by omega)

theorem planF_ord (nd : List Int) (h8 : nd.length ≤ 8) : planF prP (jbL nd) [ordL nd] = 0 := by
  have hf : farmF prP (jbL nd) = 0 := by unfold farmF; rw [if_pos prnsF_one]; exact jbsF_zero nd h8
  unfold planF
  rw [if_neg (by simp [hf]), if_neg (by simp [prP]), jbL_len]
  have e : [ordL nd].flatten = ordL nd := by simp
  rw [e]
  exact planK_ord nd nd.length 0 (by omega)

theorem clk_ord (nd : List Int) : ∀ k, k ≤ nd.length → clkC (jbL nd) 50 (0, plB) ((ordL nd).take k) = (sumJ nd k, plB) ∧ lastO (rowC (jbL nd) 50 (0, plB) ((ordL nd).take k)) = sumJ nd k
  | 0, _ => by simp [clkC, sumJ, rowC, lastO]
  | k + 1, hk => by
    obtain ⟨h1, h2⟩ := clk_ord nd k (by omega)
    have hk2 : k < (ordL nd).length := by rw [ordL_len]; omega
    have hk3 : k < nd.length := by omega
    have hj : jobAt (jbL nd) (k : Int) = jbAt nd k := by unfold jobAt; rw [Int.toNat_natCast]; exact jbL_get nd hk3
    have hn : nd.getD k 0 = nd[k] := by simp [List.getD_eq_getElem?_getD, hk3]
    have hd : doC (sumJ nd k, plB) (jbAt nd k) 50 = (sumJ nd (k + 1), plB) := by
      unfold doC jbAt
      rw [if_pos rfl, sumJ_succ nd hk3, hn]
      simp only [Prod.mk.injEq, and_true]
      omega
    rw [List.take_succ_eq_append_getElem hk2, ordL_at nd hk2, clkC_snoc, rowC_snoc, lastO_snoc, h1, h2, hj, hd]
    refine ⟨rfl, ?_⟩
    have := sumJ_bd nd k (by omega)
    rw [sumJ_succ nd hk3]
    show max (sumJ nd k) (sumJ nd k + (1 + nd[k] % 100)) = _
    omega

theorem endF_ord (nd : List Int) : endF prP (jbL nd) [ordL nd] 50 = sumJ nd nd.length := by
  unfold endF
  have e : pairsK prP (jbL nd) [ordL nd] 50 [ordL nd].length = rowC (jbL nd) 50 (0, plB) ((ordL nd).take nd.length) := by
    rw [show (ordL nd).take nd.length = ordL nd by rw [← ordL_len nd, List.take_length]]
    show pairsK prP (jbL nd) [ordL nd] 50 (0 + 1) = _
    rw [pairsK_succ]
    rfl
  rw [e]
  exact (clk_ord nd nd.length (Nat.le_refl _)).2

end Go.Proofs.YtpdhbhlnopmifaaGreatDoor

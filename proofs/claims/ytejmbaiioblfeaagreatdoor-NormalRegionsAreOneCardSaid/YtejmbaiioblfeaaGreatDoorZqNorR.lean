/- Contracts of functions that this seat's laws reach, each: what one call returns and what it leaves in memory; no condition beyond each theorem's own hypotheses. -/
import Derived.Test.YtejmbaiioblfeaaGreatDoorZqNzD
import Derived.Test.YtejmbaiioblfeaaGreatDoorZqGeoD
import Derived.Test.YtejmbaiioblfeaaGreatDoorZqFillOut
import Derived.Test.YtejmbaiioblfeaaGreatDoorZqHulX
set_option linter.unusedVariables false
set_option linter.unusedSimpArgs false
namespace Go.Proofs.YtejmbaiioblfeaaGreatDoor
open Go Go.RowKit Go.Bl

theorem foldW_shift {G : Type} (op : G → G → G) (e : G) (F : Nat → G) (k : Nat) : ∀ l, foldW op e (fun j => F (j + k)) 0 l = foldW op e F k l
  | 0 => rfl
  | l + 1 => by
    show op (foldW op e (fun j => F (j + k)) 0 l) (F (0 + l + k)) = op (foldW op e F k l) (F (k + l))
    rw [foldW_shift op e F k l, Nat.zero_add, Nat.add_comm l k]

theorem foldW_back {G : Type} {op : G → G → G} {e : G} (h : CM op e) (F : Nat → G) (s : Nat) : ∀ n, foldW op e (fun i => F (s + n - 1 - i)) 0 n = foldW op e F s n
  | 0 => rfl
  | n + 1 => by
    rw [Nat.add_comm n 1, foldW_add h _ 0 1 n, foldW_one h, Nat.add_comm 1 n]
    show op (F (s + (n + 1) - 1 - 0)) (foldW op e (fun i => F (s + (n + 1) - 1 - i)) 1 n) = op (foldW op e F s n) (F (s + n))
    rw [h.comm, show s + (n + 1) - 1 - 0 = s + n by omega]
    congr 1
    rw [← foldW_shift op e (fun i => F (s + (n + 1) - 1 - i)) 1 n, ← foldW_back h F s n]
    exact foldW_eq n fun k _ => by congr 1; omega

/-- a ring that begins elsewhere -/
def Rot (r s : List Pt) : Prop := s.length = r.length ∧ ∃ k, ∀ i, cor s i = cor r (i + k)
/-- a ring the other way round -/
def Rvs (r s : List Pt) : Prop := s.length = r.length ∧ ∀ i j, (i + j + 1) % r.length = 0 → cor s i = cor r j

theorem Rot.symm {r s : List Pt} (h : Rot r s) (h0 : 0 < r.length) : Rot s r := by
  obtain ⟨hl, k, hk⟩ := h
  refine ⟨hl.symm, r.length * k - k, fun i => ?_⟩
  have := Nat.le_mul_of_pos_left k h0
  rw [hk, show i + (r.length * k - k) + k = i + r.length * k by omega, cor_am]

theorem Rvs.symm {r s : List Pt} (h : Rvs r s) : Rvs s r := ⟨h.1.symm, fun i j e => (h.2 j i (by rw [h.1] at e; rw [Nat.add_comm j i]; exact e)).symm⟩

theorem Rot.refl (r : List Pt) : Rot r r := ⟨rfl, 0, fun i => rfl⟩

theorem Rot.trans {r s t : List Pt} (h : Rot r s) (k : Rot s t) : Rot r t := by
  obtain ⟨h1, a, h2⟩ := h
  obtain ⟨k1, b, k2⟩ := k
  exact ⟨k1.trans h1, b + a, fun i => by rw [k2, h2, Nat.add_assoc]⟩

theorem rot_take {r : List Pt} {k : Nat} (hk : k ≤ r.length) : Rot r (r.drop k ++ r.take k) ∧ ∀ i, cor (r.drop k ++ r.take k) i = cor r (i + k) := by
  have hl : (r.drop k ++ r.take k).length = r.length := by rw [List.length_append, List.length_drop, List.length_take]; omega
  have hc : ∀ i, cor (r.drop k ++ r.take k) i = cor r (i + k) := fun i => by
    by_cases h0 : r.length = 0
    · have : r = [] := List.length_eq_zero_iff.1 h0
      subst this; simp [cor]
    · have hm := Nat.mod_lt i (show 0 < r.length by omega)
      have e : cor r (i + k) = cor r (i % r.length + k) := (cor_mm r i k).symm
      rw [e]
      unfold cor
      rw [hl]
      rw [List.getD_eq_getElem?_getD, List.getD_eq_getElem?_getD]
      by_cases h : i % r.length < r.length - k
      · rw [List.getElem?_append_left (by rw [List.length_drop]; exact h), List.getElem?_drop, Nat.mod_eq_of_lt (show i % r.length + k < r.length by omega), Nat.add_comm]
      · rw [List.getElem?_append_right (by rw [List.length_drop]; omega), List.length_drop, List.getElem?_take_of_lt (by omega), Nat.mod_eq_sub_mod (show r.length ≤ i % r.length + k by omega), Nat.mod_eq_of_lt (show i % r.length + k - r.length < r.length by omega)]
        congr 2
        omega
  exact ⟨⟨hl, k, hc⟩, hc⟩

theorem rvs_rev (r : List Pt) : Rvs r r.reverse := by
  refine ⟨List.length_reverse, fun i j h => ?_⟩
  by_cases h0 : r.length = 0
  · have : r = [] := List.length_eq_zero_iff.1 h0
    subst this; simp [cor]
  · have hi := Nat.mod_lt i (show 0 < r.length by omega)
    have hj := Nat.mod_lt j (show 0 < r.length by omega)
    have e : i % r.length + j % r.length + 1 = r.length := by
      have h1 : (i % r.length + j % r.length + 1) % r.length = 0 := by
        rw [← h, Nat.add_mod, Nat.add_mod (i % r.length), Nat.mod_mod, Nat.mod_mod, ← Nat.add_mod i j, ← Nat.add_mod]
      have h2 := Nat.div_add_mod (i % r.length + j % r.length + 1) r.length
      rw [h1, Nat.add_zero] at h2
      have h3 : i % r.length + j % r.length + 1 < 2 * r.length := by omega
      rcases hq : (i % r.length + j % r.length + 1) / r.length with _ | _ | q
      · rw [hq, Nat.mul_zero] at h2; omega
      · rw [hq, Nat.zero_add, Nat.mul_one] at h2; omega
      · rw [hq] at h2
        have : r.length * (q + 1 + 1) = r.length * q + r.length + r.length := by rw [Nat.mul_add, Nat.mul_add, Nat.mul_one]
        omega
    unfold cor
    rw [List.length_reverse, List.getD_eq_getElem?_getD, List.getD_eq_getElem?_getD, List.getElem?_reverse (by omega)]
    congr 2
    omega

theorem Rvs.at_ {r s : List Pt} (h : Rvs r s) (m : Nat) {i : Nat} (hi : i < r.length * m) : cor s i = cor r (r.length * m - 1 - i) := h.2 i _ (by
  rw [show i + (r.length * m - 1 - i) + 1 = r.length * m by omega, Nat.mul_mod_right])

/-! ### right rings -/

theorem Rot.rr {r s : List Pt} (h : Rot r s) (R : RR r.length (cor r)) : RR s.length (cor s) := by
  obtain ⟨hl, k, hk⟩ := h
  rw [hl]
  refine ⟨R.n3, fun i => ?_, fun i j h1 h2 => ?_, fun i => ?_, fun i j h1 h2 => ?_⟩
  · rw [hk, hk, show i + r.length + k = i + k + r.length by omega, R.per]
  · rw [hk, hk]; exact R.inj _ _ (by omega) (by omega)
  · rw [hk, hk, hk, show i + 1 + k = i + k + 1 by omega, show i + 2 + k = i + k + 2 by omega]; exact R.fold _
  · rw [hk, hk, hk, hk, show i + 1 + k = i + k + 1 by omega, show j + 1 + k = j + k + 1 by omega]; exact R.side _ _ (by omega) (by omega)

theorem Rvs.rr {r s : List Pt} (h : Rvs r s) (R : RR r.length (cor r)) : RR s.length (cor s) := by
  have hl := h.1
  have hn := R.n3
  have key : ∀ m i, i ≤ m → cor s i = cor r (r.length * (m + 1) - 1 - i) := fun m i hi => h.at_ (m + 1) (by
    have := Nat.le_mul_of_pos_left (m + 1) (show 0 < r.length by omega)
    omega)
  have big : ∀ m, m + 1 ≤ r.length * (m + 1) := fun m => Nat.le_mul_of_pos_left (m + 1) (by omega)
  rw [hl]
  refine ⟨hn, fun i => ?_, fun i j h1 h2 => ?_, fun i => ?_, fun i j h1 h2 => ?_⟩
  · have := cor_mod s i; rw [hl] at this; exact this
  · have hb := big j
    rw [key j i (by omega), key j j (by omega)]
    exact (R.inj _ _ (show r.length * (j + 1) - 1 - j < r.length * (j + 1) - 1 - i by omega) (by omega)).symm
  · have hb := big (i + 2)
    rw [key (i + 2) (i + 1) (by omega), key (i + 2) i (by omega), key (i + 2) (i + 2) (by omega)]
    generalize r.length * (i + 2 + 1) = T at *
    have := R.fold (T - 1 - (i + 2))
    rw [show T - 1 - (i + 2) + 1 = T - 1 - (i + 1) by omega, show T - 1 - (i + 2) + 2 = T - 1 - i by omega] at this
    rw [fold_sym]; exact this
  · have hb := big (j + 1)
    rw [key (j + 1) i (by omega), key (j + 1) (i + 1) (by omega), key (j + 1) j (by omega), key (j + 1) (j + 1) (by omega)]
    generalize r.length * (j + 1 + 1) = T at *
    have := R.side (T - 1 - (j + 1)) (T - 1 - (i + 1)) (by omega) (by omega)
    rw [show T - 1 - (j + 1) + 1 = T - 1 - j by omega, show T - 1 - (i + 1) + 1 = T - 1 - i by omega] at this
    exact meetM_f_flip2 (meetM_f_flip (meetM_f_sym this))

theorem cor_all_mem {r s : List Pt} (h0 : 0 < s.length) (h : ∀ i, ∃ j, cor s i = cor r j) (hr : 0 < r.length) : ∀ x ∈ s, x ∈ r := fun x hx => by
  obtain ⟨i, hi, rfl⟩ := List.mem_iff_getElem.1 hx
  rw [← cor_lt hi]
  obtain ⟨j, hj⟩ := h i
  rw [hj]; exact cor_mem hr j

theorem Rot.mem {r s : List Pt} (h : Rot r s) (h0 : 0 < r.length) : ∀ x ∈ s, x ∈ r := cor_all_mem (by rw [h.1]; exact h0) (fun i => by obtain ⟨-, k, hk⟩ := h; exact ⟨_, hk i⟩) h0

theorem Rvs.mem {r s : List Pt} (h : Rvs r s) (h0 : 0 < r.length) : ∀ x ∈ s, x ∈ r := cor_all_mem (by rw [h.1]; exact h0) (fun i => ⟨_, h.at_ (i + 1) (by have := Nat.le_mul_of_pos_left (i + 1) h0; omega)⟩) h0

theorem ring_noFar {r : List Pt} (h : ringF r = 0) : r.any farP = false := by
  obtain ⟨h3, h5, -, -, -⟩ := ringF_ok h
  unfold ringF at h
  rw [if_neg (by omega), if_neg (by omega)] at h
  by_cases k : r.any farP = true
  · rw [if_pos k] at h; cases h
  · simpa using k

theorem ring_right {r s : List Pt} (hr : ringF r = 0) (hl : s.length = r.length) (hm : ∀ x ∈ s, x ∈ r) (R : RR s.length (cor s)) : ringF s = 0 := by
  obtain ⟨-, h5, -, -, -⟩ := ringF_ok hr
  refine ringF_of (by omega) ?_ R
  have hf := ring_noFar hr
  rw [List.any_eq_false] at hf ⊢
  exact fun x hx => hf x (hm x hx)

/-- the same ring, for what it encloses -/
structure RV (r s : List Pt) : Prop where
  len : s.length = r.length
  ring : ringF s = 0
  dbl : dblF s = dblF r ∨ dblF s = -dblF r
  inn : ∀ p, (∀ i, onB p (cor r i) (cor r (i + 1)) = false) → isInF s p = isInF r p
  sd : ∀ b, ∃ c, (cor s b = cor r c ∧ cor s (b + 1) = cor r (c + 1)) ∨ (cor s b = cor r (c + 1) ∧ cor s (b + 1) = cor r c)
  sd2 : ∀ b, ∃ c, (cor r b = cor s c ∧ cor r (b + 1) = cor s (c + 1)) ∨ (cor r b = cor s (c + 1) ∧ cor r (b + 1) = cor s c)

theorem Rot.sd {r s : List Pt} (h : Rot r s) (b : Nat) : ∃ c, (cor s b = cor r c ∧ cor s (b + 1) = cor r (c + 1)) ∨ (cor s b = cor r (c + 1) ∧ cor s (b + 1) = cor r c) := by
  obtain ⟨-, k, hk⟩ := h
  exact ⟨b + k, .inl ⟨hk b, by rw [hk, show b + 1 + k = b + k + 1 by omega]⟩⟩

theorem Rvs.sd {r s : List Pt} (h : Rvs r s) (h0 : 0 < r.length) (b : Nat) : ∃ c, (cor s b = cor r c ∧ cor s (b + 1) = cor r (c + 1)) ∨ (cor s b = cor r (c + 1) ∧ cor s (b + 1) = cor r c) := by
  have hb := Nat.le_mul_of_pos_left (b + 2) h0
  refine ⟨r.length * (b + 2) - 1 - (b + 1), .inr ⟨?_, ?_⟩⟩
  · rw [h.at_ (b + 2) (by omega)]; congr 1; omega
  · rw [h.at_ (b + 2) (by omega)]

theorem Rot.dbl {r s : List Pt} (h : Rot r s) : dblF s = dblF r := by
  obtain ⟨hl, k, hk⟩ := h
  unfold dblF
  rw [dblK_fold, dblK_fold, hl, foldW_eq (F' := fun j => dblP (cor r (j + k)) (cor r (j + k + 1))) r.length fun j _ => by simp only [hk]; rw [show 0 + j + 1 + k = 0 + j + k + 1 by omega]]
  rw [foldW_shift _ _ (fun j => dblP (cor r j) (cor r (j + 1))) k]
  exact foldW_rot cm_add _ (fun j => by rw [cor_mod, show j + r.length + 1 = j + 1 + r.length by omega, cor_mod]) k

theorem Rot.inn {r s : List Pt} (h : Rot r s) (p : Pt) : isInF s p = isInF r p := by
  obtain ⟨hl, k, hk⟩ := h
  unfold isInF
  rw [isInK_fold, isInK_fold, hl, foldW_eq (F' := fun j => crs (cor r (j + k)) (cor r (j + k + 1)) p) r.length fun j _ => by simp only [hk]; rw [show 0 + j + 1 + k = 0 + j + k + 1 by omega]]
  rw [foldW_shift _ _ (fun j => crs (cor r j) (cor r (j + 1)) p) k]
  exact foldW_rot cm_xor _ (fun j => by rw [cor_mod, show j + r.length + 1 = j + 1 + r.length by omega, cor_mod]) k

theorem rot_rv {r s : List Pt} (h : Rot r s) (hr : ringF r = 0) : RV r s := by
  have R := rr_of hr
  have h0 : 0 < r.length := by have := R.n3; omega
  refine ⟨h.1, ring_right hr h.1 (h.mem h0) (h.rr R), .inl h.dbl, fun p _ => h.inn p, h.sd, (h.symm h0).sd⟩

theorem Rvs.side {r s : List Pt} (h : Rvs r s) (h2 : 2 ≤ r.length) {i : Nat} (hi : i < r.length) : cor s i = cor r (r.length - 1 + r.length - 1 - i + 1) ∧ cor s (i + 1) = cor r (r.length - 1 + r.length - 1 - i) := by
  rw [h.at_ 2 (by omega), h.at_ 2 (by omega)]
  constructor <;> (congr 1; omega)

theorem dblP_flip (a b : Pt) : dblP b a = -1 * dblP a b := by unfold dblP; grind

theorem foldW_neg (F : Nat → Int) (s : Nat) : ∀ l, foldW (fun a b : Int => a + b) 0 (fun i => -1 * F i) s l = -foldW (fun a b : Int => a + b) 0 F s l
  | 0 => rfl
  | l + 1 => by
    show foldW (fun a b : Int => a + b) 0 (fun i => -1 * F i) s l + -1 * F (s + l) = -(foldW (fun a b : Int => a + b) 0 F s l + F (s + l))
    rw [foldW_neg F s l]; omega

theorem Rvs.dbl {r s : List Pt} (h : Rvs r s) (h2 : 2 ≤ r.length) : dblF s = -dblF r := by
  unfold dblF
  rw [dblK_fold, dblK_fold, h.1, foldW_eq (F' := fun j => (fun m => -1 * dblP (cor r m) (cor r (m + 1))) (r.length - 1 + r.length - 1 - j)) r.length fun j hj => by
    obtain ⟨e1, e2⟩ := h.side h2 (i := 0 + j) (by omega)
    simp only
    rw [e1, e2, dblP_flip]]
  rw [foldW_back cm_add (fun m => -1 * dblP (cor r m) (cor r (m + 1))) (r.length - 1), foldW_neg]
  congr 1
  exact foldW_rot cm_add _ (fun j => by rw [cor_mod, show j + r.length + 1 = j + 1 + r.length by omega, cor_mod]) _

theorem crs_back {a b p : Pt} (h : onB p a b = false) : crs b a p = crs a b p := crs_flip fun h1 h2 => by
  have := onB_iff.2 ⟨h2, line_boxY h2 (by omega) (by omega) (by omega)⟩
  rw [h] at this
  cases this

theorem Rvs.inn {r s : List Pt} (h : Rvs r s) (h2 : 2 ≤ r.length) {p : Pt} (hp : ∀ i, onB p (cor r i) (cor r (i + 1)) = false) : isInF s p = isInF r p := by
  unfold isInF
  rw [isInK_fold, isInK_fold, h.1, foldW_eq (F' := fun j => (fun m => crs (cor r m) (cor r (m + 1)) p) (r.length - 1 + r.length - 1 - j)) r.length fun j hj => by
    obtain ⟨e1, e2⟩ := h.side h2 (i := 0 + j) (by omega)
    simp only
    rw [e1, e2, crs_back (hp _), Nat.zero_add]]
  rw [foldW_back cm_xor (fun m => crs (cor r m) (cor r (m + 1)) p) (r.length - 1)]
  exact foldW_rot cm_xor _ (fun j => by rw [cor_mod, show j + r.length + 1 = j + 1 + r.length by omega, cor_mod]) _

theorem rvs_rv {r s : List Pt} (h : Rvs r s) (hr : ringF r = 0) : RV r s := by
  have R := rr_of hr
  have h3 := R.n3
  refine ⟨h.1, ring_right hr h.1 (h.mem (by omega)) (h.rr R), .inr (h.dbl (by omega)), fun p hp => h.inn (by omega) hp, h.sd (by omega), h.symm.sd (by rw [h.1]; omega)⟩

theorem onB_side {a b c d p : Pt} (h : (a = c ∧ b = d) ∨ (a = d ∧ b = c)) : onB p a b = onB p c d := by
  rcases h with ⟨rfl, rfl⟩ | ⟨rfl, rfl⟩
  · rfl
  · exact onB_flip _ _ _

def SdE (r s : List Pt) : Prop := ∀ b, ∃ c, (cor s b = cor r c ∧ cor s (b + 1) = cor r (c + 1)) ∨ (cor s b = cor r (c + 1) ∧ cor s (b + 1) = cor r c)

theorem SdE.trans {r s t : List Pt} (h : SdE r s) (k : SdE s t) : SdE r t := fun b => by
  obtain ⟨c, hc⟩ := k b
  obtain ⟨d, hd⟩ := h c
  refine ⟨d, ?_⟩
  rcases hc with ⟨c1, c2⟩ | ⟨c1, c2⟩ <;> rcases hd with ⟨d1, d2⟩ | ⟨d1, d2⟩
  · exact .inl ⟨c1.trans d1, c2.trans d2⟩
  · exact .inr ⟨c1.trans d1, c2.trans d2⟩
  · exact .inr ⟨c1.trans d2, c2.trans d1⟩
  · exact .inl ⟨c1.trans d2, c2.trans d1⟩

theorem RV.trans {r s t : List Pt} (h : RV r s) (k : RV s t) : RV r t := by
  refine ⟨k.len.trans h.len, k.ring, ?_, fun p hp => ?_, SdE.trans h.sd k.sd, SdE.trans k.sd2 h.sd2⟩
  · have h1 := h.dbl
    have h2 := k.dbl
    omega
  · rw [k.inn p fun i => ?_, h.inn p hp]
    obtain ⟨c, hc⟩ := h.sd i
    rw [onB_side hc]; exact hp c

end Go.Proofs.YtejmbaiioblfeaaGreatDoor

namespace Go.Proofs.YtejmbaiioblfeaaGreatDoor
open Go Go.RowKit Go.Bl

structure RegV (rs ss : List (List Pt)) (o : List Nat) : Prop where
  perm : o.Perm (List.range rs.length)
  len : ss.length = rs.length
  rv : ∀ j, j < rs.length → RV (rs.getD (o.getD j 0) []) (ss.getD j [])
section
variable {rs ss : List (List Pt)} {o : List Nat}

theorem perm_len {n : Nat} {o : List Nat} (h : o.Perm (List.range n)) : o.length = n := by have := h.length_eq; simpa using this

theorem perm_lt {n : Nat} {o : List Nat} (h : o.Perm (List.range n)) {j : Nat} (hj : j < n) : o.getD j 0 < n := by
  have hl := perm_len h
  rw [List.getD_eq_getElem?_getD, List.getElem?_eq_getElem (by omega), Option.getD_some]
  exact List.mem_range.1 (h.mem_iff.1 (List.getElem_mem (by omega)))

theorem perm_inj {n : Nat} {o : List Nat} (h : o.Perm (List.range n)) {i j : Nat} (hi : i < n) (hj : j < n) (hne : i ≠ j) : o.getD i 0 ≠ o.getD j 0 := by
  have hl := perm_len h
  have hn := List.nodup_iff_pairwise_ne.1 (h.nodup_iff.2 List.nodup_range)
  rw [List.pairwise_iff_getElem] at hn
  rw [List.getD_eq_getElem?_getD, List.getElem?_eq_getElem (show i < o.length by omega), Option.getD_some, List.getD_eq_getElem?_getD, List.getElem?_eq_getElem (show j < o.length by omega), Option.getD_some]
  rcases Nat.lt_or_gt_of_ne hne with k | k
  · exact hn i j _ _ k
  · exact (hn j i _ _ k).symm

theorem perm_all {n : Nat} {o : List Nat} (h : o.Perm (List.range n)) : (List.range n).map (fun j => o.getD j 0) = o := by
  have hl := perm_len h
  refine List.ext_getElem (by simp [hl]) fun i h1 h2 => ?_
  simp only [List.getElem_map, List.getElem_range]
  rw [List.getD_eq_getElem?_getD, List.getElem?_eq_getElem h2, Option.getD_some]

theorem perm_count {n : Nat} {o : List Nat} (h : o.Perm (List.range n)) (P : Nat → Bool) : (List.range n).countP (fun j => P (o.getD j 0)) = (List.range n).countP P := by
  have : (List.range n).countP (fun j => P (o.getD j 0)) = ((List.range n).map (fun j => o.getD j 0)).countP P := by rw [List.countP_map]; rfl
  rw [this, perm_all h]
  exact h.countP_eq P

def sumL : List Int → Int
  | [] => 0
  | a :: l => a + sumL l

theorem sumL_perm {l m : List Int} (h : l.Perm m) : sumL l = sumL m := by
  induction h with
  | nil => rfl
  | cons x _ ih => simp only [sumL, ih]
  | swap x y l => simp only [sumL]; omega
  | trans _ _ h1 h2 => exact h1.trans h2

theorem sumL_append : ∀ l m, sumL (l ++ m) = sumL l + sumL m
  | [], m => by simp [sumL]
  | a :: l, m => by simp only [List.cons_append, sumL, sumL_append l m]; omega

theorem perm_sumI {n : Nat} {o : List Nat} (h : o.Perm (List.range n)) (g : Nat → Int) : sumL ((List.range n).map (fun j => g (o.getD j 0))) = sumL ((List.range n).map g) := by
  have : (List.range n).map (fun j => g (o.getD j 0)) = ((List.range n).map (fun j => o.getD j 0)).map g := by rw [List.map_map]; rfl
  rw [this, perm_all h]
  exact sumL_perm (h.map g)

theorem count_congr {n : Nat} {P Q : Nat → Bool} (h : ∀ j, j < n → P j = Q j) : (List.range n).countP P = (List.range n).countP Q :=
  List.countP_congr fun j hj => by rw [h j (List.mem_range.1 hj)]

theorem map_congr {n : Nat} {f g : Nat → Int} (h : ∀ j, j < n → f j = g j) : (List.range n).map f = (List.range n).map g :=
  List.map_congr_left fun j hj => h j (List.mem_range.1 hj)

theorem dpt_count (rs : List (List Pt)) (i : Nat) : ∀ k, dptK rs i k = (((List.range k).countP fun m => i != m && isInF (rs.getD m []) (cor (rs.getD i []) 0) : Nat) : Int)
  | 0 => rfl
  | k + 1 => by
    unfold dptK
    rw [dpt_count rs i k, List.range_succ, List.countP_append]
    simp only [List.countP_singleton]
    split <;> simp

theorem area_sum (rs : List (List Pt)) : ∀ k, areaK rs k = sumL ((List.range k).map fun m => if dptF rs m % 2 = 0 then absG (dblF (rs.getD m [])) else -absG (dblF (rs.getD m [])))
  | 0 => rfl
  | k + 1 => by
    unfold areaK
    rw [List.range_succ, List.map_append, sumL_append, ← area_sum rs k]
    simp only [List.map_cons, List.map_nil, sumL]
    split <;> omega

theorem par_count (rs : List (List Pt)) (p : Pt) : ∀ k, parR rs p k = decide (((List.range k).countP fun m => isInF (rs.getD m []) p) % 2 = 1)
  | 0 => rfl
  | k + 1 => by
    unfold parR
    rw [par_count rs p k, List.range_succ, List.countP_append]
    simp only [List.countP_singleton]
    cases isInF (rs.getD k []) p
    · simp
    · simp only [if_true, Bool.xor_true]
      rw [← decide_not, decide_eq_decide]; omega

theorem apart_off (h : Apart rs) {i k : Nat} (hi : i < rs.length) (hk : k < rs.length) (hne : i ≠ k) (a b : Nat) : onB (cor (rs.getD i []) a) (cor (rs.getD k []) b) (cor (rs.getD k []) (b + 1)) = false := by
  rw [Bool.eq_false_iff]
  intro ho
  have k1 := onB_iff.1 ho
  have := meet_on (a := cor (rs.getD i []) a) (b := cor (rs.getD i []) (a + 1)) k1.1 k1.2
  rw [h i k hi hk hne] at this
  cases this

theorem RegV.corner (h : RegV rs ss o) {j : Nat} (hj : j < rs.length) (a : Nat) : ∃ c, cor (ss.getD j []) a = cor (rs.getD (o.getD j 0) []) c := by
  obtain ⟨c, hc⟩ := (h.rv j hj).sd a
  rcases hc with hc | hc
  · exact ⟨_, hc.1⟩
  · exact ⟨_, hc.1⟩

theorem RegV.apart (h : RegV rs ss o) (ha : Apart rs) : Apart ss := by
  intro i j hi hj hne a b
  rw [h.len] at hi hj
  obtain ⟨c, hc⟩ := (h.rv i hi).sd a
  obtain ⟨d, hd⟩ := (h.rv j hj).sd b
  have := ha _ _ (perm_lt h.perm hi) (perm_lt h.perm hj) (perm_inj h.perm hi hj hne) c d
  rcases hc with ⟨c1, c2⟩ | ⟨c1, c2⟩ <;> rcases hd with ⟨d1, d2⟩ | ⟨d1, d2⟩ <;> rw [c1, c2, d1, d2]
  · exact this
  · exact meetM_f_flip2 this
  · exact meetM_f_flip this
  · exact meetM_f_flip2 (meetM_f_flip this)

theorem flat_sum (rs : List (List Pt)) : ((flatK rs rs.length).length : Int) = sumL ((List.range rs.length).map fun j => ((rs.getD j []).length : Int)) := by
  rw [flatK_all (Nat.le_refl _)]
  have e : (List.range rs.length).map (fun j => ((rs.getD j []).length : Int)) = rs.map fun r => (r.length : Int) := by
    refine List.ext_getElem (by simp) fun i h1 h2 => ?_
    simp only [List.getElem_map, List.getElem_range]
    simp only [List.length_map] at h2
    rw [List.getD_eq_getElem?_getD, List.getElem?_eq_getElem h2, Option.getD_some]
  rw [e]
  induction rs with
  | nil => rfl
  | cons r rs ih =>
    rw [List.flatten_cons, List.length_append, List.map_cons]
    simp only [sumL]
    rw [← ih]
    · omega
    · refine List.ext_getElem (by simp) fun i h1 h2 => ?_
      simp only [List.getElem_map, List.getElem_range]
      simp only [List.length_map] at h2
      rw [List.getD_eq_getElem?_getD, List.getElem?_eq_getElem h2, Option.getD_some]

theorem RegV.ok (h : RegV rs ss o) (hr : ROk2 rs) : ROk2 ss := by
  refine ⟨by rw [h.len]; exact hr.few, ?_, fun r hm => ?_, h.apart hr.apart⟩
  · have h1 := hr.flat
    have h2 := flat_sum ss
    rw [h.len, map_congr (g := fun j => (((rs.getD (o.getD j 0) []).length : Nat) : Int)) fun j hj => by rw [(h.rv j hj).len], perm_sumI h.perm (fun m => ((rs.getD m []).length : Int)), ← flat_sum rs] at h2
    rw [h.len]
    omega
  · obtain ⟨j, hj, rfl⟩ := List.mem_iff_getElem.1 hm
    have := (h.rv j (by rw [← h.len]; exact hj)).ring
    rw [List.getD_eq_getElem?_getD (l := ss), List.getElem?_eq_getElem hj, Option.getD_some] at this
    exact this

theorem RegV.dpt (h : RegV rs ss o) (hr : ROk2 rs) {j : Nat} (hj : j < rs.length) : dptF ss j = dptF rs (o.getD j 0) := by
  unfold dptF
  rw [dpt_count, dpt_count, h.len]
  congr 1
  refine (count_congr fun m hm => ?_).trans (perm_count h.perm fun m => o.getD j 0 != m && isInF (rs.getD m []) (cor (rs.getD (o.getD j 0) []) 0))
  by_cases e : j = m
  · subst e; simp
  · have hne := perm_inj h.perm hj hm e
    obtain ⟨c, hc⟩ := h.corner hj 0
    have e1 : (j != m) = true := by simp [e]
    have e2 : (o.getD j 0 != o.getD m 0) = true := by rw [bne_iff_ne]; exact hne
    rw [e1, e2, Bool.true_and, Bool.true_and, hc]
    rw [(h.rv m hm).inn _ fun i => apart_off hr.apart (perm_lt h.perm hj) (perm_lt h.perm hm) hne c i]
    exact isIn_along hr (perm_lt h.perm hj) (perm_lt h.perm hm) hne c

theorem RegV.area (h : RegV rs ss o) (hr : ROk2 rs) : areaT ss = areaT rs := by
  unfold areaT areaF
  rw [if_pos (of_rok2 hr), if_pos (of_rok2 (h.ok hr)), area_sum, area_sum, h.len]
  rw [← perm_sumI h.perm fun m => if dptF rs m % 2 = 0 then absG (dblF (rs.getD m [])) else -absG (dblF (rs.getD m []))]
  rw [map_congr fun j hj => ?_]
  have hd := (h.rv j hj).dbl
  have ha : absG (dblF (ss.getD j [])) = absG (dblF (rs.getD (o.getD j 0) [])) := by unfold absG; omega
  simp only [h.dpt hr hj, ha]

theorem onAny_two {p : Pt} : onAny rs p = true ↔ ∃ i, i < rs.length ∧ 0 < (rs.getD i []).length ∧ ∃ k, onB p (cor (rs.getD i []) k) (cor (rs.getD i []) (k + 1)) = true := by
  unfold onAny
  rw [List.any_eq_true]
  constructor
  · rintro ⟨s, hs, ho⟩
    obtain ⟨i, k, hi, hk, rfl⟩ := mem_sid hs
    exact ⟨i, hi, by omega, k, ho⟩
  · rintro ⟨i, hi, h0, k, ho⟩
    refine ⟨_, sid_mem hi (Nat.mod_lt k h0), ?_⟩
    have e0 := cor_mm (rs.getD i []) k 0
    have e1 := cor_mm (rs.getD i []) k 1
    simp only [Nat.add_zero] at e0
    simp only [e0, e1]
    exact ho

theorem RegV.on (h : RegV rs ss o) (hr : ROk2 rs) (p : Pt) : onAny ss p = onAny rs p := by
  rw [Bool.eq_iff_iff, onAny_two, onAny_two]
  constructor
  · rintro ⟨j, hj, h0, k, ho⟩
    rw [h.len] at hj
    obtain ⟨c, hc⟩ := (h.rv j hj).sd k
    rw [onB_side hc] at ho
    exact ⟨_, perm_lt h.perm hj, by rw [← (h.rv j hj).len]; exact h0, c, ho⟩
  · rintro ⟨i, hi, h0, k, ho⟩
    have hm : i ∈ o := h.perm.mem_iff.2 (List.mem_range.2 hi)
    obtain ⟨j, hj, rfl⟩ := List.mem_iff_getElem.1 hm
    have hjn : j < rs.length := by rw [← perm_len h.perm]; exact hj
    have e : o.getD j 0 = o[j] := by rw [List.getD_eq_getElem?_getD, List.getElem?_eq_getElem hj, Option.getD_some]
    have hv := h.rv j hjn
    rw [e] at hv
    obtain ⟨c, hc⟩ := hv.sd2 k
    rw [onB_side hc] at ho
    exact ⟨j, by rw [h.len]; exact hjn, by rw [hv.len]; exact h0, c, ho⟩

theorem RegV.ins (h : RegV rs ss o) (hr : ROk2 rs) (p : Pt) : insF ss p = insF rs p := by
  unfold insF
  rw [h.on hr p]
  cases ho : onAny rs p
  · simp only [Bool.false_eq_true, if_false]
    have hoff : ∀ i, i < rs.length → ∀ k, onB p (cor (rs.getD i []) k) (cor (rs.getD i []) (k + 1)) = false := fun i hi k => by
      rw [Bool.eq_false_iff]
      intro hb
      rw [Bool.eq_false_iff] at ho
      exact ho (onAny_two.2 ⟨i, hi, by have := (ringF_ok (ring_at hr hi)).1; omega, k, hb⟩)
    have e : parR ss p ss.length = parR rs p rs.length := by
      rw [par_count, par_count, h.len, count_congr fun j hj => (h.rv j hj).inn p fun i => hoff _ (perm_lt h.perm hj) i, perm_count h.perm fun m => isInF (rs.getD m []) p]
    rw [e]
  · rfl
end

end Go.Proofs.YtejmbaiioblfeaaGreatDoor

namespace Go.Proofs.YtejmbaiioblfeaaGreatDoor
open Go Go.RowKit Go.Bl

def lowC (l : List Pt) (p : Pt) : Prop := ∀ x ∈ l, ¬ cmpPt x p < 0
/-- a ring from its lowest corner on -/
def IsNorm (m t : List Pt) : Prop := t.length = m.length ∧ ∃ j, j < m.length ∧ (∀ i, cor t i = cor m (i + j)) ∧ lowC m (cor m j)
/-- a ring in the direction of its depth -/
def orient (d : Int) (r : List Pt) : List Pt := if (decide (0 < dblF r) != decide (d % 2 = 0)) = true then r.reverse else r

theorem cor_modE {r : List Pt} (R : RR r.length (cor r)) {a b : Nat} (h : cor r a = cor r b) : a % r.length = b % r.length := by
  have h0 : 0 < r.length := by have := R.n3; omega
  refine Classical.byContradiction fun hne => ?_
  have ea := cor_mm r a 0
  have eb := cor_mm r b 0
  simp only [Nat.add_zero] at ea eb
  have ha := Nat.mod_lt a h0
  have hb := Nat.mod_lt b h0
  rw [← ea, ← eb] at h
  rcases Nat.lt_or_gt_of_ne hne with k | k
  · exact R.inj _ _ k (by omega) h
  · exact R.inj _ _ k (by omega) h.symm

theorem cor_ext {s t : List Pt} (hl : s.length = t.length) (h : ∀ i, cor s i = cor t i) : s = t := by
  refine List.ext_getElem hl fun i h1 h2 => ?_
  rw [← cor_lt h1, ← cor_lt h2]; exact h i

theorem cmp_anti {a b : Pt} (h1 : ¬ cmpPt a b < 0) (h2 : ¬ cmpPt b a < 0) : a = b := by
  rw [cmpPt_neg] at h1 h2
  cases a; cases b
  simp only [Pt.mk.injEq] at *
  omega

theorem norm_uniq {m m' t t' : List Pt} (hr : ringF m = 0) (h : Rot m m') (n1 : IsNorm m t) (n2 : IsNorm m' t') : t' = t := by
  have R := rr_of hr
  have h0 : 0 < m.length := by have := R.n3; omega
  have hm := h.mem h0
  have hm' := (h.symm h0).mem (by rw [h.1]; exact h0)
  obtain ⟨hl, k, hk⟩ := h
  obtain ⟨l1, j, hj, c1, w1⟩ := n1
  obtain ⟨l2, j', hj', c2, w2⟩ := n2
  have e : cor m j = cor m' j' := cmp_anti (w2 _ (hm' _ (cor_mem h0 j))) (w1 _ (hm _ (cor_mem (by rw [hl]; exact h0) j')))
  rw [hk] at e
  have e2 := cor_modE R e
  refine cor_ext (by rw [l2, l1, hl]) fun i => ?_
  rw [c1, c2, hk]
  have a1 := cor_mm m j i
  have a2 := cor_mm m (j' + k) i
  rw [show i + j' + k = j' + k + i by omega, ← a2, ← e2, a1, Nat.add_comm]

theorem rot_rev {r s : List Pt} (h : Rot r s) (h0 : 0 < r.length) : Rot r.reverse s.reverse := by
  obtain ⟨hl, k, hk⟩ := h
  have hs := rvs_rev s
  have hr := rvs_rev r
  refine ⟨by rw [List.length_reverse, List.length_reverse, hl], r.length * k - k, fun i => ?_⟩
  have h1 := Nat.le_mul_of_pos_left k h0
  have h2 := Nat.le_mul_of_pos_left (i + 1) h0
  rw [hs.at_ (i + 1) (by rw [hl]; omega), hk, hl]
  refine (hr.2 _ _ ?_).symm
  rw [show i + (r.length * k - k) + (r.length * (i + 1) - 1 - i + k) + 1 = r.length * k + r.length * (i + 1) by omega, ← Nat.mul_add, Nat.mul_mod_right]

theorem orient_ring (d : Int) {r : List Pt} (hr : ringF r = 0) : RV r (orient d r) := by
  unfold orient
  split
  · exact rvs_rv (rvs_rev r) hr
  · exact rot_rv (Rot.refl r) hr

theorem orient_rot (d : Int) {r s : List Pt} (h : Rot r s) (h0 : 0 < r.length) : Rot (orient d r) (orient d s) := by
  unfold orient
  rw [h.dbl]
  split
  · exact rot_rev h h0
  · exact h

theorem orient_rev (d : Int) {r : List Pt} (hr : ringF r = 0) : orient d r.reverse = orient d r := by
  have h3 := (rr_of hr).n3
  have hd := (rvs_rev r).dbl (by omega)
  have hne := dbl_ne hr
  unfold orient
  rw [hd, List.reverse_reverse]
  have e : decide (0 < -dblF r) = !decide (0 < dblF r) := by rw [← decide_not, decide_eq_decide]; omega
  rw [e]
  cases decide (0 < dblF r) <;> cases decide (d % 2 = 0) <;> rfl
/-- a ring that begins elsewhere, one way round or the other -/
def SV (r s : List Pt) : Prop := ∃ m, Rot r m ∧ (s = m ∨ s = m.reverse)

theorem SV.rv {r s : List Pt} (h : SV r s) (hr : ringF r = 0) : RV r s := by
  obtain ⟨m, h1, h2⟩ := h
  have k := rot_rv h1 hr
  rcases h2 with rfl | rfl
  · exact k
  · exact k.trans (rvs_rv (rvs_rev m) k.ring)

theorem SV.ori {r s : List Pt} (h : SV r s) (hr : ringF r = 0) (d : Int) : Rot (orient d r) (orient d s) := by
  obtain ⟨m, h1, h2⟩ := h
  have h0 : 0 < r.length := by have := (rr_of hr).n3; omega
  have k := rot_rv h1 hr
  rcases h2 with rfl | rfl
  · exact orient_rot d h1 h0
  · rw [orient_rev d k.ring]; exact orient_rot d h1 h0

theorem norm_rv {r t : List Pt} {d : Int} (hr : ringF r = 0) (h : IsNorm (orient d r) t) : RV r t := by
  have k := orient_ring d hr
  obtain ⟨l, j, -, c, -⟩ := h
  exact k.trans (rot_rv ⟨l, j, c⟩ k.ring)

structure RegS (rs ss : List (List Pt)) (o : List Nat) : Prop where
  perm : o.Perm (List.range rs.length)
  len : ss.length = rs.length
  sv : ∀ j, j < rs.length → SV (rs.getD (o.getD j 0) []) (ss.getD j [])

structure NormS (rs N : List (List Pt)) (o : List Nat) : Prop where
  perm : o.Perm (List.range rs.length)
  len : N.length = rs.length
  nm : ∀ j, j < rs.length → IsNorm (orient (dptF rs (o.getD j 0)) (rs.getD (o.getD j 0) [])) (N.getD j [])
  srt : N.Pairwise fun a b => ¬ cmpPt (cor b 0) (cor a 0) < 0
section
variable {rs ss N M : List (List Pt)} {o o1 o2 : List Nat}

theorem RegS.rv (h : RegS rs ss o) (hr : ROk2 rs) : RegV rs ss o := ⟨h.perm, h.len, fun j hj => (h.sv j hj).rv (ring_at hr (perm_lt h.perm hj))⟩

theorem NormS.rv (h : NormS rs N o) (hr : ROk2 rs) : RegV rs N o := ⟨h.perm, h.len, fun j hj => norm_rv (ring_at hr (perm_lt h.perm hj)) (h.nm j hj)⟩

theorem at_getD {α : Type} {l : List (List α)} {i : Nat} (h : i < l.length) : l.getD i [] = l[i] := by rw [List.getD_eq_getElem?_getD, List.getElem?_eq_getElem h, Option.getD_some]

theorem heads_ne (hr : ROk2 rs) : rs.Pairwise fun a b => cor a 0 ≠ cor b 0 := by
  rw [List.pairwise_iff_getElem]
  intro i j hi hj hij e
  have := apart_off hr.apart hi hj (by omega) 0 0
  rw [at_getD hi, at_getD hj, e] at this
  have h2 : onB (cor rs[j] 0) (cor rs[j] 0) (cor rs[j] (0 + 1)) = true := onB_iff.2 ⟨by unfold turnP; grind, by unfold boxP; omega⟩
  rw [this] at h2
  cases h2

theorem srt_uniqN {α : Type} {R : α → α → Prop} (hR : ∀ a b, R a b → ¬ R b a) : ∀ {l m : List α}, l.Perm m → l.Pairwise R → m.Pairwise R → l = m
  | [], m, h, _, _ => (List.nil_perm.1 h).symm
  | a :: l, [], h, _, _ => by have := h.length_eq; simp at this
  | a :: l, b :: m, h, hl, hm => by
    obtain ⟨l1, l2⟩ := List.pairwise_cons.1 hl
    obtain ⟨m1, m2⟩ := List.pairwise_cons.1 hm
    by_cases e : a = b
    · subst e
      rw [srt_uniqN hR h.cons_inv l2 m2]
    · have ha : a ∈ m := by
        have := h.mem_iff.1 (List.mem_cons_self ..)
        rcases List.mem_cons.1 this with k | k
        · exact absurd k e
        · exact k
      have hb : b ∈ l := by
        have := h.mem_iff.2 (List.mem_cons_self ..)
        rcases List.mem_cons.1 this with k | k
        · exact absurd k.symm e
        · exact k
      exact absurd (l1 b hb) (hR _ _ (m1 a ha))

theorem NormS.strict (h : NormS rs N o) (hr : ROk2 rs) : N.Pairwise fun a b => cmpPt (cor a 0) (cor b 0) < 0 := by
  have h1 := heads_ne ((h.rv hr).ok hr)
  refine List.Pairwise.imp (fun {a b} k => ?_) (h1.and h.srt)
  have k1 : ¬ (cor a 0).y < (cor b 0).y ∨ True := .inr trivial
  refine Classical.byContradiction fun hc => k.1 (cmp_anti hc k.2)

theorem NormS.nodup (h : NormS rs N o) (hr : ROk2 rs) : N.Nodup := List.nodup_iff_pairwise_ne.2 ((heads_ne ((h.rv hr).ok hr)).imp fun {a b} k e => k (by rw [e]))

theorem perm_back {n : Nat} {o : List Nat} (h : o.Perm (List.range n)) {i : Nat} (hi : i < n) : ∃ j, j < n ∧ o.getD j 0 = i := by
  obtain ⟨j, hj, e⟩ := List.mem_iff_getElem.1 (h.mem_iff.2 (List.mem_range.2 hi))
  exact ⟨j, by rw [← perm_len h]; exact hj, by rw [List.getD_eq_getElem?_getD, List.getElem?_eq_getElem hj, Option.getD_some, e]⟩
/-- the normal forms of two regions of the same rings -/
theorem norm_one (hr : ROk2 rs) (h : RegS rs ss o) (h1 : NormS rs N o1) (h2 : NormS ss M o2) : N = M := by
  have hs := (h.rv hr).ok hr
  have key : ∀ j' j, j' < rs.length → j < rs.length → o1.getD j' 0 = o.getD (o2.getD j 0) 0 → M.getD j [] = N.getD j' [] := fun j' j hj' hj e => by
    have hjs : j < ss.length := by rw [h.len]; exact hj
    have hq : o2.getD j 0 < rs.length := by rw [← h.len]; exact perm_lt h2.perm hjs
    have n1 := h1.nm j' hj'
    have n2 := h2.nm j hjs
    rw [(h.rv hr).dpt hr hq] at n2
    rw [e] at n1
    have hrg := ring_at hr (perm_lt h.perm hq)
    exact norm_uniq (orient_ring _ hrg).ring ((h.sv _ hq).ori hrg _) n1 n2
  have hmem : ∀ x, x ∈ N ↔ x ∈ M := fun x => by
    constructor
    · intro hx
      obtain ⟨j', hj', rfl⟩ := List.mem_iff_getElem.1 hx
      have hj2 : j' < rs.length := by rw [← h1.len]; exact hj'
      obtain ⟨q, hq, e⟩ := perm_back h.perm (perm_lt h1.perm hj2)
      obtain ⟨j, hj, e2⟩ := perm_back h2.perm (show q < ss.length by rw [h.len]; exact hq)
      have hjr : j < rs.length := by rw [← h.len]; exact hj
      have := key j' j hj2 hjr (by rw [e2, e])
      rw [at_getD hj', at_getD (show j < M.length by rw [h2.len]; exact hj)] at this
      rw [← this]
      exact List.getElem_mem _
    · intro hx
      obtain ⟨j, hj, rfl⟩ := List.mem_iff_getElem.1 hx
      have hj2 : j < rs.length := by rw [← h.len, ← h2.len]; exact hj
      have hjs : j < ss.length := by rw [← h2.len]; exact hj
      have hq : o2.getD j 0 < rs.length := by rw [← h.len]; exact perm_lt h2.perm hjs
      obtain ⟨j', hj', e⟩ := perm_back h1.perm (perm_lt h.perm hq)
      have := key j' j hj' hj2 e
      rw [at_getD hj, at_getD (show j' < N.length by rw [h1.len]; exact hj')] at this
      rw [this]
      exact List.getElem_mem _
  have hp : N.Perm M := (List.perm_ext_iff_of_nodup (h1.nodup hr) (h2.nodup hs)).2 hmem
  refine srt_uniqN (fun a b k1 k2 => ?_) hp (h1.strict hr) (h2.strict hs)
  rw [cmpPt_neg] at k1 k2
  omega
end

end Go.Proofs.YtejmbaiioblfeaaGreatDoor

/- Contracts of functions that this seat's laws reach, each: what one call returns and what it leaves in memory; no condition beyond each theorem's own hypotheses. -/
import Derived.Test.YthciblcokogkkaaGreatDoorZqMapStr
import Derived.Sort.KeysCollected
import Derived.Lib.SlMapFilter
set_option linter.unusedVariables false
set_option linter.unusedSimpArgs false
namespace Go.Proofs.YthciblcokogkkaaGreatDoor
open Go Go.RowKit Go.Bl Go.Maps Go.WideShapes Go.WideElems

/-- a map of strings as the kit has it: its entries -/
theorem strB_list {w : World} {b n : Nat} {m : ByteArray → Option Bool} (h : MapOf strB w b n m) :
    ∃ L : List (Lit × DataW Unit), w.ownsMap Tryz.prog 9 strB.R b n (.map L) ∧ L.Pairwise (fun p q => p.1 ≠ q.1) ∧ (∀ p ∈ L, ∃ s, okK s ∧ p.1 = strK s) ∧
      (∀ x, okK x → ((∃ p ∈ L, p.1 = strK x) ↔ (m x).isSome = true)) ∧ ∀ x, okK x → ∀ zd, (DataW.map L).atKey (strK x) zd = ((m x).map strB.el).getD zd := by
  have hh := h
  obtain ⟨D, h1, h2⟩ := h
  have hhas : ∀ x, okK x → Maps.has D (strK x) = (m x).isSome := fun x hx => hh.has (M := strB) hx D (h2 x hx).2
  have h2' := fun x hx => (h2 x hx).2
  clear h2 hh
  have h0 := h1
  obtain ⟨es, clock, hb, F, hs, rfl⟩ := h1
  refine ⟨_, h0, ((sorted_perm _).pairwise_iff (fun {_ _} hne => Ne.symm hne)).2 (Maps.fit_apart strB.keyed F), fun p hp => ?_, fun x hx => ?_, h2'⟩
  · obtain ⟨x, hx, rfl⟩ := List.mem_map.1 (mem_sorted.1 hp)
    obtain ⟨y, hy⟩ := F.reads x hx
    rw [rg_of hy]
    have hk := rd_key hy
    obtain ⟨s, e, hs⟩ := str_inv _ _ hk
    have := str_key s hs
    rw [← e] at this
    exact ⟨s, hs, Option.some.inj (hk.symm.trans this)⟩
  · rw [← hhas x hx]
    show _ ↔ List.any _ (fun q : Lit × DataW Unit => q.1.sameKey (strK x)) = true
    rw [List.any_eq_true]
    constructor
    · rintro ⟨p, hp, e⟩
      exact ⟨p, hp, by rw [e]; exact WideAt.sameKey_self (strB.litKey hx)⟩
    · rintro ⟨p, hp, e⟩
      exact ⟨p, hp, WideAt.sameKey_eq e⟩

theorem bytes_back (s : List UInt8) : (⟨s.toArray⟩ : ByteArray).data.toList = s := by simp

theorem bytes_of (s : ByteArray) : (⟨s.data.toList.toArray⟩ : ByteArray) = s := by cases s; simp
/-- the keys of a map of strings -/
theorem strB_keys {w : World} {b n : Nat} {m : ByteArray → Option Bool} (h : MapOf strB w b n m) :
    ∃ D : DataW Unit, w.ownsMap Tryz.prog 9 strB.R b n D ∧ (strKeys D).Nodup ∧ ∀ s, s ∈ strKeys D ↔ okK ⟨s.toArray⟩ ∧ (m ⟨s.toArray⟩).isSome = true := by
  obtain ⟨L, h1, h2, h3, h4, -⟩ := strB_list h
  refine ⟨_, h1, ?_, fun s => ?_⟩
  · show (L.map fun p => strOf p.1).Nodup
    refine List.pairwise_map.2 (h2.imp_of_mem fun {p q} hp hq hne e => hne ?_)
    obtain ⟨a, -, ha⟩ := h3 p hp
    obtain ⟨c, -, hc⟩ := h3 q hq
    rw [ha, hc] at e ⊢
    exact congrArg Lit.string e
  · show s ∈ L.map (fun p => strOf p.1) ↔ _
    rw [List.mem_map]
    constructor
    · rintro ⟨p, hp, rfl⟩
      obtain ⟨a, hok, ha⟩ := h3 p hp
      have e : (⟨(strOf p.1).toArray⟩ : ByteArray) = a := by rw [ha]; exact bytes_of a
      rw [e]
      exact ⟨hok, (h4 a hok).1 ⟨p, hp, ha⟩⟩
    · rintro ⟨hok, hi⟩
      obtain ⟨p, hp, e⟩ := (h4 _ hok).2 hi
      exact ⟨p, hp, by rw [e]; exact bytes_back s⟩
/-- entries that are struck -/
theorem strB_struck {w : World} {b n : Nat} {m : ByteArray → Option Bool} (h : MapOf strB w b n m) (q : ByteArray → Bool) (pd : Lit → DataW Unit → Bool) (hpd : ∀ x d, okK x → pd (strK x) d = q x) :
    ∃ D : DataW Unit, w.ownsMap Tryz.prog 9 strB.R b n D ∧ ∀ w' : World, w'.ownsMap Tryz.prog 9 strB.R b n (Lib.deleteFuncD pd D) → MapOf strB w' b n (fun z => if q z then none else m z) := by
  obtain ⟨L, h1, h2, h3, h4, h5⟩ := strB_list h
  refine ⟨_, h1, fun w' hw' => ⟨_, hw', fun x hx => ⟨fun y _ => trivial, fun zd => ?_⟩⟩⟩
  change okK x at hx
  show (DataW.map (L.filter fun p => !pd p.1 p.2)).atKey (strK x) zd = _
  have hno : (∀ p ∈ L.filter (fun p => !pd p.1 p.2), p.1 ≠ strK x) → (DataW.map (L.filter fun p => !pd p.1 p.2)).atKey (strK x) zd = zd := fun hn => by
    refine atKey_of_not_has ?_ zd
    show List.any _ (fun q : Lit × DataW Unit => q.1.sameKey (strK x)) = false
    rw [List.any_eq_false]
    intro p hp e
    exact hn p hp (WideAt.sameKey_eq e)
  by_cases hq : q x = true
  · rw [hno fun p hp e => by
      obtain ⟨hp1, hp2⟩ := List.mem_filter.1 hp
      rw [e, hpd x _ hx, hq] at hp2
      cases hp2]
    simp [hq]
  · simp only [hq, Bool.false_eq_true, if_false]
    by_cases hs : (m x).isSome = true
    · have hkl : WideAt.IsKeyLit (strK x) := strB.litKey hx
      obtain ⟨p, hp, e⟩ := (h4 x hx).2 hs
      have hpf : (strK x, p.2) ∈ L.filter fun p => !pd p.1 p.2 := List.mem_filter.2 ⟨by rw [← e]; exact hp, by
        show (!pd (strK x) p.2) = true
        rw [hpd x _ hx]; simpa using hq⟩
      rw [WideAt.atKey_mem zd hkl (h2.filter _) hpf, ← h5 x hx zd]
      exact (WideAt.atKey_mem zd hkl h2 (show (strK x, p.2) ∈ L by rw [← e]; exact hp)).symm
    · have hm : m x = none := by
        rcases hq : m x with _ | y
        · rfl
        · rw [hq] at hs; exact absurd rfl hs
      rw [hno fun p hp e => hs ((h4 x hx).1 ⟨p, (List.mem_filter.1 hp).1, e⟩), hm]
      rfl

end Go.Proofs.YthciblcokogkkaaGreatDoor

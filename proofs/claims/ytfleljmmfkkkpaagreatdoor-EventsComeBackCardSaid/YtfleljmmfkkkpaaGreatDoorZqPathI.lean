/- Contracts of functions that this seat's laws reach, each: what one call returns and what it leaves in memory; no condition beyond each theorem's own hypotheses. -/
import Derived.Test.YtfleljmmfkkkpaaGreatDoorZqPathG
import Derived.Test.YtfleljmmfkkkpaaGreatDoorZqPathE
import Derived.Test.YtfleljmmfkkkpaaGreatDoorZqHead
set_option linter.unusedVariables false
set_option linter.unusedSimpArgs false
namespace Go.Bl
open Go

theorem Sl.drop {α : Type} [Enc α] {w : World} {lo g o : Nat} {l : List α} (h : Sl w lo (some ⟨g, o, none⟩) l) (k : Nat) : Sl w lo (some ⟨g, o + k * Enc.sz α, none⟩) (l.drop k) := by
  obtain ⟨hm, cs, hr, hl⟩ := h
  refine ⟨by rw [List.length_drop]; omega, _, hr.drop k, fun hne => ?_⟩
  obtain ⟨ad, e, hb, hc⟩ := hl (by rintro rfl; simp at hne)
  injection e with e
  subst e
  refine ⟨_, rfl, hb, fun j u hu => ?_⟩
  rw [List.getElem?_drop] at hu
  have := hc _ u hu
  rw [Addr.add_lit] at this ⊢
  rwa [Nat.add_assoc]

def VOwn {α : Type} [Enc α] (lo : Nat) (e : TypeId) (l : List α) : Value → World → Prop := fun v w => ∃ (A : Option Addr) (c : Nat), v = .slice A l.length c ∧ Own w lo e A c l
/-- a right visit of a path -/
def VOk (p : PathV) (s : Nat) (b : Bool) : Prop := p.pts.length ≤ 500 ∧ (∀ q ∈ p.pts, farP q = false) ∧ s < p.pts.length ∧ (p.cl = true → b = false) ∧ (p.cl = false → s = 0)

theorem turned_len {p : PathV} {s : Nat} {b : Bool} {k : Int} (h : VOk p s b) : 0 < (turned p ⟨k, s, b⟩).length ∧ (turned p ⟨k, s, b⟩).length ≤ 501 := by
  obtain ⟨h1, _, h3, _, _⟩ := h
  unfold turned
  simp only [Int.toNat_natCast]
  split
  · simp; omega
  · split <;> simp <;> omega

theorem turned_near {p : PathV} {s : Nat} {b : Bool} {k : Int} (h : VOk p s b) : ∀ q ∈ turned p ⟨k, s, b⟩, farP q = false := by
  obtain ⟨_, h2, _, _, _⟩ := h
  intro q hq
  refine h2 q ?_
  unfold turned at hq
  simp only [Int.toNat_natCast] at hq
  have hm : ∀ q, q ∈ p.pts.drop s ++ p.pts.take s → q ∈ p.pts := fun q hq => by
    rcases List.mem_append.1 hq with hq | hq
    · exact List.mem_of_mem_drop hq
    · exact List.mem_of_mem_take hq
  split at hq
  · rcases List.mem_append.1 hq with hq | hq
    · exact hm q hq
    · exact hm q (List.mem_of_mem_take hq)
  · split at hq
    · exact hm q (List.mem_reverse.1 hq)
    · exact hm q hq

end Go.Bl
namespace Go.Proofs.YtfleljmmfkkkpaaGreatDoor
open Go.RowKit Go.Bl

def PPair (p q : Pt) (w : World) (e : Ending) (w' : World) : Prop := e = .returned (.tuple #[.agg #[.int .i64 p.x, .int .i64 p.y], .agg #[.int .i64 q.x, .int .i64 q.y]]) ∧ w.grownBy w' none

end Go.Proofs.YtfleljmmfkkkpaaGreatDoor

namespace Go.Bl
open Go Go.Proofs.YtfleljmmfkkkpaaGreatDoor

def endA (p : PathV) (s : Nat) (b : Bool) : Pt := if p.cl then p.pts.getD s default else if b then p.pts.getD (p.pts.length - 1) default else p.pts.getD 0 default

def endB (p : PathV) (s : Nat) (b : Bool) : Pt := if p.cl then p.pts.getD s default else if b then p.pts.getD 0 default else p.pts.getD (p.pts.length - 1) default

theorem headD_getD {α : Type} (l : List α) (d : α) : l.headD d = l.getD 0 d := by cases l <;> rfl

theorem lastD_getD {α : Type} (l : List α) (d : α) : l.getLastD d = l.getD (l.length - 1) d := by
  rw [List.getLastD_eq_getLast?, List.getLast?_eq_getElem?]; rfl

theorem turned_A {p : PathV} {s : Nat} {b : Bool} {k : Int} (h : VOk p s b) : (turned p ⟨k, s, b⟩).headD default = endA p s b := by
  obtain ⟨h1, _, h3, _, h5⟩ := h
  rw [headD_getD]
  unfold turned endA
  simp only [Int.toNat_natCast]
  by_cases hc : p.cl = true
  · rw [if_pos hc, if_pos hc]
    simp [List.getD, List.getElem?_append, h3, show 0 < p.pts.length - s by omega]
  · rw [if_neg hc, if_neg hc]
    have hs := h5 (by simpa using hc)
    subst hs
    cases b
    · simp
    · simp [List.getD, List.getElem?_reverse, h3, show p.pts.length - 1 < p.pts.length by omega]

theorem turned_B {p : PathV} {s : Nat} {b : Bool} {k : Int} (h : VOk p s b) : (turned p ⟨k, s, b⟩).getLastD default = endB p s b := by
  obtain ⟨h1, _, h3, _, h5⟩ := h
  rw [lastD_getD]
  unfold turned endB
  simp only [Int.toNat_natCast]
  by_cases hc : p.cl = true
  · rw [if_pos hc, if_pos hc]
    have hl : (p.pts.drop s ++ p.pts.take s).length = p.pts.length := by simp; omega
    have ht : ((p.pts.drop s ++ p.pts.take s).take 1).length = 1 := by rw [List.length_take, hl]; omega
    rw [List.length_append, hl, ht, List.getD, List.getElem?_append_right (by rw [hl]; omega), hl, show p.pts.length + 1 - 1 - p.pts.length = 0 by omega, List.getElem?_take, if_pos (by omega), List.getElem?_append_left (by simp; omega), List.getElem?_drop]
    rfl
  · rw [if_neg hc, if_neg hc]
    have hs := h5 (by simpa using hc)
    subst hs
    cases b
    · simp
    · simp only [List.drop_zero, List.take_zero, List.append_nil, List.length_reverse, if_true]
      rw [List.getD, List.getElem?_reverse (by omega), show p.pts.length - 1 - (p.pts.length - 1) = 0 by omega]
      rfl

theorem near_pts {p : PathV} {s : Nat} {b : Bool} (h : VOk p s b) {i : Nat} (hi : i < p.pts.length) : near (p.pts.getD i default) := by
  have e : p.pts.getD i default = p.pts[i] := by simp [List.getD, hi]
  rw [e]
  exact near_of (h.2.1 _ (List.getElem_mem _))

theorem near_A {p : PathV} {s : Nat} {b : Bool} (h : VOk p s b) : near (endA p s b) := by
  have h3 := h.2.2.1
  unfold endA
  split
  · exact near_pts h h3
  · split <;> exact near_pts h (by omega)

theorem near_B {p : PathV} {s : Nat} {b : Bool} (h : VOk p s b) : near (endB p s b) := by
  have h3 := h.2.2.1
  unfold endB
  split
  · exact near_pts h h3
  · split <;> exact near_pts h (by omega)

/-- a visit that is right among these paths -/
def VisOk (l : List PathV) (v : Vis) : Prop := ∃ (k s : Nat) (hk : k < l.length), v.path = (k : Int) ∧ v.start = (s : Int) ∧ VOk l[k] s v.back

theorem pathF_zero {p : PathV} (h : pathF p = 0) : 0 < p.pts.length ∧ p.pts.length ≤ 500 ∧ ∀ q ∈ p.pts, farP q = false := by
  unfold pathF at h
  split at h
  · cases h
  · split at h
    · cases h
    · split at h
      · cases h
      · split at h
        · cases h
        · rename_i h1 h2 _ h4
          refine ⟨by omega, by omega, fun q hq => ?_⟩
          rcases hf : farP q with _ | _
          · rfl
          · exact absurd (List.any_eq_true.2 ⟨q, hq, hf⟩) h4

theorem orL_zero {l : List Int} (h : orL l = 0) : ∀ x ∈ l, x = 0 := by
  induction l with
  | nil => simp
  | cons y l ih =>
    unfold orL at h
    split at h
    · rename_i hy; exact absurd h hy
    · rename_i hy
      intro x hx
      rcases List.mem_cons.1 hx with rfl | hx
      · simpa using hy
      · exact ih h x hx

theorem pathsF_zero {l : List PathV} (h : pathsF l = 0) : l.length ≤ 200 ∧ ∀ p ∈ l, pathF p = 0 := by
  unfold pathsF at h
  split at h
  · cases h
  · exact ⟨by omega, fun p hp => orL_zero h _ (List.mem_map_of_mem hp)⟩

theorem formF_zero {p : PathV} {v : Vis} (h : formF p v = 0) (hp : pathF p = 0) : ∃ s : Nat, v.start = s ∧ VOk p s v.back := by
  obtain ⟨h1, h2, h3⟩ := pathF_zero hp
  rw [formF_eq] at h
  split at h
  · cases h
  · rename_i hg
    have hs := spanF_zero h
    obtain ⟨s, hs2⟩ := Int.eq_ofNat_of_zero_le hs.1
    refine ⟨s, hs2, h2, h3, by omega, fun hc => ?_, fun hc => ?_⟩
    · rcases hb : v.back with _ | _
      · rfl
      · exact absurd (by simp [hc, hb]) hg
    · by_cases h0 : v.start = 0
      · omega
      · exact absurd (by simp [hc, h0]) hg

theorem visitF_zero {l : List PathV} {b : List Vis} {v : Vis} (h : visitF l b v = 0) (hp : pathsF l = 0) : VisOk l v := by
  unfold visitF at h
  split at h
  · cases h
  · rename_i hin
    split at h
    · cases h
    · have hin2 : 0 ≤ v.path ∧ v.path ≤ l.length - 1 := by simpa [inB] using hin
      obtain ⟨k, hk⟩ := Int.eq_ofNat_of_zero_le hin2.1
      have hkl : k < l.length := by omega
      rw [hk] at h
      have e : l.getD (k : Int).toNat default = l[k] := by simp [List.getD, hkl]
      rw [e] at h
      obtain ⟨s, h1, h2⟩ := formF_zero h ((pathsF_zero hp).2 _ (List.getElem_mem _))
      exact ⟨k, s, hkl, hk, h1, h2⟩

theorem oneF_zero {l : List PathV} {v : Vis} (h : oneF l v = 0) : VisOk l v := by
  obtain ⟨h1, h2⟩ := orS_eq_zero h
  exact visitF_zero h2 h1

theorem visitsF_zero {l : List PathV} (hp : pathsF l = 0) : ∀ {o b : List Vis}, visitsF l b o = 0 → ∀ v ∈ o, VisOk l v
  | [], _, _ => by simp
  | x :: o, b, h => by
    obtain ⟨h1, h2⟩ := orS_eq_zero h
    intro v hv
    rcases List.mem_cons.1 hv with rfl | hv
    · exact visitF_zero h1 hp
    · exact visitsF_zero hp h2 v hv

theorem orderF_zero {l : List PathV} {o : List Vis} (h : orderF l o = 0) : l.length ≤ 200 ∧ o.length = l.length ∧ ∀ v ∈ o, VisOk l v := by
  obtain ⟨h1, h2⟩ := orS_eq_zero h
  split at h2
  · cases h2
  · rename_i hl
    exact ⟨(pathsF_zero h1).1, by simpa using hl, visitsF_zero h1 h2⟩

def eA (l : List PathV) (v : Vis) : Pt := endA (l.getD v.path.toNat default) v.start.toNat v.back

def eB (l : List PathV) (v : Vis) : Pt := endB (l.getD v.path.toNat default) v.start.toNat v.back

theorem eA_of {l : List PathV} {k s : Nat} {b : Bool} (hk : k < l.length) : eA l ⟨k, s, b⟩ = endA l[k] s b := by simp [eA, List.getD, hk]

theorem eB_of {l : List PathV} {k s : Nat} {b : Bool} (hk : k < l.length) : eB l ⟨k, s, b⟩ = endB l[k] s b := by simp [eB, List.getD, hk]

def travS (l : List PathV) (st : Pt) (o : List Vis) : Pt × Int := o.foldl (fun a v => (eB l v, a.2 + distP a.1 (eA l v))) (st, 0)

theorem travS_snoc (l : List PathV) (st : Pt) (o : List Vis) (v : Vis) : travS l st (o ++ [v]) = (eB l v, (travS l st o).2 + distP (travS l st o).1 (eA l v)) := by unfold travS; rw [List.foldl_append]; rfl

theorem VisOk.nA {l : List PathV} {v : Vis} (h : VisOk l v) : near (eA l v) := by
  obtain ⟨k, s, hk, h1, h2, h3⟩ := h
  obtain ⟨vp, vs, vb⟩ := v
  simp only at h1 h2 h3
  subst h1; subst h2
  rw [eA_of hk]; exact near_A h3

theorem VisOk.nB {l : List PathV} {v : Vis} (h : VisOk l v) : near (eB l v) := by
  obtain ⟨k, s, hk, h1, h2, h3⟩ := h
  obtain ⟨vp, vs, vb⟩ := v
  simp only at h1 h2 h3
  subst h1; subst h2
  rw [eB_of hk]; exact near_B h3

theorem travS_bd {l : List PathV} {st : Pt} (hst : near st) : ∀ {o : List Vis}, (∀ v ∈ o, VisOk l v) → ∀ k, k ≤ o.length → near (travS l st (o.take k)).1 ∧ 0 ≤ (travS l st (o.take k)).2 ∧ (travS l st (o.take k)).2 ≤ k * 200000 := by
  intro o ho k
  induction k with
  | zero => intro _; exact ⟨hst, by simp [travS], by simp [travS]⟩
  | succ k ih =>
    intro hk
    obtain ⟨h1, h2, h3⟩ := ih (by omega)
    rw [take_snoc (show k < o.length by omega), travS_snoc]
    have hv := ho o[k] (List.getElem_mem _)
    have := distP_bd h1 hv.nA
    refine ⟨hv.nB, ?_, ?_⟩ <;> simp only <;> omega

end Go.Bl
namespace Go.Proofs.YtfleljmmfkkkpaaGreatDoor
open Go.RowKit Go.Bl

end Go.Proofs.YtfleljmmfkkkpaaGreatDoor

/- Contracts of functions that this seat's laws reach, each: what one call returns and what it leaves in memory; no condition beyond each theorem's own hypotheses. -/
import Derived.Test.YtbgailgclflaeaaGreatDoorMPathG
import Derived.Test.YtbgailgclflaeaaGreatDoorMPathE
import Derived.Test.YtbgailgclflaeaaGreatDoorMHead
set_option linter.unusedVariables false
set_option linter.unusedSimpArgs false
namespace Go.Bl
open Go
theorem Sl.drop {α : Type} [Enc α] {w : World} {lo g o : Nat} {l : List α} (h : Sl w lo (some ⟨g, o, none⟩) l) (k : Nat) : Sl w lo (some ⟨g, o + k * Enc.sz α, none⟩) (l.drop k) := by
  obtain ⟨hm, cs, hr, hl⟩ := h
  refine ⟨by rw [List.length_drop]; omega, _, hr.drop k, fun hne => ?_⟩
  obtain ⟨ad, e, hb, hc⟩ := hl (by rintro rfl; simp at hne)
  injection e with e
  subst e
  refine ⟨_, rfl, hb, fun j u hu => ?_⟩
  rw [List.getElem?_drop] at hu
  have := hc _ u hu
  rw [Addr.add_lit] at this ⊢
  rwa [Nat.add_assoc]
def VOwn {α : Type} [Enc α] (lo : Nat) (e : TypeId) (l : List α) : Value → World → Prop := fun v w => ∃ (A : Option Addr) (c : Nat), v = .slice A l.length c ∧ Own w lo e A c l
/-- a right visit of a path -/
def VOk (p : PathV) (s : Nat) (b : Bool) : Prop := p.pts.length ≤ 500 ∧ (∀ q ∈ p.pts, farP q = false) ∧ s < p.pts.length ∧ (p.cl = true → b = false) ∧ (p.cl = false → s = 0)
theorem turned_len {p : PathV} {s : Nat} {b : Bool} {k : Int} (h : VOk p s b) : 0 < (turned p ⟨k, s, b⟩).length ∧ (turned p ⟨k, s, b⟩).length ≤ 501 := by
  obtain ⟨h1, _, h3, _, _⟩ := h
  unfold turned
  simp only [Int.toNat_natCast]
  split
  · simp; omega
  · split <;> simp <;> omega
theorem turned_near {p : PathV} {s : Nat} {b : Bool} {k : Int} (h : VOk p s b) : ∀ q ∈ turned p ⟨k, s, b⟩, farP q = false := by
  obtain ⟨_, h2, _, _, _⟩ := h
  intro q hq
  refine h2 q ?_
  unfold turned at hq
  simp only [Int.toNat_natCast] at hq
  have hm : ∀ q, q ∈ p.pts.drop s ++ p.pts.take s → q ∈ p.pts := fun q hq => by
    rcases List.mem_append.1 hq with hq | hq
    · exact List.mem_of_mem_drop hq
    · exact List.mem_of_mem_take hq
  split at hq
  · rcases List.mem_append.1 hq with hq | hq
    · exact hm q hq
    · exact hm q (List.mem_of_mem_take hq)
  · split at hq
    · exact hm q (List.mem_reverse.1 hq)
    · exact hm q hq

end Go.Bl
namespace Go.Proofs.YtbgailgclflaeaaGreatDoor
open Go.RowKit Go.Bl

theorem clonePtN_any (A : Option Addr) (n c : Nat) (l : List Pt) (hn : l.length = n) (w : World) (hl : Sl w 0 A l) (hlen : l.length ≤ 1000000) :
    Calls Tryz.prog 79 #[.slice A n c] w fun e w' => ∃ A' c', e = .returned (.slice A' l.length c') ∧ Own w' w.heap.size 54 A' c' l ∧ w.grownBy w' none := by
  subst hn
  exact clonePt_any A c l w hl hlen

theorem reversePtN_any (lo g n c : Nat) (l : List Pt) (hnl : l.length = n) (w : World) (ho : Own w lo 54 (some ⟨g, 0, none⟩) c l) (hn : 0 < l.length) (hs : l.length ≤ 1000000) :
    Calls Tryz.prog 15 #[.slice (some ⟨g, 0, none⟩) n c] w fun e w' => (∃ v, e = .returned v) ∧ Own w' lo 54 (some ⟨g, 0, none⟩) c l.reverse ∧ w.grownBy w' (some g) := by
  subst hnl
  exact reversePt_any lo g c l w ho hn hs

def PPair (p q : Pt) (w : World) (e : Ending) (w' : World) : Prop := e = .returned (.tuple #[.agg #[.int .i64 p.x, .int .i64 p.y], .agg #[.int .i64 q.x, .int .i64 q.y]]) ∧ w.grownBy w' none

end Go.Proofs.YtbgailgclflaeaaGreatDoor

namespace Go.Bl
open Go Go.Proofs.YtbgailgclflaeaaGreatDoor
def endA (p : PathV) (s : Nat) (b : Bool) : Pt := if p.cl then p.pts.getD s default else if b then p.pts.getD (p.pts.length - 1) default else p.pts.getD 0 default
def endB (p : PathV) (s : Nat) (b : Bool) : Pt := if p.cl then p.pts.getD s default else if b then p.pts.getD 0 default else p.pts.getD (p.pts.length - 1) default
theorem headD_getD {α : Type} (l : List α) (d : α) : l.headD d = l.getD 0 d := by cases l <;> rfl
theorem lastD_getD {α : Type} (l : List α) (d : α) : l.getLastD d = l.getD (l.length - 1) d := by
  rw [List.getLastD_eq_getLast?, List.getLast?_eq_getElem?]; rfl
theorem turned_A {p : PathV} {s : Nat} {b : Bool} {k : Int} (h : VOk p s b) : (turned p ⟨k, s, b⟩).headD default = endA p s b := by
  obtain ⟨h1, _, h3, _, h5⟩ := h
  rw [headD_getD]
  unfold turned endA
  simp only [Int.toNat_natCast]
  by_cases hc : p.cl = true
  · rw [if_pos hc, if_pos hc]
    simp [List.getD, List.getElem?_append, h3, show 0 < p.pts.length - s by omega]
  · rw [if_neg hc, if_neg hc]
    have hs := h5 (by simpa using hc)
    subst hs
    cases b
    · simp
    · simp [List.getD, List.getElem?_reverse, h3, show p.pts.length - 1 < p.pts.length by omega]
theorem turned_B {p : PathV} {s : Nat} {b : Bool} {k : Int} (h : VOk p s b) : (turned p ⟨k, s, b⟩).getLastD default = endB p s b := by
  obtain ⟨h1, _, h3, _, h5⟩ := h
  rw [lastD_getD]
  unfold turned endB
  simp only [Int.toNat_natCast]
  by_cases hc : p.cl = true
  · rw [if_pos hc, if_pos hc]
    have hl : (p.pts.drop s ++ p.pts.take s).length = p.pts.length := by simp; omega
    have ht : ((p.pts.drop s ++ p.pts.take s).take 1).length = 1 := by rw [List.length_take, hl]; omega
    rw [List.length_append, hl, ht, List.getD, List.getElem?_append_right (by rw [hl]; omega), hl, show p.pts.length + 1 - 1 - p.pts.length = 0 by omega, List.getElem?_take, if_pos (by omega), List.getElem?_append_left (by simp; omega), List.getElem?_drop]
    rfl
  · rw [if_neg hc, if_neg hc]
    have hs := h5 (by simpa using hc)
    subst hs
    cases b
    · simp
    · simp only [List.drop_zero, List.take_zero, List.append_nil, List.length_reverse, if_true]
      rw [List.getD, List.getElem?_reverse (by omega), show p.pts.length - 1 - (p.pts.length - 1) = 0 by omega]
      rfl
theorem near_pts {p : PathV} {s : Nat} {b : Bool} (h : VOk p s b) {i : Nat} (hi : i < p.pts.length) : near (p.pts.getD i default) := by
  have e : p.pts.getD i default = p.pts[i] := by simp [List.getD, hi]
  rw [e]
  exact near_of (h.2.1 _ (List.getElem_mem _))
theorem near_A {p : PathV} {s : Nat} {b : Bool} (h : VOk p s b) : near (endA p s b) := by
  have h3 := h.2.2.1
  unfold endA
  split
  · exact near_pts h h3
  · split <;> exact near_pts h (by omega)
theorem near_B {p : PathV} {s : Nat} {b : Bool} (h : VOk p s b) : near (endB p s b) := by
  have h3 := h.2.2.1
  unfold endB
  split
  · exact near_pts h h3
  · split <;> exact near_pts h (by omega)

/-- a visit that is right among these paths -/
def VisOk (l : List PathV) (v : Vis) : Prop := ∃ (k s : Nat) (hk : k < l.length), v.path = (k : Int) ∧ v.start = (s : Int) ∧ VOk l[k] s v.back
theorem pathF_zero {p : PathV} (h : pathF p = 0) : 0 < p.pts.length ∧ p.pts.length ≤ 500 ∧ ∀ q ∈ p.pts, farP q = false := by
  unfold pathF at h
  split at h
  · cases h
  · split at h
    · cases h
    · split at h
      · cases h
      · split at h
        · cases h
        · rename_i h1 h2 _ h4
          refine ⟨by omega, by omega, fun q hq => ?_⟩
          rcases hf : farP q with _ | _
          · rfl
          · exact absurd (List.any_eq_true.2 ⟨q, hq, hf⟩) h4
theorem orL_zero {l : List Int} (h : orL l = 0) : ∀ x ∈ l, x = 0 := by
  induction l with
  | nil => simp
  | cons y l ih =>
    unfold orL at h
    split at h
    · rename_i hy; exact absurd h hy
    · rename_i hy
      intro x hx
      rcases List.mem_cons.1 hx with rfl | hx
      · simpa using hy
      · exact ih h x hx
theorem pathsF_zero {l : List PathV} (h : pathsF l = 0) : l.length ≤ 200 ∧ ∀ p ∈ l, pathF p = 0 := by
  unfold pathsF at h
  split at h
  · cases h
  · exact ⟨by omega, fun p hp => orL_zero h _ (List.mem_map_of_mem hp)⟩
theorem formF_zero {p : PathV} {v : Vis} (h : formF p v = 0) (hp : pathF p = 0) : ∃ s : Nat, v.start = s ∧ VOk p s v.back := by
  obtain ⟨h1, h2, h3⟩ := pathF_zero hp
  rw [formF_eq] at h
  split at h
  · cases h
  · rename_i hg
    have hs := spanF_zero h
    obtain ⟨s, hs2⟩ := Int.eq_ofNat_of_zero_le hs.1
    refine ⟨s, hs2, h2, h3, by omega, fun hc => ?_, fun hc => ?_⟩
    · rcases hb : v.back with _ | _
      · rfl
      · exact absurd (by simp [hc, hb]) hg
    · by_cases h0 : v.start = 0
      · omega
      · exact absurd (by simp [hc, h0]) hg
theorem visitF_zero {l : List PathV} {b : List Vis} {v : Vis} (h : visitF l b v = 0) (hp : pathsF l = 0) : VisOk l v := by
  unfold visitF at h
  split at h
  · cases h
  · rename_i hin
    split at h
    · cases h
    · have hin2 : 0 ≤ v.path ∧ v.path ≤ l.length - 1 := by simpa [inB] using hin
      obtain ⟨k, hk⟩ := Int.eq_ofNat_of_zero_le hin2.1
      have hkl : k < l.length := by omega
      rw [hk] at h
      have e : l.getD (k : Int).toNat default = l[k] := by simp [List.getD, hkl]
      rw [e] at h
      obtain ⟨s, h1, h2⟩ := formF_zero h ((pathsF_zero hp).2 _ (List.getElem_mem _))
      exact ⟨k, s, hkl, hk, h1, h2⟩
theorem oneF_zero {l : List PathV} {v : Vis} (h : oneF l v = 0) : VisOk l v := by
  obtain ⟨h1, h2⟩ := orS_eq_zero h
  exact visitF_zero h2 h1
theorem visitsF_zero {l : List PathV} (hp : pathsF l = 0) : ∀ {o b : List Vis}, visitsF l b o = 0 → ∀ v ∈ o, VisOk l v
  | [], _, _ => by simp
  | x :: o, b, h => by
    obtain ⟨h1, h2⟩ := orS_eq_zero h
    intro v hv
    rcases List.mem_cons.1 hv with rfl | hv
    · exact visitF_zero h1 hp
    · exact visitsF_zero hp h2 v hv
theorem orderF_zero {l : List PathV} {o : List Vis} (h : orderF l o = 0) : l.length ≤ 200 ∧ o.length = l.length ∧ ∀ v ∈ o, VisOk l v := by
  obtain ⟨h1, h2⟩ := orS_eq_zero h
  split at h2
  · cases h2
  · rename_i hl
    exact ⟨(pathsF_zero h1).1, by simpa using hl, visitsF_zero h1 h2⟩

def eA (l : List PathV) (v : Vis) : Pt := endA (l.getD v.path.toNat default) v.start.toNat v.back
def eB (l : List PathV) (v : Vis) : Pt := endB (l.getD v.path.toNat default) v.start.toNat v.back
theorem eA_of {l : List PathV} {k s : Nat} {b : Bool} (hk : k < l.length) : eA l ⟨k, s, b⟩ = endA l[k] s b := by simp [eA, List.getD, hk]
theorem eB_of {l : List PathV} {k s : Nat} {b : Bool} (hk : k < l.length) : eB l ⟨k, s, b⟩ = endB l[k] s b := by simp [eB, List.getD, hk]
def travS (l : List PathV) (st : Pt) (o : List Vis) : Pt × Int := o.foldl (fun a v => (eB l v, a.2 + distP a.1 (eA l v))) (st, 0)
theorem travS_snoc (l : List PathV) (st : Pt) (o : List Vis) (v : Vis) : travS l st (o ++ [v]) = (eB l v, (travS l st o).2 + distP (travS l st o).1 (eA l v)) := by unfold travS; rw [List.foldl_append]; rfl
theorem VisOk.nA {l : List PathV} {v : Vis} (h : VisOk l v) : near (eA l v) := by
  obtain ⟨k, s, hk, h1, h2, h3⟩ := h
  obtain ⟨vp, vs, vb⟩ := v
  simp only at h1 h2 h3
  subst h1; subst h2
  rw [eA_of hk]; exact near_A h3
theorem VisOk.nB {l : List PathV} {v : Vis} (h : VisOk l v) : near (eB l v) := by
  obtain ⟨k, s, hk, h1, h2, h3⟩ := h
  obtain ⟨vp, vs, vb⟩ := v
  simp only at h1 h2 h3
  subst h1; subst h2
  rw [eB_of hk]; exact near_B h3
theorem travS_bd {l : List PathV} {st : Pt} (hst : near st) : ∀ {o : List Vis}, (∀ v ∈ o, VisOk l v) → ∀ k, k ≤ o.length → near (travS l st (o.take k)).1 ∧ 0 ≤ (travS l st (o.take k)).2 ∧ (travS l st (o.take k)).2 ≤ k * 200000 := by
  intro o ho k
  induction k with
  | zero => intro _; exact ⟨hst, by simp [travS], by simp [travS]⟩
  | succ k ih =>
    intro hk
    obtain ⟨h1, h2, h3⟩ := ih (by omega)
    rw [take_snoc (show k < o.length by omega), travS_snoc]
    have hv := ho o[k] (List.getElem_mem _)
    have := distP_bd h1 hv.nA
    refine ⟨hv.nB, ?_, ?_⟩ <;> simp only <;> omega

end Go.Bl
namespace Go.Proofs.YtbgailgclflaeaaGreatDoor
open Go.RowKit Go.Bl

end Go.Proofs.YtbgailgclflaeaaGreatDoor

namespace Go.Proofs.YtbgailgclflaeaaGreatDoor
open Go.RowKit Go.Bl

theorem info_bool : (Tryz.prog.info? 4).map (fun i => (i.zero, i.size, i.bytes)) = some (some (.bool false), 1, 1) := by kernel_rfl

set_option maxHeartbeats 800000 in
theorem oneFault_any (A : Option Addr) (c : Nat) (l : List PathV) (v : Vis) (w : World) (hl : Sl w 0 A l) :
    Calls Tryz.prog 36 #[.slice A l.length c, .agg #[.int .i64 v.path, .int .i64 v.start, .bool v.back]] w fun e w' => e = .returned (.int .i64 (oneF l v)) ∧ w.grownBy w' none := by
  have hm := hl.1
  unfold maxLen at hm
  by_cases hz : pathsF l = 0
  · have hb : (pathsF l != 0) = false := by simp [hz]
    have HO : Hid (visitF l [] v = oneF l v) := by rw [Hid]; unfold oneF; rw [orS_zero hz]
    clear hz
    by_cases hin : 0 ≤ v.path ∧ v.path < l.length
    · have HV : Hid (formF (l.getD v.path.toNat default) v = oneF l v) := by rw [Hid, ← HO.out]; exact (visitF_new hin rfl).symm
      have hin1 : ¬ v.path < 0 := by omega
      obtain ⟨hi1, hi2⟩ := hin
      go_enter Tryz.func36, Tryz.ntmps36
      go_wp2_with fail
      refine (checkPaths_any _ _ l _ (hl.pure (gr_alloc (World.grownBy.refl _ _) _))).mono ?_
      rintro e w1 ⟨rfl, hg1⟩
      have b0 := (hg1).k (p := ⟨w.heap.size, 0, none⟩) (v := .int .i64 v.path) (by go_simp)
      have b1 := (hg1).k (p := ⟨w.heap.size, 1, none⟩) (v := .int .i64 v.start) (by go_simp)
      have b2 := (hg1).k (p := ⟨w.heap.size, 2, none⟩) (v := .bool v.back) (by go_simp)
      go_wp2_with fail
      refine (visitForm_any _ _ l v _ ((hl.pure (gr_alloc (World.grownBy.refl _ _) _)).pure hg1) hi1 hi2).mono ?_
      rintro e w2 ⟨rfl, hg2⟩
      rw [HV.out]
      go_wp2_with fail
      go_ret
      exact ⟨rfl, (by repeat (first | exact World.grownBy.refl _ _ | assumption | refine gr_alloc ?_ _ | (apply gr_tail; assumption) | refine gr_drewN ?_ _ | refine gr_drew ?_))⟩
    · have HV : Hid (1 = oneF l v) := by rw [Hid, ← HO.out]; exact (visitF_out hin).symm
      have hin2 : v.path < 0 ∨ l.length ≤ v.path := by omega
      clear hin
      go_enter Tryz.func36, Tryz.ntmps36
      go_wp2_with fail
      refine (checkPaths_any _ _ l _ (hl.pure (gr_alloc (World.grownBy.refl _ _) _))).mono ?_
      rintro e w1 ⟨rfl, hg1⟩
      have b0 := (hg1).k (p := ⟨w.heap.size, 0, none⟩) (v := .int .i64 v.path) (by go_simp)
      go_wp2_with fail
      all_goals first
        | (go_ret; exact ⟨ret_int HV.out, (by repeat (first | exact World.grownBy.refl _ _ | assumption | refine gr_alloc ?_ _ | (apply gr_tail; assumption) | refine gr_drewN ?_ _ | refine gr_drew ?_))⟩)
        | (exfalso; omega)
  · have hb : (pathsF l != 0) = true := by simp [hz]
    have HO : Hid (pathsF l = oneF l v) := by rw [Hid]; unfold oneF; rw [orS_ne hz]
    clear hz
    go_enter Tryz.func36, Tryz.ntmps36
    go_wp2_with fail
    refine (checkPaths_any _ _ l _ (hl.pure (gr_alloc (World.grownBy.refl _ _) _))).mono ?_
    rintro e w1 ⟨rfl, hg1⟩
    go_wp2_with fail
    go_ret
    exact ⟨ret_int HO.out, (by repeat (first | exact World.grownBy.refl _ _ | assumption | refine gr_alloc ?_ _ | (apply gr_tail; assumption) | refine gr_drewN ?_ _ | refine gr_drew ?_))⟩

end Go.Proofs.YtbgailgclflaeaaGreatDoor

namespace Go.Bl
open Go Go.Proofs.YtbgailgclflaeaaGreatDoor
def twoF (st : Pt) (l : List PathV) (o : List Vis) : Int := orS (pointsF [st]) (orderF l o)
def travO (st : Pt) (l : List PathV) (o : List Vis) : Int := if twoF st l o = 0 then (travS l st o).2 else 0
theorem pointsF_one (p : Pt) : pointsF [p] = if farP p then 1 else 0 := by simp [pointsF]
def tP (l : List PathV) (v : Vis) : List Pt := turned (l.getD v.path.toNat default) v
def tPO (l : List PathV) (v : Vis) : List Pt := if oneF l v = 0 then tP l v else []
def eAO (l : List PathV) (v : Vis) : Pt := if oneF l v = 0 then eA l v else ⟨0, 0⟩
def eBO (l : List PathV) (v : Vis) : Pt := if oneF l v = 0 then eB l v else ⟨0, 0⟩
theorem tP_of {l : List PathV} {k s : Nat} {b : Bool} (hk : k < l.length) : tP l ⟨k, s, b⟩ = turned l[k] ⟨k, s, b⟩ := by simp [tP, List.getD, hk]
theorem turn_closed {pts : List Pt} {s : Nat} (h : s < pts.length) : pts.drop s ++ pts.take (s + 1) = (pts.drop s ++ pts.take s) ++ (pts.drop s ++ pts.take s).take 1 := by
  have e1 : pts.take (s + 1) = pts.take s ++ [pts[s]] := take_snoc h
  have e2 : pts.drop s = pts[s] :: pts.drop (s + 1) := List.drop_eq_getElem_cons h
  have e3 : (pts.drop s ++ pts.take s).take 1 = [pts[s]] := by rw [e2]; rfl
  rw [e3, e1, List.append_assoc]

end Go.Bl
namespace Go.Proofs.YtbgailgclflaeaaGreatDoor
open Go.RowKit Go.Bl

theorem twoF_zero {st : Pt} {l : List PathV} {o : List Vis} (h : twoF st l o = 0) : near st ∧ o.length ≤ 200 ∧ ∀ v ∈ o, VisOk l v := by
  obtain ⟨h1, h2⟩ := orS_eq_zero h
  obtain ⟨h3, h4, h5⟩ := orderF_zero h2
  refine ⟨near_of ?_, by omega, h5⟩
  rw [pointsF_one] at h1
  rcases hf : farP st with _ | _
  · rfl
  · rw [hf] at h1; cases h1

set_option maxHeartbeats 2000000 in
set_option maxRecDepth 100000 in
theorem pointsOf_any (A : Option Addr) (c : Nat) (l : List PathV) (v : Vis) (w : World) (hl : Sl w 0 A l) (hv : VisOk l v) :
    Calls Tryz.prog 37 #[.slice A l.length c, .agg #[.int .i64 v.path, .int .i64 v.start, .bool v.back]] w fun e w' => ∃ A' c', e = .returned (.slice A' (tP l v).length c') ∧ Own w' w.heap.size 54 A' c' (tP l v) ∧ w.grownBy w' none := by
  have hm := hl.1
  unfold maxLen at hm
  obtain ⟨k, s, hk, h1, h2, h3⟩ := hv
  obtain ⟨vp, vs, b⟩ := v
  simp only at h1 h2 h3
  subst h1; subst h2
  rw [tP_of hk]
  obtain ⟨g, o, cx, rfl, hb0, hb1, ⟨A', c', rfl, hcp, hpts⟩, hc⟩ := hl.at_ (by decide) hk
  have c0 : w.cell? ⟨g, o + k * 2, none⟩ = some (.slice A' l[k].pts.length c') := hc 0 _ rfl
  have c1 : w.cell? ⟨g, o + k * 2 + 1, none⟩ = some (.bool l[k].cl) := hc 1 _ rfl
  clear hc
  generalize l[k] = p at *
  obtain ⟨pts, cl⟩ := p
  obtain ⟨hv1, hv2, hv3, hv4, hv5⟩ := h3
  simp only at c0 c1 hcp hpts hv1 hv2 hv3 hv4 hv5
  obtain ⟨g', o', cx, rfl, hb0', hb1', -, -⟩ := hpts.at_ (by decide) hv3
  have hT2 : turned ⟨pts, cl⟩ ⟨k, s, b⟩ = if cl then (pts.drop s ++ pts.take s) ++ (pts.drop s ++ pts.take s).take 1 else if b then (pts.drop s ++ pts.take s).reverse else pts.drop s ++ pts.take s := rfl
  generalize turned ⟨pts, cl⟩ ⟨k, s, b⟩ = T at *
  have hgne : g ≠ w.heap.size := by omega
  have hgne2 : g' ≠ w.heap.size := by omega
  cases cl
  · have hs0 := hv5 rfl
    subst hs0
    rw [List.drop_zero, List.take_zero, List.append_nil] at hT2
    clear hv2 hv4 hv5
    cases b
    · have hT3 : Hid (T = pts) := by rw [Hid, hT2]; rfl
      clear hT2
      go_enter Tryz.func37, Tryz.ntmps37
      go_wp2_with fail
      refine (clonePtN_any _ _ _ pts rfl _ (hpts.pure (gr_alloc (World.grownBy.refl _ _) _)) (by omega)).mono ?_
      rintro e w1 ⟨A2, c2, rfl, hO, hg1⟩
      have b2 := (hg1).k (p := ⟨w.heap.size, 2, none⟩) (v := .bool false) (by go_simp)
      go_wp2_with fail
      go_ret
      exact ⟨A2, c2, by rw [hT3.out]; exact rfl, by rw [hT3.out]; exact hO.lower (by simp), (by repeat (first | exact World.grownBy.refl _ _ | assumption | refine gr_alloc ?_ _ | (apply gr_tail; assumption) | refine gr_drewN ?_ _ | refine gr_drew ?_))⟩
    · have hT3 : Hid (T = pts.reverse) := by rw [Hid, hT2]; rfl
      clear hT2
      go_enter Tryz.func37, Tryz.ntmps37
      go_wp2_with fail
      refine (clonePtN_any _ _ _ pts rfl _ (hpts.pure (gr_alloc (World.grownBy.refl _ _) _)) (by omega)).mono ?_
      rintro e w1 ⟨A2, c2, rfl, hO, hg1⟩
      have b2 := (hg1).k (p := ⟨w.heap.size, 2, none⟩) (v := .bool true) (by go_simp)
      obtain ⟨g3, rfl, hg3, hg3s⟩ := hO.shape (by omega)
      go_wp2_with fail
      refine (reversePtN_any _ g3 _ c2 pts rfl _ hO (by omega) (by omega)).mono ?_
      rintro e w2 ⟨⟨v, rfl⟩, hO4, hg4⟩
      go_wp2_with fail
      go_ret
      exact ⟨some ⟨g3, 0, none⟩, c2, by rw [hT3.out, List.length_reverse]; exact rfl, by rw [hT3.out]; exact hO4.lower (by simp), gr_new (gr_trans (gr_alloc (World.grownBy.refl w none) _) hg1) hg4 (by simp at hg3; omega)⟩
  · have hT3 : Hid (T = flatK [pts.drop s, pts.take (s + 1)] 2) := by
      rw [Hid, hT2, if_pos rfl, ← turn_closed hv3]; simp [flatK]
    have hTl : Hid (T.length = pts.length + 1) := by rw [Hid, hT3.out]; simp [flatK]; omega
    have hdl : Hid ((pts.drop s).length = pts.length - s) := by simp [Hid]
    have htl : Hid ((pts.take (s + 1)).length = s + 1) := by simp [Hid]; omega
    have hpd := hpts.drop s
    have hpt := hpts.take (s + 1)
    clear hT2 hv2 hv4 hv5
    go_enter Tryz.func37, Tryz.ntmps37
    go_wp2_with fail
    have b1 := (Cell.new w [.int .i64 k, .int .i64 s, .bool b] 49 1 _ rfl w.heap.size rfl).1
    have gW := gr_alloc (r := none) (World.grownBy.refl w none) (.cells #[.int .i64 k, .int .i64 s, .bool b] 49)
    have zW : (w.alloc (.cells #[.int .i64 k, .int .i64 s, .bool b] 49)).heap.size = w.heap.size + 1 := by simp
    generalize w.alloc (.cells #[.int .i64 k, .int .i64 s, .bool b] 49) = W at *
    replace zW := hide zW
    refine wp_region_fix 9 ((fun wx => W.grownBy wx none)) (by kernel_rfl) (by kernel_rfl) (gr_drew (World.grownBy.refl _ _)) ?_
    simp only [List.take_succ_cons, List.take_zero, List.drop_succ_cons, List.drop_zero]
    (refine fix_b (fun K hK => ?_); apply Exists.intro; refine ⟨fun wx hC K' hK' => ?_, ?_⟩; (focus (replace hK' := hide hK'; skip; go_wp2_with fail; exact hK'.out _ hC)); go_simp; refine hK _ ?_; clear hK K)
    (refine fix_b (fun K hK => ?_); apply Exists.intro; refine ⟨fun wx hC K' hK' => ?_, ?_⟩; (focus (replace hK' := hide hK'; skip; go_wp2_with fail; exact hK'.out _ hC)); go_simp; refine hK _ ?_; clear hK K)
    (refine fix_b (fun K hK => ?_); apply Exists.intro; refine ⟨fun wx hC K' hK' => ?_, ?_⟩; (focus (replace hK' := hide hK'; (have y0 := hC.k b1); go_wp2_with fail; exact hK'.out _ hC)); go_simp; refine hK _ ?_; clear hK K)
    (refine fix_b (fun K hK => ?_); apply Exists.intro; refine ⟨fun wx hC K' hK' => ?_, ?_⟩; (focus (replace hK' := hide hK'; skip; go_wp2_with fail; exact hK'.out _ hC)); go_simp; refine hK _ ?_; clear hK K)
    (refine fix_b (fun K hK => ?_); apply Exists.intro; refine ⟨fun wx hC K' hK' => ?_, ?_⟩; (focus (replace hK' := hide hK'; skip; go_wp2_with fail; exact hK'.out _ hC)); go_simp; refine hK _ ?_; clear hK K)
    (refine fix_b (fun K hK => ?_); apply Exists.intro; refine ⟨fun wx hC K' hK' => ?_, ?_⟩; (focus (replace hK' := hide hK'; skip; go_wp2_with fail; exact hK'.out _ hC)); go_simp; refine hK _ ?_; clear hK K)
    (refine fix_b (fun K hK => ?_); apply Exists.intro; refine ⟨fun wx hC K' hK' => ?_, ?_⟩; (focus (replace hK' := hide hK'; (have y0 := hC.k b1); go_wp2_with fail; exact hK'.out _ hC)); go_simp; refine hK _ ?_; clear hK K)
    (refine fix_b (fun K hK => ?_); apply Exists.intro; refine ⟨fun wx hC K' hK' => ?_, ?_⟩; (focus (replace hK' := hide hK'; skip; go_wp2_with fail; exact hK'.out _ hC)); go_simp; refine hK _ ?_; clear hK K)
    (refine fix_b (fun K hK => ?_); apply Exists.intro; refine ⟨fun wx hC K' hK' => ?_, ?_⟩; (focus (replace hK' := hide hK'; skip; go_wp2_with fail; exact hK'.out _ hC)); go_simp; refine hK _ ?_; clear hK K)
    refine fix_nil ?_
    intro wz hC
    have gw := gr_trans gW hC
    go_wp2_with fail
    refine (concatPt_any _ 2 2 [⟨some ⟨g', o' + s * 2, none⟩, pts.length - s, c' - s⟩, ⟨some ⟨g', o', none⟩, s + 1, c'⟩] [pts.drop s, pts.take (s + 1)] _ (sl_lit _ 0 [.slice (some ⟨g', o' + s * 2, none⟩) (pts.length - s) (c' - s), .slice (some ⟨g', o', none⟩) (s + 1) c'] _ _ (Nat.zero_le _) (by simp [maxLen]) ⟨_, _, rfl, rfl, _, [], rfl, rfl, rfl⟩) rfl
      (.cons ⟨hdl.out.symm, ⟨_, rfl⟩, hpd.pure (gr_alloc gw _)⟩ (.cons ⟨htl.out.symm, ⟨_, rfl⟩, hpt.pure (gr_alloc gw _)⟩ .nil)) (by rw [show [pts.drop s, pts.take (s + 1)].length = 2 from rfl, ← hT3.out, hTl.out]; omega) (by rw [show [pts.drop s, pts.take (s + 1)].length = 2 from rfl, ← hT3.out, hTl.out]; omega)).mono ?_
    rintro e w2 ⟨A2, c2, rfl, hO, hg2⟩
    rw [show [pts.drop s, pts.take (s + 1)].length = 2 from rfl, ← hT3.out] at hO ⊢
    go_wp2_with fail
    go_ret
    exact ⟨A2, c2, rfl, hO.lower (by simp; have := gw.size; omega), gr_trans (gr_alloc gw _) hg2⟩

end Go.Proofs.YtbgailgclflaeaaGreatDoor

namespace Go.Proofs.YtbgailgclflaeaaGreatDoor
open Go.RowKit Go.Bl

def stepL (p : PathV) (i : Nat) : Int := if i = 0 then (if p.cl then distP (p.pts.getD (p.pts.length - 1) default) (p.pts.getD 0 default) else 0) else distP (p.pts.getD (i - 1) default) (p.pts.getD i default)
def longTo (p : PathV) (k : Nat) : Int := ((List.range k).map (stepL p)).sum
theorem longTo_succ (p : PathV) (k : Nat) : longTo p (k + 1) = longTo p k + stepL p k := by unfold longTo; rw [List.range_succ, List.map_append, List.sum_append]; simp
def longP (p : PathV) : Int := longTo p p.pts.length
def longs (l : List PathV) : List Int := l.map longP
def longSum (l : List PathV) : Int := (longs l).sum
theorem longs_snoc {l : List PathV} {k : Nat} (h : k < l.length) : longs (l.take (k + 1)) = longs (l.take k) ++ [longP l[k]] := by unfold longs; rw [take_snoc h, List.map_append]; rfl
theorem longSum_snoc {l : List PathV} {k : Nat} (h : k < l.length) : longSum (l.take (k + 1)) = longSum (l.take k) + longP l[k] := by unfold longSum; rw [longs_snoc h, List.sum_append]; simp
theorem stepL_bd {p : PathV} (h : pathF p = 0) {i : Nat} (hi : i < p.pts.length) : 0 ≤ stepL p i ∧ stepL p i ≤ 200000 := by
  have hn : ∀ j, j < p.pts.length → near (p.pts.getD j default) := fun j hj => by
    have e : p.pts.getD j default = p.pts[j] := by simp [List.getD, hj]
    rw [e]; exact near_of ((pathF_zero h).2.2 _ (List.getElem_mem _))
  unfold stepL
  split
  · split
    · exact distP_bd (hn _ (by omega)) (hn _ (by omega))
    · omega
  · exact distP_bd (hn _ (by omega)) (hn _ hi)
theorem longTo_bd {p : PathV} (h : pathF p = 0) : ∀ k, k ≤ p.pts.length → 0 ≤ longTo p k ∧ longTo p k ≤ k * 200000
  | 0, _ => by simp [longTo]
  | k + 1, hk => by
    have := longTo_bd h k (by omega)
    have := stepL_bd h (show k < p.pts.length by omega)
    rw [longTo_succ]; omega
theorem longP_bd {p : PathV} (h : pathF p = 0) : 0 ≤ longP p ∧ longP p ≤ 100000000 := by
  have := longTo_bd h p.pts.length (Nat.le_refl _)
  have := (pathF_zero h).2.1
  unfold longP; omega
theorem longSum_bd {l : List PathV} (h : ∀ p ∈ l, pathF p = 0) : ∀ k, k ≤ l.length → 0 ≤ longSum (l.take k) ∧ longSum (l.take k) ≤ k * 100000000
  | 0, _ => by simp [longSum, longs]
  | k + 1, hk => by
    have := longSum_bd h k (by omega)
    have := longP_bd (h l[k] (List.getElem_mem _))
    rw [longSum_snoc (by omega)]; omega

def longF (l : List PathV) : List Int := if pathsF l = 0 then longs l else []
def longS (l : List PathV) : Int := if pathsF l = 0 then longSum l else 0

theorem sl_litAt {α : Type} [Enc α] (w : World) (lo : Nat) (cs : List Value) (t : TypeId) (l : List α) (g : Nat) (hg : g = w.heap.size) (hlo : lo ≤ w.heap.size) (hm : l.length ≤ maxLen) (hr : Row (w.alloc (.cells cs.toArray t)) lo l cs) :
    Sl (w.alloc (.cells cs.toArray t)) lo (some ⟨g, 0, none⟩) l := by
  subst hg
  exact sl_lit w lo cs t l hlo hm hr

def onePath : List PathV := [⟨[⟨0, 0⟩, ⟨3, 2⟩], false⟩]

end Go.Proofs.YtbgailgclflaeaaGreatDoor

namespace Go.Proofs.YtbgailgclflaeaaGreatDoor
open Go.RowKit Go.Bl

set_option maxHeartbeats 800000 in
theorem points_any (A : Option Addr) (c : Nat) (l : List PathV) (v : Vis) (w : World) (hl : Sl w 0 A l) :
    Calls Tryz.prog 14 #[.slice A l.length c, .agg #[.int .i64 v.path, .int .i64 v.start, .bool v.back]] w fun e w' => ∃ A' c', e = .returned (.tuple #[.slice A' (tPO l v).length c', .int .i64 (oneF l v)]) ∧ Own w' w.heap.size 54 A' c' (tPO l v) ∧ w.grownBy w' none := by
  by_cases hz : oneF l v = 0
  · have hb : (oneF l v != 0) = false := by simp [hz]
    have hv := oneF_zero hz
    have HT : Hid (tPO l v = tP l v) := by rw [Hid]; unfold tPO; rw [if_pos hz]
    have HZ := hide hz
    clear hz
    go_enter Tryz.func14, Tryz.ntmps14
    go_wp2_with fail
    refine (oneFault_any _ _ l v _ (hl.pure (gr_alloc (World.grownBy.refl _ _) _))).mono ?_
    rintro e w1 ⟨rfl, hg1⟩
    have b0 := (hg1).k (p := ⟨w.heap.size, 0, none⟩) (v := .int .i64 v.path) (by go_simp)
    have b1 := (hg1).k (p := ⟨w.heap.size, 1, none⟩) (v := .int .i64 v.start) (by go_simp)
    have b2 := (hg1).k (p := ⟨w.heap.size, 2, none⟩) (v := .bool v.back) (by go_simp)
    go_wp2_with fail
    refine (pointsOf_any _ _ l v _ ((hl.pure (gr_alloc (World.grownBy.refl _ _) _)).pure hg1) hv).mono ?_
    rintro e w2 ⟨A', c', rfl, hO, hg2⟩
    have hzz := hg1.size
    simp at hzz
    go_wp2_with fail
    go_ret2
    exact ⟨A', c', by rw [HT.out, HZ.out]; rfl, by rw [HT.out]; exact hO.lower (by omega), (by repeat (first | exact World.grownBy.refl _ _ | assumption | refine gr_alloc ?_ _ | (apply gr_tail; assumption) | refine gr_drewN ?_ _ | refine gr_drew ?_))⟩
  · have hb : (oneF l v != 0) = true := by simp [hz]
    have HT : Hid (tPO l v = []) := by rw [Hid]; unfold tPO; rw [if_neg hz]
    clear hz
    go_enter Tryz.func14, Tryz.ntmps14
    go_wp2_with fail
    refine (oneFault_any _ _ l v _ (hl.pure (gr_alloc (World.grownBy.refl _ _) _))).mono ?_
    rintro e w1 ⟨rfl, hg1⟩
    go_wp2_with fail
    go_ret2
    exact ⟨none, 0, by rw [HT.out]; rfl, by rw [HT.out]; exact Own.nil _ _ _, (by repeat (first | exact World.grownBy.refl _ _ | assumption | refine gr_alloc ?_ _ | (apply gr_tail; assumption) | refine gr_drewN ?_ _ | refine gr_drew ?_))⟩

end Go.Proofs.YtbgailgclflaeaaGreatDoor

namespace Go.Proofs.YtbgailgclflaeaaGreatDoor
open Go Go.RowKit Go.Bl

theorem one_of {l : List PathV} {k s : Nat} {b : Bool} (hp : pathsF l = 0) (hk : k < l.length) (hs : s < l[k].pts.length) (hf : (l[k].cl && b || !l[k].cl && (s : Int) != 0) = false) : oneF l ⟨k, s, b⟩ = 0 := by
  unfold oneF
  rw [hp, orS_zero rfl, visitF_new (by constructor <;> simp <;> omega) (by simp [hasP])]
  have e : l.getD (Vis.path ⟨(k : Int), s, b⟩).toNat default = l[k] := by simp [List.getD, hk]
  rw [e, formF_eq]
  simp only [hf]
  rw [if_neg (by simp)]
  exact spanF_in (by simp [inB]; omega)
theorem tPO_of {l : List PathV} {k s : Nat} {b : Bool} (hk : k < l.length) (h : oneF l ⟨k, s, b⟩ = 0) : tPO l ⟨k, s, b⟩ = if l[k].cl then (l[k].pts.drop s ++ l[k].pts.take s) ++ (l[k].pts.drop s ++ l[k].pts.take s).take 1 else if b then (l[k].pts.drop s ++ l[k].pts.take s).reverse else l[k].pts.drop s ++ l[k].pts.take s := by
  unfold tPO; rw [if_pos h, tP_of hk]; rfl
theorem rot_at {α : Type} {l : List α} {s : Nat} (h : s < l.length) : (l.drop s ++ l.take s) ++ (l.drop s ++ l.take s).take 1 = l.drop s ++ l.take s ++ [l[s]] := by
  rw [List.drop_eq_getElem_cons h]; rfl
theorem open_points {l : List PathV} {k : Nat} (hp : pathsF l = 0) (hk : k < l.length) (hl : 0 < l[k].pts.length) (ho : l[k].cl = false) : oneF l ⟨k, 0, false⟩ = 0 ∧ tPO l ⟨k, 0, false⟩ = l[k].pts ∧ oneF l ⟨k, 0, true⟩ = 0 ∧ tPO l ⟨k, 0, true⟩ = l[k].pts.reverse := by
  have h1 := one_of (s := 0) (b := false) hp hk hl (by simp [ho])
  have h2 := one_of (s := 0) (b := true) hp hk hl (by simp [ho])
  have e1 := tPO_of hk h1
  have e2 := tPO_of hk h2
  simp only [ho] at e1 e2
  exact ⟨h1, by simpa using e1, h2, by simpa using e2⟩
theorem closed_points {l : List PathV} {k : Nat} (hp : pathsF l = 0) (hk : k < l.length) {s : Nat} (hl : s < l[k].pts.length) (ho : l[k].cl = true) : oneF l ⟨k, s, false⟩ = 0 ∧ (tPO l ⟨k, s, false⟩).length = l[k].pts.length + 1 ∧ (∀ j (h : j < (tPO l ⟨k, s, false⟩).length), j = 0 ∨ j = l[k].pts.length → (tPO l ⟨k, s, false⟩)[j] = l[k].pts[s]) := by
  have h1 := one_of (s := s) (b := false) hp hk hl (by simp [ho])
  have e1 := tPO_of hk h1
  rw [ho, if_pos rfl, rot_at hl] at e1
  refine ⟨h1, ?_, ?_⟩
  · rw [e1]; simp; omega
  · intro j h hj
    generalize tPO l ⟨k, s, false⟩ = T at *
    subst e1
    rcases hj with rfl | rfl
    · simp only [List.append_assoc]
      rw [List.getElem_append_left (by simp; omega), List.getElem_drop]
      congr 1
    · rw [List.getElem_append_right (by simp; omega)]
      simp

end Go.Proofs.YtbgailgclflaeaaGreatDoor

/- Contracts of functions that this seat's laws reach, each: what one call returns and what it leaves in memory; no condition beyond each theorem's own hypotheses. -/
import Derived.Test.YtmhnjpcjagbdhaaZqRegRev
import Derived.Test.YtmhnjpcjagbdhaaZqPathE
import Derived.Test.YtmhnjpcjagbdhaaZqHead
set_option linter.unusedVariables false
set_option linter.unusedSimpArgs false
namespace Go.Bl
open Go

theorem Sl.drop {α : Type} [Enc α] {w : World} {lo g o : Nat} {l : List α} (h : Sl w lo (some ⟨g, o, none⟩) l) (k : Nat) : Sl w lo (some ⟨g, o + k * Enc.sz α, none⟩) (l.drop k) := by
  obtain ⟨hm, cs, hr, hl⟩ := h
  refine ⟨by rw [List.length_drop]; omega, _, hr.drop k, fun hne => ?_⟩
  obtain ⟨ad, e, hb, hc⟩ := hl (by rintro rfl; simp at hne)
  injection e with e
  subst e
  refine ⟨_, rfl, hb, fun j u hu => ?_⟩
  rw [List.getElem?_drop] at hu
  have := hc _ u hu
  rw [Addr.add_lit] at this ⊢
  rwa [Nat.add_assoc]

def VOwn {α : Type} [Enc α] (lo : Nat) (e : TypeId) (l : List α) : Value → World → Prop := fun v w => ∃ (A : Option Addr) (c : Nat), v = .slice A l.length c ∧ Own w lo e A c l
/-- a right visit of a path -/
def VOk (p : PathV) (s : Nat) (b : Bool) : Prop := p.pts.length ≤ 500 ∧ (∀ q ∈ p.pts, farP q = false) ∧ s < p.pts.length ∧ (p.cl = true → b = false) ∧ (p.cl = false → s = 0)

theorem turned_len {p : PathV} {s : Nat} {b : Bool} {k : Int} (h : VOk p s b) : 0 < (turned p ⟨k, s, b⟩).length ∧ (turned p ⟨k, s, b⟩).length ≤ 501 := by
  obtain ⟨h1, _, h3, _, _⟩ := h
  unfold turned
  simp only [Int.toNat_natCast]
  split
  · simp; omega
  · split <;> simp <;> omega

theorem turned_near {p : PathV} {s : Nat} {b : Bool} {k : Int} (h : VOk p s b) : ∀ q ∈ turned p ⟨k, s, b⟩, farP q = false := by
  obtain ⟨_, h2, _, _, _⟩ := h
  intro q hq
  refine h2 q ?_
  unfold turned at hq
  simp only [Int.toNat_natCast] at hq
  have hm : ∀ q, q ∈ p.pts.drop s ++ p.pts.take s → q ∈ p.pts := fun q hq => by
    rcases List.mem_append.1 hq with hq | hq
    · exact List.mem_of_mem_drop hq
    · exact List.mem_of_mem_take hq
  split at hq
  · rcases List.mem_append.1 hq with hq | hq
    · exact hm q hq
    · exact hm q (List.mem_of_mem_take hq)
  · split at hq
    · exact hm q (List.mem_reverse.1 hq)
    · exact hm q hq

end Go.Bl
namespace Go.Proofs.Ytmhnjpcjagbdhaa
open Go.RowKit Go.Bl

def PPair (p q : Pt) (w : World) (e : Ending) (w' : World) : Prop := e = .returned (.tuple #[.agg #[.int .i64 p.x, .int .i64 p.y], .agg #[.int .i64 q.x, .int .i64 q.y]]) ∧ w.grownBy w' none

end Go.Proofs.Ytmhnjpcjagbdhaa

namespace Go.Bl
open Go Go.Proofs.Ytmhnjpcjagbdhaa

def endA (p : PathV) (s : Nat) (b : Bool) : Pt := if p.cl then p.pts.getD s default else if b then p.pts.getD (p.pts.length - 1) default else p.pts.getD 0 default

def endB (p : PathV) (s : Nat) (b : Bool) : Pt := if p.cl then p.pts.getD s default else if b then p.pts.getD 0 default else p.pts.getD (p.pts.length - 1) default

theorem headD_getD {α : Type} (l : List α) (d : α) : l.headD d = l.getD 0 d := by cases l <;> rfl

theorem lastD_getD {α : Type} (l : List α) (d : α) : l.getLastD d = l.getD (l.length - 1) d := by
  rw [List.getLastD_eq_getLast?, List.getLast?_eq_getElem?]; rfl

theorem turned_A {p : PathV} {s : Nat} {b : Bool} {k : Int} (h : VOk p s b) : (turned p ⟨k, s, b⟩).headD default = endA p s b := by
  obtain ⟨h1, _, h3, _, h5⟩ := h
  rw [headD_getD]
  unfold turned endA
  simp only [Int.toNat_natCast]
  by_cases hc : p.cl = true
  · rw [if_pos hc, if_pos hc]
    simp [List.getD, List.getElem?_append, h3, show 0 < p.pts.length - s by omega]
  · rw [if_neg hc, if_neg hc]
    have hs := h5 (by simpa using hc)
    subst hs
    cases b
    · simp
    · simp [List.getD, List.getElem?_reverse, h3, show p.pts.length - 1 < p.pts.length by omega]

theorem turned_B {p : PathV} {s : Nat} {b : Bool} {k : Int} (h : VOk p s b) : (turned p ⟨k, s, b⟩).getLastD default = endB p s b := by
  obtain ⟨h1, _, h3, _, h5⟩ := h
  rw [lastD_getD]
  unfold turned endB
  simp only [Int.toNat_natCast]
  by_cases hc : p.cl = true
  · rw [if_pos hc, if_pos hc]
    have hl : (p.pts.drop s ++ p.pts.take s).length = p.pts.length := by simp; omega
    have ht : ((p.pts.drop s ++ p.pts.take s).take 1).length = 1 := by rw [List.length_take, hl]; omega
    rw [List.length_append, hl, ht, List.getD, List.getElem?_append_right (by rw [hl]; omega), hl, show p.pts.length + 1 - 1 - p.pts.length = 0 by omega, List.getElem?_take, if_pos (by omega), List.getElem?_append_left (by simp; omega), List.getElem?_drop]
    rfl
  · rw [if_neg hc, if_neg hc]
    have hs := h5 (by simpa using hc)
    subst hs
    cases b
    · simp
    · simp only [List.drop_zero, List.take_zero, List.append_nil, List.length_reverse, if_true]
      rw [List.getD, List.getElem?_reverse (by omega), show p.pts.length - 1 - (p.pts.length - 1) = 0 by omega]
      rfl

theorem near_pts {p : PathV} {s : Nat} {b : Bool} (h : VOk p s b) {i : Nat} (hi : i < p.pts.length) : near (p.pts.getD i default) := by
  have e : p.pts.getD i default = p.pts[i] := by simp [List.getD, hi]
  rw [e]
  exact near_of (h.2.1 _ (List.getElem_mem _))

theorem near_A {p : PathV} {s : Nat} {b : Bool} (h : VOk p s b) : near (endA p s b) := by
  have h3 := h.2.2.1
  unfold endA
  split
  · exact near_pts h h3
  · split <;> exact near_pts h (by omega)

theorem near_B {p : PathV} {s : Nat} {b : Bool} (h : VOk p s b) : near (endB p s b) := by
  have h3 := h.2.2.1
  unfold endB
  split
  · exact near_pts h h3
  · split <;> exact near_pts h (by omega)

/-- a visit that is right among these paths -/
def VisOk (l : List PathV) (v : Vis) : Prop := ∃ (k s : Nat) (hk : k < l.length), v.path = (k : Int) ∧ v.start = (s : Int) ∧ VOk l[k] s v.back

theorem pathF_zero {p : PathV} (h : pathF p = 0) : 0 < p.pts.length ∧ p.pts.length ≤ 500 ∧ ∀ q ∈ p.pts, farP q = false := by
  unfold pathF at h
  split at h
  · cases h
  · split at h
    · cases h
    · split at h
      · cases h
      · split at h
        · cases h
        · rename_i h1 h2 _ h4
          refine ⟨by omega, by omega, fun q hq => ?_⟩
          rcases hf : farP q with _ | _
          · rfl
          · exact absurd (List.any_eq_true.2 ⟨q, hq, hf⟩) h4

theorem orL_zero {l : List Int} (h : orL l = 0) : ∀ x ∈ l, x = 0 := by
  induction l with
  | nil => simp
  | cons y l ih =>
    unfold orL at h
    split at h
    · rename_i hy; exact absurd h hy
    · rename_i hy
      intro x hx
      rcases List.mem_cons.1 hx with rfl | hx
      · simpa using hy
      · exact ih h x hx

theorem pathsF_zero {l : List PathV} (h : pathsF l = 0) : l.length ≤ 200 ∧ ∀ p ∈ l, pathF p = 0 := by
  unfold pathsF at h
  split at h
  · cases h
  · exact ⟨by omega, fun p hp => orL_zero h _ (List.mem_map_of_mem hp)⟩

theorem formF_zero {p : PathV} {v : Vis} (h : formF p v = 0) (hp : pathF p = 0) : ∃ s : Nat, v.start = s ∧ VOk p s v.back := by
  obtain ⟨h1, h2, h3⟩ := pathF_zero hp
  rw [formF_eq] at h
  split at h
  · cases h
  · rename_i hg
    have hs := spanF_zero h
    obtain ⟨s, hs2⟩ := Int.eq_ofNat_of_zero_le hs.1
    refine ⟨s, hs2, h2, h3, by omega, fun hc => ?_, fun hc => ?_⟩
    · rcases hb : v.back with _ | _
      · rfl
      · exact absurd (by simp [hc, hb]) hg
    · by_cases h0 : v.start = 0
      · omega
      · exact absurd (by simp [hc, h0]) hg

theorem visitF_zero {l : List PathV} {b : List Vis} {v : Vis} (h : visitF l b v = 0) (hp : pathsF l = 0) : VisOk l v := by
  unfold visitF at h
  split at h
  · cases h
  · rename_i hin
    split at h
    · cases h
    · have hin2 : 0 ≤ v.path ∧ v.path ≤ l.length - 1 := by simpa [inB] using hin
      obtain ⟨k, hk⟩ := Int.eq_ofNat_of_zero_le hin2.1
      have hkl : k < l.length := by omega
      rw [hk] at h
      have e : l.getD (k : Int).toNat default = l[k] := by simp [List.getD, hkl]
      rw [e] at h
      obtain ⟨s, h1, h2⟩ := formF_zero h ((pathsF_zero hp).2 _ (List.getElem_mem _))
      exact ⟨k, s, hkl, hk, h1, h2⟩

theorem oneF_zero {l : List PathV} {v : Vis} (h : oneF l v = 0) : VisOk l v := by
  obtain ⟨h1, h2⟩ := orS_eq_zero h
  exact visitF_zero h2 h1

theorem visitsF_zero {l : List PathV} (hp : pathsF l = 0) : ∀ {o b : List Vis}, visitsF l b o = 0 → ∀ v ∈ o, VisOk l v
  | [], _, _ => by simp
  | x :: o, b, h => by
    obtain ⟨h1, h2⟩ := orS_eq_zero h
    intro v hv
    rcases List.mem_cons.1 hv with rfl | hv
    · exact visitF_zero h1 hp
    · exact visitsF_zero hp h2 v hv

theorem orderF_zero {l : List PathV} {o : List Vis} (h : orderF l o = 0) : l.length ≤ 200 ∧ o.length = l.length ∧ ∀ v ∈ o, VisOk l v := by
  obtain ⟨h1, h2⟩ := orS_eq_zero h
  split at h2
  · cases h2
  · rename_i hl
    exact ⟨(pathsF_zero h1).1, by simpa using hl, visitsF_zero h1 h2⟩

def eA (l : List PathV) (v : Vis) : Pt := endA (l.getD v.path.toNat default) v.start.toNat v.back

def eB (l : List PathV) (v : Vis) : Pt := endB (l.getD v.path.toNat default) v.start.toNat v.back

theorem eA_of {l : List PathV} {k s : Nat} {b : Bool} (hk : k < l.length) : eA l ⟨k, s, b⟩ = endA l[k] s b := by simp [eA, List.getD, hk]

theorem eB_of {l : List PathV} {k s : Nat} {b : Bool} (hk : k < l.length) : eB l ⟨k, s, b⟩ = endB l[k] s b := by simp [eB, List.getD, hk]

def travS (l : List PathV) (st : Pt) (o : List Vis) : Pt × Int := o.foldl (fun a v => (eB l v, a.2 + distP a.1 (eA l v))) (st, 0)

theorem travS_snoc (l : List PathV) (st : Pt) (o : List Vis) (v : Vis) : travS l st (o ++ [v]) = (eB l v, (travS l st o).2 + distP (travS l st o).1 (eA l v)) := by unfold travS; rw [List.foldl_append]; rfl

theorem VisOk.nA {l : List PathV} {v : Vis} (h : VisOk l v) : near (eA l v) := by
  obtain ⟨k, s, hk, h1, h2, h3⟩ := h
  obtain ⟨vp, vs, vb⟩ := v
  simp only at h1 h2 h3
  subst h1; subst h2
  rw [eA_of hk]; exact near_A h3

theorem VisOk.nB {l : List PathV} {v : Vis} (h : VisOk l v) : near (eB l v) := by
  obtain ⟨k, s, hk, h1, h2, h3⟩ := h
  obtain ⟨vp, vs, vb⟩ := v
  simp only at h1 h2 h3
  subst h1; subst h2
  rw [eB_of hk]; exact near_B h3

theorem travS_bd {l : List PathV} {st : Pt} (hst : near st) : ∀ {o : List Vis}, (∀ v ∈ o, VisOk l v) → ∀ k, k ≤ o.length → near (travS l st (o.take k)).1 ∧ 0 ≤ (travS l st (o.take k)).2 ∧ (travS l st (o.take k)).2 ≤ k * 200000 := by
  intro o ho k
  induction k with
  | zero => intro _; exact ⟨hst, by simp [travS], by simp [travS]⟩
  | succ k ih =>
    intro hk
    obtain ⟨h1, h2, h3⟩ := ih (by omega)
    rw [take_snoc (show k < o.length by omega), travS_snoc]
    have hv := ho o[k] (List.getElem_mem _)
    have := distP_bd h1 hv.nA
    refine ⟨hv.nB, ?_, ?_⟩ <;> simp only <;> omega

end Go.Bl
namespace Go.Proofs.Ytmhnjpcjagbdhaa
open Go.RowKit Go.Bl

end Go.Proofs.Ytmhnjpcjagbdhaa

namespace Go.Proofs.Ytmhnjpcjagbdhaa
open Go.RowKit Go.Bl

theorem info_boolP : (Try.prog.info? 4).map (fun i => (i.zero, i.size, i.bytes)) = some (some (.bool false), 1, 1) := by kernel_rfl

end Go.Proofs.Ytmhnjpcjagbdhaa

namespace Go.Bl
open Go Go.Proofs.Ytmhnjpcjagbdhaa

def twoF (st : Pt) (l : List PathV) (o : List Vis) : Int := orS (pointsF [st]) (orderF l o)

def travO (st : Pt) (l : List PathV) (o : List Vis) : Int := if twoF st l o = 0 then (travS l st o).2 else 0

theorem pointsF_one (p : Pt) : pointsF [p] = if farP p then 1 else 0 := by simp [pointsF]

def tP (l : List PathV) (v : Vis) : List Pt := turned (l.getD v.path.toNat default) v

def tPO (l : List PathV) (v : Vis) : List Pt := if oneF l v = 0 then tP l v else []

def eAO (l : List PathV) (v : Vis) : Pt := if oneF l v = 0 then eA l v else ⟨0, 0⟩

def eBO (l : List PathV) (v : Vis) : Pt := if oneF l v = 0 then eB l v else ⟨0, 0⟩

theorem tP_of {l : List PathV} {k s : Nat} {b : Bool} (hk : k < l.length) : tP l ⟨k, s, b⟩ = turned l[k] ⟨k, s, b⟩ := by simp [tP, List.getD, hk]

theorem turn_closed {pts : List Pt} {s : Nat} (h : s < pts.length) : pts.drop s ++ pts.take (s + 1) = (pts.drop s ++ pts.take s) ++ (pts.drop s ++ pts.take s).take 1 := by
  have e1 : pts.take (s + 1) = pts.take s ++ [pts[s]] := take_snoc h
  have e2 : pts.drop s = pts[s] :: pts.drop (s + 1) := List.drop_eq_getElem_cons h
  have e3 : (pts.drop s ++ pts.take s).take 1 = [pts[s]] := by rw [e2]; rfl
  rw [e3, e1, List.append_assoc]

end Go.Bl
namespace Go.Proofs.Ytmhnjpcjagbdhaa
open Go.RowKit Go.Bl

theorem twoF_zero {st : Pt} {l : List PathV} {o : List Vis} (h : twoF st l o = 0) : near st ∧ o.length ≤ 200 ∧ ∀ v ∈ o, VisOk l v := by
  obtain ⟨h1, h2⟩ := orS_eq_zero h
  obtain ⟨h3, h4, h5⟩ := orderF_zero h2
  refine ⟨near_of ?_, by omega, h5⟩
  rw [pointsF_one] at h1
  rcases hf : farP st with _ | _
  · rfl
  · rw [hf] at h1; cases h1

end Go.Proofs.Ytmhnjpcjagbdhaa

namespace Go.Proofs.Ytmhnjpcjagbdhaa
open Go.RowKit Go.Bl

def stepL (p : PathV) (i : Nat) : Int := if i = 0 then (if p.cl then distP (p.pts.getD (p.pts.length - 1) default) (p.pts.getD 0 default) else 0) else distP (p.pts.getD (i - 1) default) (p.pts.getD i default)

def longTo (p : PathV) (k : Nat) : Int := ((List.range k).map (stepL p)).sum

theorem longTo_succ (p : PathV) (k : Nat) : longTo p (k + 1) = longTo p k + stepL p k := by unfold longTo; rw [List.range_succ, List.map_append, List.sum_append]; simp

def longP (p : PathV) : Int := longTo p p.pts.length

def longs (l : List PathV) : List Int := l.map longP

def longSum (l : List PathV) : Int := (longs l).sum

theorem longs_snoc {l : List PathV} {k : Nat} (h : k < l.length) : longs (l.take (k + 1)) = longs (l.take k) ++ [longP l[k]] := by unfold longs; rw [take_snoc h, List.map_append]; rfl

theorem longSum_snoc {l : List PathV} {k : Nat} (h : k < l.length) : longSum (l.take (k + 1)) = longSum (l.take k) + longP l[k] := by unfold longSum; rw [longs_snoc h, List.sum_append]; simp

theorem stepL_bd {p : PathV} (h : pathF p = 0) {i : Nat} (hi : i < p.pts.length) : 0 ≤ stepL p i ∧ stepL p i ≤ 200000 := by
  have hn : ∀ j, j < p.pts.length → near (p.pts.getD j default) := fun j hj => by
    have e : p.pts.getD j default = p.pts[j] := by simp [List.getD, hj]
    rw [e]; exact near_of ((pathF_zero h).2.2 _ (List.getElem_mem _))
  unfold stepL
  split
  · split
    · exact distP_bd (hn _ (by omega)) (hn _ (by omega))
    · omega
  · exact distP_bd (hn _ (by omega)) (hn _ hi)

theorem longTo_bd {p : PathV} (h : pathF p = 0) : ∀ k, k ≤ p.pts.length → 0 ≤ longTo p k ∧ longTo p k ≤ k * 200000
  | 0, _ => by simp [longTo]
  | k + 1, hk => by
    have := longTo_bd h k (by omega)
    have := stepL_bd h (show k < p.pts.length by omega)
    rw [longTo_succ]; omega

theorem longP_bd {p : PathV} (h : pathF p = 0) : 0 ≤ longP p ∧ longP p ≤ 100000000 := by
  have := longTo_bd h p.pts.length (Nat.le_refl _)
  have := (pathF_zero h).2.1
  unfold longP; omega

theorem longSum_bd {l : List PathV} (h : ∀ p ∈ l, pathF p = 0) : ∀ k, k ≤ l.length → 0 ≤ longSum (l.take k) ∧ longSum (l.take k) ≤ k * 100000000
  | 0, _ => by simp [longSum, longs]
  | k + 1, hk => by
    have := longSum_bd h k (by omega)
    have := longP_bd (h l[k] (List.getElem_mem _))
    rw [longSum_snoc (by omega)]; omega

def longF (l : List PathV) : List Int := if pathsF l = 0 then longs l else []

def longS (l : List PathV) : Int := if pathsF l = 0 then longSum l else 0

set_option maxHeartbeats 1000000 in
set_option maxRecDepth 100000 in
theorem long_any (A : Option Addr) (c : Nat) (l : List PathV) (w : World) (hl : Sl w 0 A l) :
    Calls Try.prog 7 #[.slice A l.length c] w fun e w' => ∃ A' c', e = .returned (.tuple #[.slice A' (longF l).length c', .int .i64 (longS l), .int .i64 (pathsF l)]) ∧ Own w' w.heap.size 3 A' c' (longF l) ∧ w.grownBy w' none := by
  by_cases hzp : pathsF l = 0
  · have hb : (pathsF l != 0) = false := by simp [hzp]
    have HF : Hid (longF l = longs l) := by rw [Hid]; unfold longF; rw [if_pos hzp]
    have HS : Hid (longS l = longSum l) := by rw [Hid]; unfold longS; rw [if_pos hzp]
    obtain ⟨hll, hpf⟩ := pathsF_zero hzp
    have hsb := hide (longSum_bd hpf)
    replace hpf := hide hpf
    have HZ := hide hzp
    clear hzp
    obtain ⟨i0, hi, hz, h1, h2⟩ := info_parts info_int
    go_enter Try.func7, Try.ntmps7
    go_wp2_with fail
    refine (checkPaths_any _ _ l _ hl).mono ?_
    rintro e w1 ⟨rfl, hg1⟩
    go_wp2_with fail
    go_loopw [6, 7, 20] (fun o n i wr => ∃ (k : Nat) (A' : Option Addr) (c' : Nat), k ≤ l.length ∧ i = .int .i64 k ∧ n = .int .i64 (longSum (l.take k)) ∧ o = .slice A' k c' ∧ Own wr w.heap.size 3 A' c' (longs (l.take k)) ∧ w.grownBy wr none) (fun _ _ i _ => l.length - (intOf i).toNat)
    case atStart => exact ⟨0, none, 0, Nat.zero_le _, rfl, rfl, rfl, Own.nil _ _ _, hg1⟩
    case round =>
      obtain ⟨k, A1, c1', hk, rfl, rfl, rfl, hown, hg⟩ := hrel
      obtain ⟨hs0, hs1⟩ := hsb.out k hk
      have hkl : Hid ((longs (l.take k)).length = k) := by simp [Hid, longs]; omega
      by_cases hlt : k < l.length
      · have hs2 := hide (longSum_snoc hlt)
        have hs3 := hide (longs_snoc hlt)
        obtain ⟨g, o, cx, rfl, hb0, hb1, ⟨A', c', rfl, hcp, hpts⟩, hc⟩ := (hl.pure hg).at_ (by decide) hlt
        have c0 : wr.cell? ⟨g, o + k * 2, none⟩ = some (.slice A' l[k].pts.length c') := hc 0 _ rfl
        have c1 : wr.cell? ⟨g, o + k * 2 + 1, none⟩ = some (.bool l[k].cl) := hc 1 _ rfl
        clear hc
        have hp0 := hpf.out l[k] (List.getElem_mem _)
        obtain ⟨hq0, hq1, hq2⟩ := pathF_zero hp0
        have hlb := longP_bd hp0
        have hst := hide (fun i hi => stepL_bd hp0 (i := i) hi)
        have hlo := hide (longTo_bd hp0)
        replace hp0 := hide hp0
        have hbx := gr_alloc (r := none) (World.grownBy.refl wr none) (.cells #[.slice A' l[k].pts.length c', .bool l[k].cl] 35)
        have D0 := (Cell.new wr [.slice A' l[k].pts.length c', .bool l[k].cl] 35 0 _ rfl _ rfl).1
        have D1 := (Cell.new wr [.slice A' l[k].pts.length c', .bool l[k].cl] 35 1 _ rfl _ rfl).1
        replace hpts := hpts.pure hbx
        obtain ⟨W, hW⟩ : ∃ W : World, W = wr := ⟨_, rfl⟩
        subst hW
        have hLP : Hid (longP l[k] = longTo l[k] l[k].pts.length) := rfl
        generalize l[k] = p at *
        go_wp2_with fail
        generalize hWb : W.alloc (.cells #[.slice A' p.pts.length c', .bool p.cl] 35) = Wb at *
        replace hWb := hide hWb
        go_loopw [10, 27] (fun n i wx => ∃ j : Nat, j ≤ p.pts.length ∧ i = .int .i64 j ∧ n = .int .i64 (longTo p j) ∧ Wb.grownBy wx none) (fun _ i _ => p.pts.length - (intOf i).toNat)
        case atStart => exact ⟨0, Nat.zero_le _, rfl, rfl, World.grownBy.refl _ _⟩
        case round =>
          obtain ⟨j, hj, rfl, rfl, hgx⟩ := hrel
          obtain ⟨hl0, hl1⟩ := hlo.out j hj
          have hj5 : j ≤ 500 := by omega
          by_cases hjl : j < p.pts.length
          · have hls := hide (longTo_succ p j)
            obtain ⟨hs5, hs6⟩ := hst.out j hjl
            obtain ⟨g2, o2, cx, rfl, hb2, hb3, rfl, hc⟩ := (hpts.pure hgx).at_ (by decide) hjl
            have p0 : wr.cell? ⟨g2, o2 + j * 2, none⟩ = some (.int .i64 p.pts[j].x) := hc 0 _ rfl
            have p1 : wr.cell? ⟨g2, o2 + j * 2 + 1, none⟩ = some (.int .i64 p.pts[j].y) := hc 1 _ rfl
            clear hc
            have hdj : near p.pts[j] := near_of (hq2 _ (List.getElem_mem _))
            have hneW : W.heap.size ≠ wr.heap.size := by have := hgx.size; have := cell_lt D0; simp only at this; omega
            have d0 := hgx.k D0
            have d1 := hgx.k D1
            rcases Nat.eq_zero_or_pos j with h0 | h0
            · subst h0
              rw [Nat.zero_mul, Nat.add_zero] at p0
              rw [Nat.zero_mul, Nat.add_zero] at p1
              rw [show ((0 : Nat) : Int) = 0 from rfl]
              cases hcl : p.cl
              · rw [hcl] at d1
                have hsi : Hid (longTo p (0 + 1) = longTo p 0) := by rw [Hid, hls.out]; simp [stepL, hcl]
                clear hcl
                clear hq2 hl0 hl1 hs5 hs6 hj
                have fa := (gr_alloc (r := none) (World.grownBy.refl wr none) (.cells #[.int .i64 (p.pts[0]'(by omega)).x, .int .i64 (p.pts[0]'(by omega)).y] 41)).k d1
                go_wp2_with fail
                (go_roundw; (case rel => exact ⟨1, by omega, by go_num, by rw [hsi.out], gr_alloc hgx _⟩); (case measure => simp [intOf]; omega))
              · rw [hcl] at d1
                obtain ⟨m, hm1⟩ : ∃ m : Nat, p.pts.length = m + 1 := ⟨p.pts.length - 1, by omega⟩
                have hil : m < p.pts.length := by omega
                obtain ⟨g3, o3, cx, e3, _, _, rfl, hc⟩ := (hpts.pure hgx).at_ (by decide) hil
                injection e3 with e3; injection e3 with e3 e4; subst e3; subst e4
                have r0 : wr.cell? ⟨g2, o2 + m * 2, none⟩ = some (.int .i64 p.pts[m].x) := hc 0 _ rfl
                have r1 : wr.cell? ⟨g2, o2 + m * 2 + 1, none⟩ = some (.int .i64 p.pts[m].y) := hc 1 _ rfl
                clear hc
                have hdi : near p.pts[m] := near_of (hq2 _ (List.getElem_mem _))
                have hsi : Hid (longTo p (0 + 1) = longTo p 0 + distP p.pts[m] (p.pts[0]'(by omega))) := by
                  rw [Hid, hls.out]
                  simp [stepL, List.getD, hcl, hm1, hjl]
                have hdb := distP_bd hdi hdj
                generalize p.pts[m] = Pi at *
                generalize p.pts[0]'_ = Pj at *
                rw [hm1] at d0
                have hm5 : m + 1 ≤ 500 := by omega
                have hml : Hid (p.pts.length = m + 1) := hm1
                have hl3 : longTo p 0 ≤ 10 := by simp at hl1; omega
                clear hcl hm1 hq2 hl1 hs5 hs6 hj
                have fa := (gr_alloc (r := none) (World.grownBy.refl wr none) (.cells #[.int .i64 Pj.x, .int .i64 Pj.y] 41)).k d1
                go_wp2_with fail
                have gx := gr_alloc (r := none) (World.grownBy.refl wr none) (.cells #[.int .i64 Pj.x, .int .i64 Pj.y] 41)
                have q0 := (Cell.new wr [.int .i64 Pj.x, .int .i64 Pj.y] 41 0 _ rfl _ rfl).1
                have q1 := (Cell.new wr [.int .i64 Pj.x, .int .i64 Pj.y] 41 1 _ rfl _ rfl).1
                have f0 := gx.k d0
                have t0 := gx.k r0
                have t1 := gx.k r1
                refine wp_region_fix 12 ((fun wx => (wr.alloc (.cells #[.int .i64 Pj.x, .int .i64 Pj.y] 41)).grownBy wx none)) (by kernel_rfl) (by kernel_rfl) (gr_drew (World.grownBy.refl _ _)) ?_
                simp only [List.take_succ_cons, List.take_zero, List.drop_succ_cons, List.drop_zero]
                (refine fix_b (fun K hK => ?_); apply Exists.intro; refine ⟨fun wx hC K' hK' => ?_, ?_⟩; (focus (replace hK' := hide hK'; skip; go_wp2_with fail; exact hK'.out _ hC)); go_simp; refine hK _ ?_; clear hK K)
                (refine fix_b (fun K hK => ?_); apply Exists.intro; refine ⟨fun wx hC K' hK' => ?_, ?_⟩; (focus (replace hK' := hide hK'; skip; go_wp2_with fail; exact hK'.out _ hC)); go_simp; refine hK _ ?_; clear hK K)
                (refine fix_b (fun K hK => ?_); apply Exists.intro; refine ⟨fun wx hC K' hK' => ?_, ?_⟩; (focus (replace hK' := hide hK'; (have y0 := hC.k f0); go_wp2_with fail; exact hK'.out _ hC)); go_simp; refine hK _ ?_; clear hK K)
                (refine fix_b (fun K hK => ?_); apply Exists.intro; refine ⟨fun wx hC K' hK' => ?_, ?_⟩; (focus (replace hK' := hide hK'; skip; go_wp2_with fail; exact hK'.out _ hC)); go_simp; refine hK _ ?_; clear hK K)
                (refine fix_b (fun K hK => ?_); apply Exists.intro; refine ⟨fun wx hC K' hK' => ?_, ?_⟩; (focus (replace hK' := hide hK'; (have y0 := hC.k f0); go_wp2_with fail; exact hK'.out _ hC)); go_simp; refine hK _ ?_; clear hK K)
                iterate 3 ((refine fix_b (fun K hK => ?_); apply Exists.intro; refine ⟨fun wx hC K' hK' => ?_, ?_⟩; (focus (replace hK' := hide hK'; skip; go_wp2_with fail; exact hK'.out _ hC)); go_simp; refine hK _ ?_; clear hK K))
                (refine fix_b (fun K hK => ?_); apply Exists.intro; refine ⟨fun wx hC K' hK' => ?_, ?_⟩; (focus (replace hK' := hide hK'; (have y0 := hC.k t0; have y1 := hC.k t1); go_wp2_with fail; exact hK'.out _ hC)); go_simp; refine hK _ ?_; clear hK K)
                (refine fix_b (fun K hK => ?_); apply Exists.intro; refine ⟨fun wx hC K' hK' => ?_, ?_⟩; (focus (replace hK' := hide hK'; (have y0 := hC.k q0; have y1 := hC.k q1); go_wp2_with fail; exact hK'.out _ hC)); go_simp; refine hK _ ?_; clear hK K)
                (refine fix_b (fun K hK => ?_); apply Exists.intro; refine ⟨fun wx hC K' hK' => ?_, ?_⟩; (focus (replace hK' := hide hK'; skip; go_wp2_with fail; (refine (distance_any Pi Pj _ hdi hdj).mono ?_; rintro e w' ⟨rfl, hg'⟩; go_wp2_with fail; exact hK'.out _ (gr_trans hC hg')))); go_simp; refine hK _ ?_; clear hK K)
                (refine fix_b (fun K hK => ?_); apply Exists.intro; refine ⟨fun wx hC K' hK' => ?_, ?_⟩; (focus (replace hK' := hide hK'; skip; go_wp2_with fail; exact hK'.out _ hC)); go_simp; refine hK _ ?_; clear hK K)
                refine fix_nil ?_
                intro wz hC
                go_wp2_with fail
                (go_roundw; (case rel => exact ⟨1, by omega, by go_num, by first | rw [hsi.out] | rw [hls.out, hsi.out], gr_trans (gr_alloc hgx _) hC⟩); (case measure => simp [intOf]; omega))
            · obtain ⟨i, rfl⟩ : ∃ i, j = i + 1 := ⟨j - 1, by omega⟩
              have hil : i < p.pts.length := by omega
              obtain ⟨g3, o3, cx, e3, _, _, rfl, hc⟩ := (hpts.pure hgx).at_ (by decide) hil
              injection e3 with e3; injection e3 with e3 e4; subst e3; subst e4
              have r0 : wr.cell? ⟨g2, o2 + i * 2, none⟩ = some (.int .i64 p.pts[i].x) := hc 0 _ rfl
              have r1 : wr.cell? ⟨g2, o2 + i * 2 + 1, none⟩ = some (.int .i64 p.pts[i].y) := hc 1 _ rfl
              clear hc
              have hdi : near p.pts[i] := near_of (hq2 _ (List.getElem_mem _))
              have hsi : Hid (stepL p (i + 1) = distP p.pts[i] p.pts[i + 1]) := by simp [Hid, stepL, List.getD, hil, hjl]
              have hdb := distP_bd hdi hdj
              have hij : ((i + 1 : Nat) : Int) - 1 = i := by omega
              generalize p.pts[i] = Pi at *
              generalize p.pts[i + 1] = Pj at *
              go_wp2_with fail
              have gx := gr_alloc (r := none) (World.grownBy.refl wr none) (.cells #[.int .i64 Pj.x, .int .i64 Pj.y] 41)
              have q0 := (Cell.new wr [.int .i64 Pj.x, .int .i64 Pj.y] 41 0 _ rfl _ rfl).1
              have q1 := (Cell.new wr [.int .i64 Pj.x, .int .i64 Pj.y] 41 1 _ rfl _ rfl).1
              have f0 := gx.k d0
              have t0 := gx.k r0
              have t1 := gx.k r1
              refine wp_region_fix 10 ((fun wx => (wr.alloc (.cells #[.int .i64 Pj.x, .int .i64 Pj.y] 41)).grownBy wx none)) (by kernel_rfl) (by kernel_rfl) (gr_drew (World.grownBy.refl _ _)) ?_
              simp only [List.take_succ_cons, List.take_zero, List.drop_succ_cons, List.drop_zero]
              (refine fix_b (fun K hK => ?_); apply Exists.intro; refine ⟨fun wx hC K' hK' => ?_, ?_⟩; (focus (replace hK' := hide hK'; skip; go_wp2_with fail; exact hK'.out _ hC)); go_simp; refine hK _ ?_; clear hK K)
              (refine fix_b (fun K hK => ?_); apply Exists.intro; refine ⟨fun wx hC K' hK' => ?_, ?_⟩; (focus (replace hK' := hide hK'; skip; go_wp2_with fail; exact hK'.out _ hC)); go_simp; refine hK _ ?_; clear hK K)
              (refine fix_b (fun K hK => ?_); apply Exists.intro; refine ⟨fun wx hC K' hK' => ?_, ?_⟩; (focus (replace hK' := hide hK'; (have y0 := hC.k f0); go_wp2_with fail; exact hK'.out _ hC)); go_simp; refine hK _ ?_; clear hK K)
              iterate 3 ((refine fix_b (fun K hK => ?_); apply Exists.intro; refine ⟨fun wx hC K' hK' => ?_, ?_⟩; (focus (replace hK' := hide hK'; skip; go_wp2_with fail; exact hK'.out _ hC)); go_simp; refine hK _ ?_; clear hK K))
              (refine fix_b (fun K hK => ?_); apply Exists.intro; refine ⟨fun wx hC K' hK' => ?_, ?_⟩; (focus (replace hK' := hide hK'; (have y0 := hC.k t0; have y1 := hC.k t1); go_wp2_with fail; exact hK'.out _ hC)); go_simp; refine hK _ ?_; clear hK K)
              (refine fix_b (fun K hK => ?_); apply Exists.intro; refine ⟨fun wx hC K' hK' => ?_, ?_⟩; (focus (replace hK' := hide hK'; (have y0 := hC.k q0; have y1 := hC.k q1); go_wp2_with fail; exact hK'.out _ hC)); go_simp; refine hK _ ?_; clear hK K)
              (refine fix_b (fun K hK => ?_); apply Exists.intro; refine ⟨fun wx hC K' hK' => ?_, ?_⟩; (focus (replace hK' := hide hK'; skip; go_wp2_with fail; (refine (distance_any Pi Pj _ hdi hdj).mono ?_; rintro e w' ⟨rfl, hg'⟩; go_wp2_with fail; exact hK'.out _ (gr_trans hC hg')))); go_simp; refine hK _ ?_; clear hK K)
              (refine fix_b (fun K hK => ?_); apply Exists.intro; refine ⟨fun wx hC K' hK' => ?_, ?_⟩; (focus (replace hK' := hide hK'; skip; go_wp2_with fail; exact hK'.out _ hC)); go_simp; refine hK _ ?_; clear hK K)
              refine fix_nil ?_
              intro wz hC
              go_wp2_with fail
              (go_roundw; (case rel => exact ⟨i + 1 + 1, by omega, by go_num, by first | rw [hsi.out] | rw [hls.out, hsi.out], gr_trans (gr_alloc hgx _) hC⟩); (case measure => simp [intOf]; omega))
          · have hjj : j = p.pts.length := by omega
            subst hjj
            rw [← hLP.out]
            go_wp2_with (at_builtin; refine wpList_push (α := Int) _ rfl (.tmp 59) (.tmp 61) _ rfl w.heap.size 3 i0 _ 8 Try.underlying22 hi hz h1 h2 rfl _ _ _ (longs (l.take k)) rfl ?c1 (by exact ((hown.pure hbx).pure (by repeat (first | exact World.grownBy.refl _ _ | assumption | refine gr_alloc ?_ _)))) 0 ⟨_, 0, none⟩ 1 1 [longP p] rfl rfl (by exact sl_int1 _ _ _ _ (by first | rfl | simp)) ?c2 ?c3 ?c4 ?_)
            case c1 => exact hkl.out.symm
            case c2 => rw [hkl.out]; simp; omega
            case c3 => rw [hkl.out]; simp [maxLen]; omega
            case c4 => simp; have := hg.size; have := hbx.size; have := hgx.size; omega
            intro A2 c2 w2 hown2 hup2
            rw [← hs3.out] at hown2
            go_wp2
            (go_roundw; (case rel => exact ⟨k + 1, A2, c2, by omega, by go_num, by rw [hs2.out], by simp [hkl.out], hown2, hup2.gr (Nat.le_refl _) (gr_alloc (gr_trans (gr_trans hg hbx) hgx) _)⟩); (case measure => simp [intOf]; omega))
      · have hkk : k = l.length := by omega
        subst hkk
        have ht : Hid (l.take l.length = l) := List.take_length
        rw [ht.out] at hown hkl ⊢
        go_wp2
        go_ret3
        exact ⟨A1, c1', by rw [HF.out, HS.out, hkl.out, HZ.out]; rfl, by rw [HF.out]; exact hown, hg⟩
  · have hb : (pathsF l != 0) = true := by simp [hzp]
    have HF : Hid (longF l = []) := by rw [Hid]; unfold longF; rw [if_neg hzp]
    have HS : Hid (longS l = 0) := by rw [Hid]; unfold longS; rw [if_neg hzp]
    clear hzp
    go_enter Try.func7, Try.ntmps7
    go_wp2_with fail
    refine (checkPaths_any _ _ l _ hl).mono ?_
    rintro e w1 ⟨rfl, hg1⟩
    go_wp2_with fail
    go_ret3
    exact ⟨none, 0, by rw [HF.out, HS.out]; rfl, by rw [HF.out]; exact Own.nil _ _ _, hg1⟩

theorem longN_any (A : Option Addr) (n c : Nat) (l : List PathV) (hn : l.length = n) (w : World) (hl : Sl w 0 A l) :
    Calls Try.prog 7 #[.slice A n c] w fun e w' => ∃ A' c', e = .returned (.tuple #[.slice A' (longF l).length c', .int .i64 (longS l), .int .i64 (pathsF l)]) ∧ Own w' w.heap.size 3 A' c' (longF l) ∧ w.grownBy w' none := by
  subst hn
  exact long_any A c l w hl

theorem sl_litAt {α : Type} [Enc α] (w : World) (lo : Nat) (cs : List Value) (t : TypeId) (l : List α) (g : Nat) (hg : g = w.heap.size) (hlo : lo ≤ w.heap.size) (hm : l.length ≤ maxLen) (hr : Row (w.alloc (.cells cs.toArray t)) lo l cs) :
    Sl (w.alloc (.cells cs.toArray t)) lo (some ⟨g, 0, none⟩) l := by
  subst hg
  exact sl_lit w lo cs t l hlo hm hr

def onePath : List PathV := [⟨[⟨0, 0⟩, ⟨3, 2⟩], false⟩]

end Go.Proofs.Ytmhnjpcjagbdhaa

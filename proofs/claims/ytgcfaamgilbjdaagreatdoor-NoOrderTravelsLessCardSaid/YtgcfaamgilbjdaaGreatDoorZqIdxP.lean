/- Contracts of functions that this seat's laws reach, each: what one call returns and what it leaves in memory; no condition beyond each theorem's own hypotheses. -/
import Derived.Test.YtgcfaamgilbjdaaGreatDoorZqPathG
import Derived.Test.YtgcfaamgilbjdaaGreatDoorZqPathE
import Derived.Test.YtgcfaamgilbjdaaGreatDoorZqHead
set_option linter.unusedVariables false
set_option linter.unusedSimpArgs false
namespace Go.Bl
open Go

theorem Sl.drop {α : Type} [Enc α] {w : World} {lo g o : Nat} {l : List α} (h : Sl w lo (some ⟨g, o, none⟩) l) (k : Nat) : Sl w lo (some ⟨g, o + k * Enc.sz α, none⟩) (l.drop k) := by
  obtain ⟨hm, cs, hr, hl⟩ := h
  refine ⟨by rw [List.length_drop]; omega, _, hr.drop k, fun hne => ?_⟩
  obtain ⟨ad, e, hb, hc⟩ := hl (by rintro rfl; simp at hne)
  injection e with e
  subst e
  refine ⟨_, rfl, hb, fun j u hu => ?_⟩
  rw [List.getElem?_drop] at hu
  have := hc _ u hu
  rw [Addr.add_lit] at this ⊢
  rwa [Nat.add_assoc]

def VOwn {α : Type} [Enc α] (lo : Nat) (e : TypeId) (l : List α) : Value → World → Prop := fun v w => ∃ (A : Option Addr) (c : Nat), v = .slice A l.length c ∧ Own w lo e A c l
/-- a right visit of a path -/
def VOk (p : PathV) (s : Nat) (b : Bool) : Prop := p.pts.length ≤ 500 ∧ (∀ q ∈ p.pts, farP q = false) ∧ s < p.pts.length ∧ (p.cl = true → b = false) ∧ (p.cl = false → s = 0)

end Go.Bl
namespace Go.Proofs.YtgcfaamgilbjdaaGreatDoor
open Go.RowKit Go.Bl

def PPair (p q : Pt) (w : World) (e : Ending) (w' : World) : Prop := e = .returned (.tuple #[.agg #[.int .i64 p.x, .int .i64 p.y], .agg #[.int .i64 q.x, .int .i64 q.y]]) ∧ w.grownBy w' none

end Go.Proofs.YtgcfaamgilbjdaaGreatDoor

namespace Go.Bl
open Go Go.Proofs.YtgcfaamgilbjdaaGreatDoor

def endA (p : PathV) (s : Nat) (b : Bool) : Pt := if p.cl then p.pts.getD s default else if b then p.pts.getD (p.pts.length - 1) default else p.pts.getD 0 default

def endB (p : PathV) (s : Nat) (b : Bool) : Pt := if p.cl then p.pts.getD s default else if b then p.pts.getD 0 default else p.pts.getD (p.pts.length - 1) default

theorem near_pts {p : PathV} {s : Nat} {b : Bool} (h : VOk p s b) {i : Nat} (hi : i < p.pts.length) : near (p.pts.getD i default) := by
  have e : p.pts.getD i default = p.pts[i] := by simp [List.getD, hi]
  rw [e]
  exact near_of (h.2.1 _ (List.getElem_mem _))

theorem near_A {p : PathV} {s : Nat} {b : Bool} (h : VOk p s b) : near (endA p s b) := by
  have h3 := h.2.2.1
  unfold endA
  split
  · exact near_pts h h3
  · split <;> exact near_pts h (by omega)

theorem near_B {p : PathV} {s : Nat} {b : Bool} (h : VOk p s b) : near (endB p s b) := by
  have h3 := h.2.2.1
  unfold endB
  split
  · exact near_pts h h3
  · split <;> exact near_pts h (by omega)

/-- a visit that is right among these paths -/
def VisOk (l : List PathV) (v : Vis) : Prop := ∃ (k s : Nat) (hk : k < l.length), v.path = (k : Int) ∧ v.start = (s : Int) ∧ VOk l[k] s v.back

theorem pathF_zero {p : PathV} (h : pathF p = 0) : 0 < p.pts.length ∧ p.pts.length ≤ 500 ∧ ∀ q ∈ p.pts, farP q = false := by
  unfold pathF at h
  split at h
  · cases h
  · split at h
    · cases h
    · split at h
      · cases h
      · split at h
        · cases h
        · rename_i h1 h2 _ h4
          refine ⟨by omega, by omega, fun q hq => ?_⟩
          rcases hf : farP q with _ | _
          · rfl
          · exact absurd (List.any_eq_true.2 ⟨q, hq, hf⟩) h4

theorem orL_zero {l : List Int} (h : orL l = 0) : ∀ x ∈ l, x = 0 := by
  induction l with
  | nil => simp
  | cons y l ih =>
    unfold orL at h
    split at h
    · rename_i hy; exact absurd h hy
    · rename_i hy
      intro x hx
      rcases List.mem_cons.1 hx with rfl | hx
      · simpa using hy
      · exact ih h x hx

theorem pathsF_zero {l : List PathV} (h : pathsF l = 0) : l.length ≤ 200 ∧ ∀ p ∈ l, pathF p = 0 := by
  unfold pathsF at h
  split at h
  · cases h
  · exact ⟨by omega, fun p hp => orL_zero h _ (List.mem_map_of_mem hp)⟩

theorem formF_zero {p : PathV} {v : Vis} (h : formF p v = 0) (hp : pathF p = 0) : ∃ s : Nat, v.start = s ∧ VOk p s v.back := by
  obtain ⟨h1, h2, h3⟩ := pathF_zero hp
  rw [formF_eq] at h
  split at h
  · cases h
  · rename_i hg
    have hs := spanF_zero h
    obtain ⟨s, hs2⟩ := Int.eq_ofNat_of_zero_le hs.1
    refine ⟨s, hs2, h2, h3, by omega, fun hc => ?_, fun hc => ?_⟩
    · rcases hb : v.back with _ | _
      · rfl
      · exact absurd (by simp [hc, hb]) hg
    · by_cases h0 : v.start = 0
      · omega
      · exact absurd (by simp [hc, h0]) hg

theorem visitF_zero {l : List PathV} {b : List Vis} {v : Vis} (h : visitF l b v = 0) (hp : pathsF l = 0) : VisOk l v := by
  unfold visitF at h
  split at h
  · cases h
  · rename_i hin
    split at h
    · cases h
    · have hin2 : 0 ≤ v.path ∧ v.path ≤ l.length - 1 := by simpa [inB] using hin
      obtain ⟨k, hk⟩ := Int.eq_ofNat_of_zero_le hin2.1
      have hkl : k < l.length := by omega
      rw [hk] at h
      have e : l.getD (k : Int).toNat default = l[k] := by simp [List.getD, hkl]
      rw [e] at h
      obtain ⟨s, h1, h2⟩ := formF_zero h ((pathsF_zero hp).2 _ (List.getElem_mem _))
      exact ⟨k, s, hkl, hk, h1, h2⟩

theorem visitsF_zero {l : List PathV} (hp : pathsF l = 0) : ∀ {o b : List Vis}, visitsF l b o = 0 → ∀ v ∈ o, VisOk l v
  | [], _, _ => by simp
  | x :: o, b, h => by
    obtain ⟨h1, h2⟩ := orS_eq_zero h
    intro v hv
    rcases List.mem_cons.1 hv with rfl | hv
    · exact visitF_zero h1 hp
    · exact visitsF_zero hp h2 v hv

theorem orderF_zero {l : List PathV} {o : List Vis} (h : orderF l o = 0) : l.length ≤ 200 ∧ o.length = l.length ∧ ∀ v ∈ o, VisOk l v := by
  obtain ⟨h1, h2⟩ := orS_eq_zero h
  split at h2
  · cases h2
  · rename_i hl
    exact ⟨(pathsF_zero h1).1, by simpa using hl, visitsF_zero h1 h2⟩

def eA (l : List PathV) (v : Vis) : Pt := endA (l.getD v.path.toNat default) v.start.toNat v.back

def eB (l : List PathV) (v : Vis) : Pt := endB (l.getD v.path.toNat default) v.start.toNat v.back

theorem eA_of {l : List PathV} {k s : Nat} {b : Bool} (hk : k < l.length) : eA l ⟨k, s, b⟩ = endA l[k] s b := by simp [eA, List.getD, hk]

theorem eB_of {l : List PathV} {k s : Nat} {b : Bool} (hk : k < l.length) : eB l ⟨k, s, b⟩ = endB l[k] s b := by simp [eB, List.getD, hk]

def travS (l : List PathV) (st : Pt) (o : List Vis) : Pt × Int := o.foldl (fun a v => (eB l v, a.2 + distP a.1 (eA l v))) (st, 0)

theorem travS_snoc (l : List PathV) (st : Pt) (o : List Vis) (v : Vis) : travS l st (o ++ [v]) = (eB l v, (travS l st o).2 + distP (travS l st o).1 (eA l v)) := by unfold travS; rw [List.foldl_append]; rfl

theorem VisOk.nA {l : List PathV} {v : Vis} (h : VisOk l v) : near (eA l v) := by
  obtain ⟨k, s, hk, h1, h2, h3⟩ := h
  obtain ⟨vp, vs, vb⟩ := v
  simp only at h1 h2 h3
  subst h1; subst h2
  rw [eA_of hk]; exact near_A h3

theorem VisOk.nB {l : List PathV} {v : Vis} (h : VisOk l v) : near (eB l v) := by
  obtain ⟨k, s, hk, h1, h2, h3⟩ := h
  obtain ⟨vp, vs, vb⟩ := v
  simp only at h1 h2 h3
  subst h1; subst h2
  rw [eB_of hk]; exact near_B h3

theorem travS_bd {l : List PathV} {st : Pt} (hst : near st) : ∀ {o : List Vis}, (∀ v ∈ o, VisOk l v) → ∀ k, k ≤ o.length → near (travS l st (o.take k)).1 ∧ 0 ≤ (travS l st (o.take k)).2 ∧ (travS l st (o.take k)).2 ≤ k * 200000 := by
  intro o ho k
  induction k with
  | zero => intro _; exact ⟨hst, by simp [travS], by simp [travS]⟩
  | succ k ih =>
    intro hk
    obtain ⟨h1, h2, h3⟩ := ih (by omega)
    rw [take_snoc (show k < o.length by omega), travS_snoc]
    have hv := ho o[k] (List.getElem_mem _)
    have := distP_bd h1 hv.nA
    refine ⟨hv.nB, ?_, ?_⟩ <;> simp only <;> omega

end Go.Bl
namespace Go.Proofs.YtgcfaamgilbjdaaGreatDoor
open Go.RowKit Go.Bl

set_option maxHeartbeats 2000000 in
theorem ends_any (A : Option Addr) (c : Nat) (l : List PathV) (v : Vis) (w : World) (hl : Sl w 0 A l) (hv : VisOk l v) :
    Calls Tryz.prog 38 #[.slice A l.length c, .agg #[.int .i64 v.path, .int .i64 v.start, .bool v.back]] w (PPair (eA l v) (eB l v) w) := by
  have hm := hl.1
  unfold maxLen at hm
  obtain ⟨k, s, hk, h1, h2, h3⟩ := hv
  obtain ⟨vp, vs, vb⟩ := v
  simp only at h1 h2 h3
  subst h1; subst h2
  obtain ⟨g, o, cx, rfl, hb0, hb1, ⟨A', c', rfl, hcp, hpts⟩, hc⟩ := hl.at_ (by decide) hk
  have c0 : w.cell? ⟨g, o + k * 2, none⟩ = some (.slice A' l[k].pts.length c') := hc 0 _ rfl
  have c1 : w.cell? ⟨g, o + k * 2 + 1, none⟩ = some (.bool l[k].cl) := hc 1 _ rfl
  clear hc
  rw [eA_of hk, eB_of hk]
  obtain ⟨hv1, hv2, hv3, hv4, hv5⟩ := h3
  obtain ⟨m, hm1⟩ : ∃ m : Nat, l[k].pts.length = m + 1 := ⟨l[k].pts.length - 1, by omega⟩
  obtain ⟨g', o', cx, rfl, hb0', hb1', rfl, hc⟩ := hpts.at_ (by decide) hv3
  have p0 : w.cell? ⟨g', o' + s * 2, none⟩ = some (.int .i64 l[k].pts[s].x) := hc 0 _ rfl
  have p1 : w.cell? ⟨g', o' + s * 2 + 1, none⟩ = some (.int .i64 l[k].pts[s].y) := hc 1 _ rfl
  clear hc
  obtain ⟨g2, o2, cx, e2, _, _, rfl, hc⟩ := hpts.at_ (k := 0) (by decide) (by omega)
  injection e2 with e2; injection e2 with e2 e3; subst e2; subst e3
  have q0 : w.cell? ⟨g', o', none⟩ = some (.int .i64 (l[k].pts[0]'(by omega)).x) := by have := hc 0 _ rfl; rwa [Nat.zero_mul] at this
  have q1 : w.cell? ⟨g', o' + 1, none⟩ = some (.int .i64 (l[k].pts[0]'(by omega)).y) := by have := hc 1 _ rfl; rwa [Nat.zero_mul, Nat.add_zero] at this
  clear hc
  obtain ⟨g2, o2, cx, e2, _, _, rfl, hc⟩ := hpts.at_ (k := m) (by decide) (by omega)
  injection e2 with e2; injection e2 with e2 e3; subst e2; subst e3
  have r0 : w.cell? ⟨g', o' + m * 2, none⟩ = some (.int .i64 (l[k].pts[m]'(by omega)).x) := hc 0 _ rfl
  have r1 : w.cell? ⟨g', o' + m * 2 + 1, none⟩ = some (.int .i64 (l[k].pts[m]'(by omega)).y) := hc 1 _ rfl
  clear hc
  have HA : Hid (endA l[k] s vb = if l[k].cl then l[k].pts[s] else if vb then l[k].pts[m]'(by omega) else l[k].pts[0]'(by omega)) := by
    simp [Hid, endA, List.getD, hm1, hv3, show s < m + 1 by omega]
  have HB : Hid (endB l[k] s vb = if l[k].cl then l[k].pts[s] else if vb then l[k].pts[0]'(by omega) else l[k].pts[m]'(by omega)) := by
    simp [Hid, endB, List.getD, hm1, hv3, show s < m + 1 by omega]
  generalize l[k].pts[s] = Ps at *
  generalize l[k].pts[0]'_ = P0 at *
  generalize l[k].pts[m]'_ = Pm at *
  generalize hcl : l[k].cl = cl at *
  generalize endA l[k] s vb = EA at *
  generalize endB l[k] s vb = EB at *
  rw [hm1] at hv1 hv3 hcp c0
  generalize l[k] = p at *
  clear hm1 hv2 hv4 hv5 hpts hcl p
  have A0 := Cell.new (w.alloc (.cells #[.int .i64 k, .int .i64 s, .bool vb] 43)) [.int .i64 0, .int .i64 0] 28 0 _ rfl (w.heap.size + 1) (by simp)
  have A1 := Cell.new (w.alloc (.cells #[.int .i64 k, .int .i64 s, .bool vb] 43)) [.int .i64 0, .int .i64 0] 28 1 _ rfl (w.heap.size + 1) (by simp)
  have B0 := Cell.new ((w.alloc (.cells #[.int .i64 k, .int .i64 s, .bool vb] 43)).alloc (.cells #[.int .i64 0, .int .i64 0] 28)) [.int .i64 0, .int .i64 0] 28 0 _ rfl (w.heap.size + 1 + 1) (by simp)
  have B1 := Cell.new ((w.alloc (.cells #[.int .i64 k, .int .i64 s, .bool vb] 43)).alloc (.cells #[.int .i64 0, .int .i64 0] 28)) [.int .i64 0, .int .i64 0] 28 1 _ rfl (w.heap.size + 1 + 1) (by simp)
  have hgn := gr_alloc (r := none) (World.grownBy.refl ((w.alloc (.cells #[.int .i64 k, .int .i64 s, .bool vb] 43)).alloc (.cells #[.int .i64 0, .int .i64 0] 28)) _) (.cells #[.int .i64 0, .int .i64 0] 28)
  obtain ⟨a0, af0⟩ := (A0.gr hgn (by simp))
  obtain ⟨a1, af1⟩ := (A1.gr hgn (by simp))
  obtain ⟨b0, bf0⟩ := B0
  obtain ⟨b1, bf1⟩ := B1
  have hw := gr_alloc (gr_alloc (gr_alloc (World.grownBy.refl w none) (.cells #[.int .i64 k, .int .i64 s, .bool vb] 43)) (.cells #[.int .i64 0, .int .i64 0] 28)) (.cells #[.int .i64 0, .int .i64 0] 28)
  obtain ⟨v1, _⟩ := ((Cell.new w [.int .i64 k, .int .i64 s, .bool vb] 43 1 _ rfl w.heap.size rfl).gr (gr_alloc (r := none) (World.grownBy.refl _ _) (.cells #[.int .i64 0, .int .i64 0] 28)) (by simp)).gr hgn (by simp)
  clear A0 A1 hgn
  replace c0 := hw.k c0
  replace c1 := hw.k c1
  replace p0 := hw.k p0
  replace p1 := hw.k p1
  replace q0 := hw.k q0
  replace q1 := hw.k q1
  replace r0 := hw.k r0
  replace r1 := hw.k r1
  have hgne : g' ≠ w.heap.size ∧ g' ≠ w.heap.size + 1 ∧ g' ≠ w.heap.size + 1 + 1 := by omega
  have hgn2 : g ≠ w.heap.size ∧ g ≠ w.heap.size + 1 ∧ g ≠ w.heap.size + 1 + 1 := by omega
  cases cl
  · cases vb
    · go_enter Tryz.func38, Tryz.ntmps38
      go_wp2_with fail
      generalize ((w.alloc _).alloc _).alloc _ = W at *
      go_region
      all_goals
        go_wp2
        refine bodyPost_ret (v := .tuple #[.agg #[.int .i64 (P0).x, .int .i64 (P0).y], .agg #[.int .i64 (Pm).x, .int .i64 (Pm).y]]) (by simp [results, Tryz.results38, go_sem, a0, a1, b0, b1, af0, af1, bf0, bf1]) rfl ⟨by rw [HA.out, HB.out]; rfl, ?_⟩
        exact gr_drew (gr_set (gr_set (gr_set (gr_set hw (.inr (by simp)) _) (.inr (by simp)) _) (.inr (by simp [Nat.add_assoc])) _) (.inr (by simp [Nat.add_assoc])) _)
    · go_enter Tryz.func38, Tryz.ntmps38
      go_wp2_with fail
      generalize ((w.alloc _).alloc _).alloc _ = W at *
      go_region
      all_goals
        go_wp2
        refine bodyPost_ret (v := .tuple #[.agg #[.int .i64 (Pm).x, .int .i64 (Pm).y], .agg #[.int .i64 (P0).x, .int .i64 (P0).y]]) (by simp [results, Tryz.results38, go_sem, a0, a1, b0, b1, af0, af1, bf0, bf1]) rfl ⟨by rw [HA.out, HB.out]; rfl, ?_⟩
        exact gr_drew (gr_set (gr_set (gr_set (gr_set hw (.inr (by simp)) _) (.inr (by simp)) _) (.inr (by simp [Nat.add_assoc])) _) (.inr (by simp [Nat.add_assoc])) _)
  · go_enter Tryz.func38, Tryz.ntmps38
    go_wp2_with fail
    generalize ((w.alloc _).alloc _).alloc _ = W at *
    go_region
    all_goals
      go_wp2
      refine bodyPost_ret (v := .tuple #[.agg #[.int .i64 (Ps).x, .int .i64 (Ps).y], .agg #[.int .i64 (Ps).x, .int .i64 (Ps).y]]) (by simp [results, Tryz.results38, go_sem, a0, a1, b0, b1, af0, af1, bf0, bf1]) rfl ⟨by rw [HA.out, HB.out]; rfl, ?_⟩
      exact gr_drew (gr_set (gr_set (gr_set (gr_set hw (.inr (by simp)) _) (.inr (by simp)) _) (.inr (by simp [Nat.add_assoc])) _) (.inr (by simp [Nat.add_assoc])) _)

set_option maxHeartbeats 2000000 in
theorem travel_any (A : Option Addr) (c : Nat) (l : List PathV) (B : Option Addr) (d : Nat) (o : List Vis) (p : Pt) (w : World) (hl : Sl w 0 A l) (ho : Sl w 0 B o) (hst : near p) (hv : ∀ v ∈ o, VisOk l v) (ho2 : o.length ≤ 1000) :
    Calls Tryz.prog 20 #[.agg #[.int .i64 p.x, .int .i64 p.y], .slice A l.length c, .slice B o.length d] w fun e w' => e = .returned (.int .i64 (travS l p o).2) ∧ w.grownBy w' none := by
  have hm := ho.1
  unfold maxLen at hm
  have hbd := hide (travS_bd hst hv)
  go_enter Tryz.func20, Tryz.ntmps20
  go_wp2_with fail
  go_loopw [7, 14] (fun n i wr => ∃ k : Nat, k ≤ o.length ∧ i = .int .i64 k ∧ n = .int .i64 (travS l p (o.take k)).2 ∧ w.grownBy wr none ∧ Cell wr w.heap.size 0 (.int .i64 (travS l p (o.take k)).1.x) ∧ Cell wr w.heap.size 1 (.int .i64 (travS l p (o.take k)).1.y)) (fun _ i _ => o.length - (intOf i).toNat)
  case atStart => exact ⟨0, Nat.zero_le _, rfl, rfl, gr_alloc (World.grownBy.refl _ _) _, Cell.new w [.int .i64 p.x, .int .i64 p.y] 28 0 _ rfl _ rfl, Cell.new w [.int .i64 p.x, .int .i64 p.y] 28 1 _ rfl _ rfl⟩
  case round =>
    obtain ⟨k, hk, rfl, rfl, hg, hc0, hc1⟩ := hrel
    obtain ⟨hn1, hn2, hn3⟩ := hbd.out k hk
    by_cases hlt : k < o.length
    · obtain ⟨g, of, cx, rfl, hb0, hb1, rfl, hc⟩ := (ho.pure hg).at_ (by decide) hlt
      have v0 : wr.cell? ⟨g, of + k * 3, none⟩ = some (.int .i64 o[k].path) := hc 0 _ rfl
      have v1 : wr.cell? ⟨g, of + k * 3 + 1, none⟩ = some (.int .i64 o[k].start) := hc 1 _ rfl
      have v2 : wr.cell? ⟨g, of + k * 3 + 2, none⟩ = some (.bool o[k].back) := hc 2 _ rfl
      clear hc
      have hvk := hv o[k] (List.getElem_mem _)
      have hnA := hvk.nA
      have HS : Hid (travS l p (o.take (k + 1)) = (eB l o[k], (travS l p (o.take k)).2 + distP (travS l p (o.take k)).1 (eA l o[k]))) := by rw [Hid, take_snoc hlt, travS_snoc]
      have hdb := distP_bd hn1 hnA
      have hk2 : k ≤ 100000 := by omega
      generalize hS : travS l p (o.take k) = S at *
      obtain ⟨at_, n⟩ := S
      simp only at hn1 hn2 hn3 hc0 hc1 hdb ⊢
      clear hS
      go_wp2_with fail
      refine (ends_any _ _ l o[k] _ ((hl.pure hg).pure (gr_alloc (World.grownBy.refl _ _) _)) hvk).mono ?_
      rintro e w2 ⟨rfl, hg2⟩
      have hg3 := gr_trans (gr_alloc (World.grownBy.refl wr none) _) hg2
      have hzz := hg3.size
      have hzw := hc0.lt
      have hne1 : w.heap.size ≠ w2.heap.size := by omega
      have hne2 : w.heap.size ≠ w2.heap.size + 1 := by omega
      have gAB := gr_alloc (r := none) (gr_alloc (World.grownBy.refl w2 none) (.cells #[.int .i64 (eA l o[k]).x, .int .i64 (eA l o[k]).y] 28)) (.cells #[.int .i64 (eB l o[k]).x, .int .i64 (eB l o[k]).y] 28)
      have Y0 := (hc0.gr hg3 (by simp)).gr gAB (by simp)
      have Y1 := (hc1.gr hg3 (by simp)).gr gAB (by simp)
      have X0 := Cell.new (w2.alloc (.cells #[.int .i64 (eA l o[k]).x, .int .i64 (eA l o[k]).y] 28)) [.int .i64 (eB l o[k]).x, .int .i64 (eB l o[k]).y] 28 0 _ rfl (w2.heap.size + 1) (by simp)
      have X1 := Cell.new (w2.alloc (.cells #[.int .i64 (eA l o[k]).x, .int .i64 (eA l o[k]).y] 28)) [.int .i64 (eB l o[k]).x, .int .i64 (eB l o[k]).y] 28 1 _ rfl (w2.heap.size + 1) (by simp)
      have y0 := Y0.1
      have y1 := Y1.1
      go_wp2_with fail
      refine (distance_any at_ (eA l o[k]) _ hn1 hnA).mono ?_
      rintro e w3 ⟨rfl, hg4⟩
      replace Y0 := Y0.gr hg4 (by simp)
      replace Y1 := Y1.gr hg4 (by simp)
      obtain ⟨x0, -⟩ := X0.gr hg4 (by simp)
      obtain ⟨x1, -⟩ := X1.gr hg4 (by simp)
      have U0 := Y0
      have U1 := Y1
      obtain ⟨u0, u1⟩ := Y0
      obtain ⟨u2, u3⟩ := Y1
      have hg5 := gr_trans hg (gr_trans hg3 (gr_trans gAB hg4))
      clear y0 y1 gAB X0 X1
      go_wp2_with fail
      (go_roundw; (case rel => exact ⟨k + 1, by omega, by go_num, by rw [HS.out], gr_set (gr_set hg5 (.inr (Nat.le_refl _)) _) (.inr (Nat.le_refl _)) _, by rw [HS.out]; exact (U0.set_ _).set_ne _ (by decide), by rw [HS.out]; exact (U1.set_ne _ (by decide)).set_ _⟩); (case measure => simp [intOf]; omega))
    · have he : Hid (o.take k = o) := by rw [Hid, List.take_of_length_le (by omega)]
      rw [he.out]
      go_wp2
      go_ret
      exact ⟨rfl, hg⟩

end Go.Proofs.YtgcfaamgilbjdaaGreatDoor

namespace Go.Proofs.YtgcfaamgilbjdaaGreatDoor
open Go.RowKit Go.Bl

theorem info_boolP : (Tryz.prog.info? 4).map (fun i => (i.zero, i.size, i.bytes)) = some (some (.bool false), 1, 1) := by kernel_rfl

set_option maxHeartbeats 1000000 in
set_option maxRecDepth 100000 in
theorem orderIn_any (A : Option Addr) (c : Nat) (l : List PathV) (B : Option Addr) (d : Nat) (o : List Vis) (w : World) (hl : Sl w 0 A l) (ho : Sl w 0 B o) (hll : l.length ≤ 200) :
    Calls Tryz.prog 28 #[.slice A l.length c, .slice B o.length d] w fun e w' => e = .returned (.int .i64 (if o.length ≠ l.length then 3 else visitsF l [] o)) ∧ w.grownBy w' none := by
  by_cases hol : o.length = l.length
  · rw [if_neg (by simp [hol])]
    have hnl : ((o.length : Int) != l.length) = false := by simp [hol]
    have hnl2 : (o.length != l.length) = false := by simp [hol]
    obtain ⟨V, hV⟩ : ∃ V : Int, V = visitsF l [] o := ⟨_, rfl⟩
    rw [← hV]
    have hol2 : o.length ≤ 200 := by omega
    replace hV := hide hV
    replace hol := hide hol
    obtain ⟨i0, hi, hz, h1, h2⟩ := info_parts info_boolP
    obtain ⟨w1, hrun, hown, hg1⟩ := run_makeOwn (P := Tryz.prog) w 63 4 i0 _ false Tryz.underlying63 hi hz h1 rfl rfl .i64 .i64 l.length (by rw [h2]; omega) (by simp [maxLen]; omega)
    rw [← seenL_nil] at hown
    go_enter Tryz.func28, Tryz.ntmps28
    go_wp2_with fail
    clear hrun
    go_loopw [19] (fun i wr => ∃ k : Nat, k ≤ o.length ∧ i = .int .i64 k ∧ w.grownBy wr none ∧ Own wr w.heap.size 4 (some ⟨w.heap.size, 0, none⟩) l.length (seenL l.length (o.take k)) ∧ Hid (visitsF l (o.take k) (o.drop k) = V)) (fun i _ => o.length - (intOf i).toNat)
    case atStart => exact ⟨0, Nat.zero_le _, rfl, hg1, hown, hV.out.symm⟩
    case round =>
      obtain ⟨k, hk, rfl, hg, hown, hdr⟩ := hrel
      by_cases hlt : k < o.length
      · obtain ⟨g, of, cx, rfl, hb0, hb1, rfl, hc⟩ := (ho.pure hg).at_ (by decide) hlt
        have v0 : wr.cell? ⟨g, of + k * 3, none⟩ = some (.int .i64 o[k].path) := hc 0 _ rfl
        have v1 : wr.cell? ⟨g, of + k * 3 + 1, none⟩ = some (.int .i64 o[k].start) := hc 1 _ rfl
        have v2 : wr.cell? ⟨g, of + k * 3 + 2, none⟩ = some (.bool o[k].back) := hc 2 _ rfl
        clear hc
        have HS := visitsF_drop l hlt
        have hsz : w.heap.size < wr.heap.size := (hown.blk_lt (g := w.heap.size) rfl).2
        have HSet : ∀ i : Nat, o[k].path = (i : Int) → seenL l.length (o.take (k + 1)) = (seenL l.length (o.take k)).set i true := fun i hi => seenL_set hlt hi
        generalize o[k] = v at *
        rw [hdr.out] at HS
        have HX : ∀ x, visitF l (o.take k) v = x → (x ≠ 0 → x = V) ∧ (x = 0 → visitsF l (o.take (k + 1)) (o.drop (k + 1)) = V) := fun x hx => by
          rw [hx] at HS
          exact ⟨fun h => by rw [orS_ne h] at HS; exact HS.symm, fun h => by rw [orS_zero h] at HS; exact HS.symm⟩
        clear HS
        by_cases hin : 0 ≤ v.path ∧ v.path < l.length
        · obtain ⟨vp, vs, vb⟩ := v
          simp only at hin v0 v1 v2 HSet
          obtain ⟨j, rfl⟩ := Int.eq_ofNat_of_zero_le hin.1
          have hjl : j < l.length := by omega
          have hjs : j < (seenL l.length (o.take k)).length := by rw [seenL_len]; exact hjl
          have s0 := hown.cell_bool hjs
          rw [seenL_get] at s0
          have f0 := hown.frozen j
          have hset := hown.set_bool hjs true
          rw [← HSet j rfl] at hset
          rcases hh : hasP (o.take k) j with _ | _
          · have HX := HX _ (visitF_new (v := ⟨j, vs, vb⟩) hin hh)
            rw [hh] at s0
            have hsetA := hset.pure (gr_alloc (World.grownBy.refl _ _) (.cells #[.int .i64 j, .int .i64 vs, .bool vb] 43))
            have hsetA := hide hsetA
            replace HX := hide HX
            clear hset HSet hjs
            have hgs := gr_alloc (gr_set hg (.inr (Nat.le_refl _)) (p := ⟨w.heap.size, j, none⟩) (.bool true)) (.cells #[.int .i64 j, .int .i64 vs, .bool vb] 43)
            go_wp2_with fail
            refine (visitForm_any _ _ l ⟨j, vs, vb⟩ _ (hl.pure hgs) hin.1 hin.2).mono ?_
            rintro e w2 ⟨rfl, hg2⟩
            generalize formF (l.getD (⟨j, vs, vb⟩ : Vis).path.toNat default) ⟨j, vs, vb⟩ = X at *
            by_cases hz : X = 0
            · have hb : (X != 0) = false := by simp [hz]
              have HT := hide (HX.out.2 hz)
              clear hz
              go_wp2_with fail
              (go_roundw; (case rel => exact ⟨k + 1, by omega, by go_num, gr_trans hgs hg2, hsetA.out.pure hg2, HT⟩); (case measure => simp [intOf]; omega))
            · have hb : (X != 0) = true := by simp [hz]
              have HT := hide (HX.out.1 hz)
              clear hz
              go_wp2_with fail
              go_ret
              exact ⟨ret_int HT.out, gr_trans hgs hg2⟩
          · have HT : Hid (6 = V) := (HX 6 (visitF_seen (v := ⟨j, vs, vb⟩) hin hh)).1 (by decide)
            rw [hh] at s0
            clear HX HSet hset
            go_wp2_with fail
            go_ret
            exact ⟨ret_int HT.out, (by repeat (first | exact World.grownBy.refl _ _ | assumption | refine gr_alloc ?_ _ | (apply gr_tail; assumption) | refine gr_drewN ?_ _ | refine gr_drew ?_))⟩
        · have HT : Hid (1 = V) := (HX 1 (visitF_out hin)).1 (by decide)
          have hin2 : v.path < 0 ∨ l.length ≤ v.path := by omega
          clear HX HSet hin
          go_wp2_with fail
          all_goals first
            | (go_ret; exact ⟨ret_int HT.out, (by repeat (first | exact World.grownBy.refl _ _ | assumption | refine gr_alloc ?_ _ | (apply gr_tail; assumption) | refine gr_drewN ?_ _ | refine gr_drew ?_))⟩)
            | (exfalso; omega)
      · have HB : Hid (0 = V) := by rw [Hid, ← hdr.out, List.drop_of_length_le (by omega)]; rfl
        go_wp2
        go_ret
        exact ⟨ret_int HB.out, hg⟩
  · rw [if_pos hol]
    have hnl : ((o.length : Int) != l.length) = true := by simp; omega
    have hnl2 : (o.length != l.length) = true := by simp [hol]
    clear hol
    go_enter Tryz.func28, Tryz.ntmps28
    go_wp2_with fail
    go_ret
    exact ⟨rfl, World.grownBy.refl _ _⟩

set_option maxHeartbeats 800000 in
theorem checkOrder_any (A : Option Addr) (c : Nat) (l : List PathV) (B : Option Addr) (d : Nat) (o : List Vis) (w : World) (hl : Sl w 0 A l) (ho : Sl w 0 B o) :
    Calls Tryz.prog 12 #[.slice A l.length c, .slice B o.length d] w fun e w' => e = .returned (.int .i64 (orderF l o)) ∧ w.grownBy w' none := by
  by_cases hz : pathsF l = 0
  · have hb : (pathsF l != 0) = false := by simp [hz]
    have HO : Hid ((if o.length ≠ l.length then 3 else visitsF l [] o) = orderF l o) := by rw [Hid]; unfold orderF; rw [orS_zero hz]
    have hll := (pathsF_zero hz).1
    clear hz
    go_enter Tryz.func12, Tryz.ntmps12
    go_wp2_with fail
    refine (checkPaths_any _ _ l _ hl).mono ?_
    rintro e w1 ⟨rfl, hg1⟩
    go_wp2_with fail
    refine (orderIn_any _ _ l _ _ o _ (hl.pure hg1) (ho.pure hg1) hll).mono ?_
    rintro e w2 ⟨rfl, hg2⟩
    rw [HO.out]
    go_wp2_with fail
    go_ret
    exact ⟨rfl, gr_trans hg1 hg2⟩
  · have hb : (pathsF l != 0) = true := by simp [hz]
    have HO := hide (orderF_bad (o := o) hz)
    clear hz
    go_enter Tryz.func12, Tryz.ntmps12
    go_wp2_with fail
    refine (checkPaths_any _ _ l _ hl).mono ?_
    rintro e w1 ⟨rfl, hg1⟩
    go_wp2_with fail
    go_ret
    exact ⟨ret_int HO.out.symm, hg1⟩

end Go.Proofs.YtgcfaamgilbjdaaGreatDoor

namespace Go.Bl
open Go Go.Proofs.YtgcfaamgilbjdaaGreatDoor

def twoF (st : Pt) (l : List PathV) (o : List Vis) : Int := orS (pointsF [st]) (orderF l o)

def travO (st : Pt) (l : List PathV) (o : List Vis) : Int := if twoF st l o = 0 then (travS l st o).2 else 0

theorem pointsF_one (p : Pt) : pointsF [p] = if farP p then 1 else 0 := by simp [pointsF]

def tP (l : List PathV) (v : Vis) : List Pt := turned (l.getD v.path.toNat default) v

def tPO (l : List PathV) (v : Vis) : List Pt := if oneF l v = 0 then tP l v else []

def eAO (l : List PathV) (v : Vis) : Pt := if oneF l v = 0 then eA l v else ⟨0, 0⟩

def eBO (l : List PathV) (v : Vis) : Pt := if oneF l v = 0 then eB l v else ⟨0, 0⟩

end Go.Bl
namespace Go.Proofs.YtgcfaamgilbjdaaGreatDoor
open Go.RowKit Go.Bl

set_option maxHeartbeats 800000 in
theorem startFault_any (A : Option Addr) (c : Nat) (l : List PathV) (B : Option Addr) (d : Nat) (o : List Vis) (p : Pt) (w : World) (hl : Sl w 0 A l) (ho : Sl w 0 B o) :
    Calls Tryz.prog 24 #[.agg #[.int .i64 p.x, .int .i64 p.y], .slice A l.length c, .slice B o.length d] w fun e w' => e = .returned (.int .i64 (twoF p l o)) ∧ w.grownBy w' none := by
  rcases hf : farP p with _ | _
  · have HT : Hid (orderF l o = twoF p l o) := by rw [Hid]; unfold twoF; rw [orS_zero (by rw [pointsF_one, hf]; rfl)]
    go_enter Tryz.func24, Tryz.ntmps24
    go_wp2_with fail
    refine (isFar_any p _).mono ?_
    rintro e w1 ⟨rfl, hg1⟩
    go_wp2_with fail
    refine (checkOrder_any _ _ l _ _ o _ ((hl.pure (gr_alloc (World.grownBy.refl _ _) _)).pure hg1) ((ho.pure (gr_alloc (World.grownBy.refl _ _) _)).pure hg1)).mono ?_
    rintro e w2 ⟨rfl, hg2⟩
    rw [HT.out]
    go_wp2_with fail
    go_ret
    exact ⟨rfl, (by repeat (first | exact World.grownBy.refl _ _ | assumption | refine gr_alloc ?_ _ | (apply gr_tail; assumption) | refine gr_drewN ?_ _ | refine gr_drew ?_))⟩
  · have HT : Hid (1 = twoF p l o) := by rw [Hid]; unfold twoF; rw [pointsF_one, hf]; rfl
    go_enter Tryz.func24, Tryz.ntmps24
    go_wp2_with fail
    refine (isFar_any p _).mono ?_
    rintro e w1 ⟨rfl, hg1⟩
    go_wp2_with fail
    go_ret
    exact ⟨ret_int HT.out, (by repeat (first | exact World.grownBy.refl _ _ | assumption | refine gr_alloc ?_ _ | (apply gr_tail; assumption) | refine gr_drewN ?_ _ | refine gr_drew ?_))⟩

theorem twoF_zero {st : Pt} {l : List PathV} {o : List Vis} (h : twoF st l o = 0) : near st ∧ o.length ≤ 200 ∧ ∀ v ∈ o, VisOk l v := by
  obtain ⟨h1, h2⟩ := orS_eq_zero h
  obtain ⟨h3, h4, h5⟩ := orderF_zero h2
  refine ⟨near_of ?_, by omega, h5⟩
  rw [pointsF_one] at h1
  rcases hf : farP st with _ | _
  · rfl
  · rw [hf] at h1; cases h1

set_option maxHeartbeats 800000 in
theorem travelGo_any (A : Option Addr) (c : Nat) (l : List PathV) (B : Option Addr) (d : Nat) (o : List Vis) (p : Pt) (w : World) (hl : Sl w 0 A l) (ho : Sl w 0 B o) :
    Calls Tryz.prog 11 #[.agg #[.int .i64 p.x, .int .i64 p.y], .slice A l.length c, .slice B o.length d] w fun e w' => e = .returned (.tuple #[.int .i64 (travO p l o), .int .i64 (twoF p l o)]) ∧ w.grownBy w' none := by
  by_cases hz : twoF p l o = 0
  · have hb : (twoF p l o != 0) = false := by simp [hz]
    obtain ⟨h1, h2, h3⟩ := twoF_zero hz
    have HT : Hid ((travS l p o).2 = travO p l o) := by rw [Hid]; unfold travO; rw [if_pos hz]
    have HZ := hide hz
    clear hz
    go_enter Tryz.func11, Tryz.ntmps11
    go_wp2_with fail
    refine (startFault_any _ _ l _ _ o p _ (hl.pure (gr_alloc (World.grownBy.refl _ _) _)) (ho.pure (gr_alloc (World.grownBy.refl _ _) _))).mono ?_
    rintro e w1 ⟨rfl, hg1⟩
    have b0 := (hg1).k (p := ⟨w.heap.size, 0, none⟩) (v := .int .i64 p.x) (by go_simp)
    have b1 := (hg1).k (p := ⟨w.heap.size, 1, none⟩) (v := .int .i64 p.y) (by go_simp)
    go_wp2_with fail
    refine (travel_any _ _ l _ _ o p _ ((hl.pure (gr_alloc (World.grownBy.refl _ _) _)).pure hg1) ((ho.pure (gr_alloc (World.grownBy.refl _ _) _)).pure hg1) h1 h3 (by omega)).mono ?_
    rintro e w2 ⟨rfl, hg2⟩
    rw [HT.out]
    go_wp2_with fail
    go_ret2
    exact ⟨by rw [HZ.out]; rfl, (by repeat (first | exact World.grownBy.refl _ _ | assumption | refine gr_alloc ?_ _ | (apply gr_tail; assumption) | refine gr_drewN ?_ _ | refine gr_drew ?_))⟩
  · have hb : (twoF p l o != 0) = true := by simp [hz]
    have HT : Hid (0 = travO p l o) := by rw [Hid]; unfold travO; rw [if_neg hz]
    clear hz
    go_enter Tryz.func11, Tryz.ntmps11
    go_wp2_with fail
    refine (startFault_any _ _ l _ _ o p _ (hl.pure (gr_alloc (World.grownBy.refl _ _) _)) (ho.pure (gr_alloc (World.grownBy.refl _ _) _))).mono ?_
    rintro e w1 ⟨rfl, hg1⟩
    go_wp2_with fail
    go_ret2
    exact ⟨by rw [← HT.out]; rfl, (by repeat (first | exact World.grownBy.refl _ _ | assumption | refine gr_alloc ?_ _ | (apply gr_tail; assumption) | refine gr_drewN ?_ _ | refine gr_drew ?_))⟩

end Go.Proofs.YtgcfaamgilbjdaaGreatDoor

namespace Go.Bl
open Go Go.Proofs.YtgcfaamgilbjdaaGreatDoor

structure Chc where
  v : Vis
  a : Pt
  b : Pt
deriving DecidableEq, Inhabited

instance : Enc Chc where
  sz := 7
  rep := fun _ _ p cs => cs = [.int .i64 p.v.path, .int .i64 p.v.start, .bool p.v.back, .int .i64 p.a.x, .int .i64 p.a.y, .int .i64 p.b.x, .int .i64 p.b.y]
  len := by rintro w lo x cs rfl; rfl
  one := by rintro w lo x cs rfl u hu; simp at hu; rcases hu with rfl | rfl | rfl | rfl | rfl | rfl | rfl <;> rfl
  keep := fun h _ => h
  mono := fun h _ => h

instance : Flat Chc := ⟨fun h => h, by decide⟩

/-- all visits of a path -/
def chV (p : PathV) (i : Nat) : List Vis := if p.cl then (List.range p.pts.length).map fun (k : Nat) => ⟨i, k, false⟩ else [⟨i, 0, false⟩, ⟨i, 0, true⟩]

def chO (l : List PathV) (v : Vis) : Chc := ⟨v, eA l v, eB l v⟩

def chs (l : List PathV) (i : Nat) : List Chc := (chV (l.getD i default) i).map (chO l)

theorem chV_ok {l : List PathV} (hp : pathsF l = 0) {i : Nat} (hi : i < l.length) : ∀ v ∈ chV l[i] i, v.path = i ∧ VisOk l v ∧ formF l[i] v = 0 := by
  obtain ⟨h1, h2, h3⟩ := pathF_zero ((pathsF_zero hp).2 _ (List.getElem_mem hi))
  intro v hv
  have fin : ∀ s b, s < l[i].pts.length → (l[i].cl = true → b = false) → (l[i].cl = false → s = 0) → v = ⟨i, s, b⟩ → v.path = i ∧ VisOk l v ∧ formF l[i] v = 0 := by
    rintro s b hs hc1 hc2 rfl
    refine ⟨rfl, ⟨i, s, hi, rfl, rfl, h2, h3, hs, hc1, hc2⟩, ?_⟩
    rw [formF_eq, if_neg]
    · unfold spanF outB
      simp; omega
    · cases hc : l[i].cl with
      | true => simp [hc1 hc]
      | false => simp [hc2 hc]
  unfold chV at hv
  cases hc : l[i].cl with
  | true =>
    rw [if_pos hc] at hv
    obtain ⟨k, hk, rfl⟩ := List.mem_map.1 hv
    exact fin k false (by simpa using hk) (fun _ => rfl) (fun h => by rw [hc] at h; cases h) rfl
  | false =>
    rw [if_neg (by rw [hc]; simp)] at hv
    simp only [List.mem_cons, List.not_mem_nil, or_false] at hv
    rcases hv with rfl | rfl
    · exact fin 0 false h1 (fun h => rfl) (fun _ => rfl) rfl
    · exact fin 0 true h1 (fun h => by rw [hc] at h; cases h) (fun _ => rfl) rfl

theorem chV_ne {l : List PathV} (hp : pathsF l = 0) {i : Nat} (hi : i < l.length) : chV l[i] i ≠ [] := by
  obtain ⟨h1, -, -⟩ := pathF_zero ((pathsF_zero hp).2 _ (List.getElem_mem hi))
  unfold chV
  cases hc : l[i].cl with
  | true =>
    rw [if_pos rfl]
    intro h
    have := congrArg List.length h
    simp at this
    rw [this] at h1
    simp at h1
  | false => simp

theorem getD_path {l : List PathV} {i : Nat} (hi : i < l.length) : l.getD i default = l[i] := by
  rw [List.getD_eq_getElem?_getD, List.getElem?_eq_getElem hi, Option.getD_some]

theorem chs_mem {l : List PathV} (hp : pathsF l = 0) {i : Nat} (hi : i < l.length) {c : Chc} (hc : c ∈ chs l i) : c.v.path = i ∧ VisOk l c.v ∧ formF l[i] c.v = 0 ∧ c.a = eA l c.v ∧ c.b = eB l c.v := by
  unfold chs at hc
  rw [getD_path hi] at hc
  obtain ⟨v, hv, rfl⟩ := List.mem_map.1 hc
  obtain ⟨h1, h2, h3⟩ := chV_ok hp hi v hv
  exact ⟨h1, h2, h3, rfl, rfl⟩

theorem chs_ne {l : List PathV} (hp : pathsF l = 0) {i : Nat} (hi : i < l.length) : chs l i ≠ [] := by
  unfold chs
  rw [getD_path hi]
  intro h
  exact chV_ne hp hi (List.map_eq_nil_iff.1 h)

theorem chs_len {l : List PathV} (hp : pathsF l = 0) {i : Nat} (hi : i < l.length) : (chs l i).length ≤ 500 := by
  obtain ⟨-, h2, -⟩ := pathF_zero ((pathsF_zero hp).2 _ (List.getElem_mem hi))
  unfold chs chV
  rw [getD_path hi, List.length_map]
  split
  · simpa using h2
  · simp

/-- the nearer one of two -/
def stepC (at_ : Pt) (acc : Option Chc) (c : Chc) : Option Chc := match acc with
  | none => some c
  | some b => if distP at_ c.a < distP at_ b.a then some c else some b

def bestTo (l : List PathV) (at_ : Pt) (o : List Vis) : Nat → Option Chc
  | 0 => none
  | k + 1 => if hasP o k then bestTo l at_ o k else (chs l k).foldl (stepC at_) (bestTo l at_ o k)

def nearK (l : List PathV) (st : Pt) : Nat → List Vis × Pt
  | 0 => ([], st)
  | m + 1 => let s := nearK l st m; match bestTo l s.2 s.1 l.length with
    | none => (s.1 ++ [default], default)
    | some c => (s.1 ++ [c.v], c.b)

theorem stepC_some (at_ : Pt) (acc : Option Chc) (c : Chc) : ∃ d, stepC at_ acc c = some d ∧ (d = c ∨ acc = some d) := by
  cases acc with
  | none => exact ⟨c, rfl, .inl rfl⟩
  | some b =>
    unfold stepC
    simp only
    split
    · exact ⟨c, rfl, .inl rfl⟩
    · exact ⟨b, rfl, .inr rfl⟩

theorem foldC_mem (at_ : Pt) : ∀ (L : List Chc) (acc : Option Chc) (d : Chc), L.foldl (stepC at_) acc = some d → d ∈ L ∨ acc = some d
  | [], acc, d, h => .inr h
  | c :: L, acc, d, h => by
    rcases foldC_mem at_ L _ d h with h1 | h1
    · exact .inl (List.mem_cons_of_mem _ h1)
    · obtain ⟨d', e, h2⟩ := stepC_some at_ acc c
      rw [e] at h1
      injection h1 with h1
      subst h1
      rcases h2 with rfl | h2
      · exact .inl (List.mem_cons_self ..)
      · exact .inr h2

theorem foldC_some (at_ : Pt) : ∀ (L : List Chc) (acc : Option Chc), L ≠ [] ∨ acc.isSome = true → ∃ d, L.foldl (stepC at_) acc = some d
  | [], acc, h => by
    rcases h with h | h
    · exact absurd rfl h
    · exact Option.isSome_iff_exists.1 h
  | c :: L, acc, _ => by
    obtain ⟨d, e, -⟩ := stepC_some at_ acc c
    rw [List.foldl_cons]
    exact foldC_some at_ L _ (.inr (by rw [e]; rfl))

theorem bestTo_mem (l : List PathV) (at_ : Pt) (o : List Vis) : ∀ k c, bestTo l at_ o k = some c → ∃ i, i < k ∧ hasP o i = false ∧ c ∈ chs l i
  | 0, c, h => by cases h
  | k + 1, c, h => by
    unfold bestTo at h
    by_cases hu : hasP o k = true
    · rw [if_pos hu] at h
      obtain ⟨i, h1, h2, h3⟩ := bestTo_mem l at_ o k c h
      exact ⟨i, by omega, h2, h3⟩
    · rw [if_neg hu] at h
      rcases foldC_mem at_ _ _ c h with h1 | h1
      · exact ⟨k, by omega, by simpa using hu, h1⟩
      · obtain ⟨i, h1, h2, h3⟩ := bestTo_mem l at_ o k c h1
        exact ⟨i, by omega, h2, h3⟩

theorem bestTo_some {l : List PathV} (hp : pathsF l = 0) (at_ : Pt) (o : List Vis) : ∀ k, k ≤ l.length → (∃ i, i < k ∧ hasP o i = false) → ∃ c, bestTo l at_ o k = some c
  | 0, _, ⟨i, h, _⟩ => by omega
  | k + 1, hk, ⟨i, h1, h2⟩ => by
    unfold bestTo
    by_cases hu : hasP o k = true
    · rw [if_pos hu]
      refine bestTo_some hp at_ o k (by omega) ⟨i, ?_, h2⟩
      have : i ≠ k := by rintro rfl; rw [hu] at h2; cases h2
      omega
    · rw [if_neg hu]
      exact foldC_some at_ _ _ (.inl (chs_ne hp (by omega)))

theorem len_inj {α β : Type} [DecidableEq β] (f : α → β) (hf : ∀ a b, f a = f b → a = b) {l : List α} {m : List β} (hl : l.Nodup) (hm : ∀ x ∈ l, f x ∈ m) : l.length ≤ m.length := by
  induction l generalizing m with
  | nil => exact Nat.zero_le _
  | cons x l ih =>
    obtain ⟨h1, h2⟩ := List.nodup_cons.1 hl
    have hx := hm x (List.mem_cons_self ..)
    have := ih (m := m.erase (f x)) h2 fun y hy => by
      rw [List.mem_erase_of_ne (fun e => h1 (by rw [← hf _ _ e]; exact hy))]
      exact hm y (List.mem_cons_of_mem _ hy)
    rw [List.length_erase_of_mem hx] at this
    have hp := List.length_pos_of_mem hx
    simp only [List.length_cons]; omega

theorem has_free (o : List Vis) {n : Nat} (h : o.length < n) : ∃ i, i < n ∧ hasP o i = false := by
  refine Classical.byContradiction fun hc => ?_
  have hall : ∀ i, i < n → hasP o i = true := fun i hi => by
    rcases hb : hasP o i with _ | _
    · exact absurd ⟨i, hi, hb⟩ hc
    · rfl
  have := len_inj (fun i : Nat => (i : Int)) (fun a b e => Int.ofNat.inj e) (l := List.range n) (m := o.map Vis.path) List.nodup_range fun i hi => by
    have := hall i (by simpa using hi)
    unfold hasP at this
    obtain ⟨v, hv, e⟩ := List.any_eq_true.1 this
    exact List.mem_map.2 ⟨v, hv, by simpa using e⟩
  simp at this
  omega

theorem orS_z {a b : Int} (h1 : a = 0) (h2 : b = 0) : orS a b = 0 := by subst h1; subst h2; rfl

theorem visitsF_snoc (l : List PathV) (v : Vis) : ∀ (o b : List Vis), visitsF l b o = 0 → visitF l (b ++ o) v = 0 → visitsF l b (o ++ [v]) = 0
  | [], b, _, h => by
    rw [List.append_nil] at h
    exact orS_z h rfl
  | x :: o, b, h1, h2 => by
    obtain ⟨h3, h4⟩ := orS_eq_zero h1
    refine orS_z h3 (visitsF_snoc l v o (b ++ [x]) h4 ?_)
    rw [List.append_assoc]; exact h2

theorem near_ok {l : List PathV} (hp : pathsF l = 0) (st : Pt) : ∀ m, m ≤ l.length → (nearK l st m).1.length = m ∧ visitsF l [] (nearK l st m).1 = 0 ∧ (nearK l st m).2 = (travS l st (nearK l st m).1).1
  | 0, _ => ⟨rfl, rfl, rfl⟩
  | m + 1, hm => by
    obtain ⟨h1, h2, h3⟩ := near_ok hp st m (by omega)
    obtain ⟨i, hi, hf⟩ := has_free (nearK l st m).1 (n := l.length) (by omega)
    obtain ⟨c, hc⟩ := bestTo_some hp (nearK l st m).2 (nearK l st m).1 l.length (Nat.le_refl _) ⟨i, hi, hf⟩
    have e : nearK l st (m + 1) = ((nearK l st m).1 ++ [c.v], c.b) := by
      conv => lhs; unfold nearK
      simp only [hc]
    obtain ⟨j, hj, hjf, hjc⟩ := bestTo_mem _ _ _ _ _ hc
    obtain ⟨c1, c2, c3, c4, c5⟩ := chs_mem hp hj hjc
    rw [e]
    refine ⟨by simp [h1], visitsF_snoc l c.v _ [] h2 ?_, ?_⟩
    · rw [List.nil_append]
      unfold visitF
      rw [if_neg (by rw [c1]; simp [inB]; omega), c1, hjf, if_neg (by simp), Int.toNat_natCast, getD_path hj]
      exact c3
    · simp only [travS_snoc, c5]

theorem near_order {l : List PathV} (hp : pathsF l = 0) (st : Pt) : orderF l (nearK l st l.length).1 = 0 := by
  obtain ⟨h1, h2, -⟩ := near_ok hp st l.length (Nat.le_refl _)
  unfold orderF
  refine orS_z hp ?_
  rw [if_neg (by simp [h1])]
  exact h2

theorem seenL_snoc {n : Nat} {o : List Vis} {v : Vis} {i : Nat} (h : v.path = (i : Int)) : seenL n (o ++ [v]) = (seenL n o).set i true := by
  have := seenL_set (n := n) (o := o ++ [v]) (k := o.length) (by simp) (i := i) (by simpa using h)
  rwa [show o.length + 1 = (o ++ [v]).length by simp, List.take_length, List.take_left] at this

theorem near_vis {l : List PathV} (hp : pathsF l = 0) (st : Pt) {m : Nat} (hm : m ≤ l.length) : ∀ v ∈ (nearK l st m).1, VisOk l v := visitsF_zero hp (near_ok hp st m hm).2.1

theorem near_near {l : List PathV} (hp : pathsF l = 0) {st : Pt} (hst : near st) {m : Nat} (hm : m ≤ l.length) : near (nearK l st m).2 := by
  rw [(near_ok hp st m hm).2.2]
  have := (travS_bd hst (near_vis hp st hm) (nearK l st m).1.length (Nat.le_refl _)).1
  rwa [List.take_length] at this

theorem near_next {l : List PathV} (hp : pathsF l = 0) (st : Pt) {m : Nat} (hm : m < l.length) : ∃ c i, bestTo l (nearK l st m).2 (nearK l st m).1 l.length = some c ∧ nearK l st (m + 1) = ((nearK l st m).1 ++ [c.v], c.b) ∧ i < l.length ∧ c.v.path = (i : Int) := by
  obtain ⟨h1, h2, h3⟩ := near_ok hp st m (by omega)
  obtain ⟨i, hi, hf⟩ := has_free (nearK l st m).1 (n := l.length) (by omega)
  obtain ⟨c, hc⟩ := bestTo_some hp (nearK l st m).2 (nearK l st m).1 l.length (Nat.le_refl _) ⟨i, hi, hf⟩
  have e : nearK l st (m + 1) = ((nearK l st m).1 ++ [c.v], c.b) := by
    conv => lhs; unfold nearK
    simp only [hc]
  obtain ⟨j, hj, hjf, hjc⟩ := bestTo_mem _ _ _ _ _ hc
  exact ⟨c, j, hc, e, hj, (chs_mem hp hj hjc).1⟩

theorem best_near {l : List PathV} (hp : pathsF l = 0) (at_ : Pt) (o : List Vis) {k : Nat} (hk : k ≤ l.length) {c : Chc} (h : bestTo l at_ o k = some c) : near c.a := by
  obtain ⟨i, hi, -, hc⟩ := bestTo_mem l at_ o k c h
  obtain ⟨-, h2, -, h4, -⟩ := chs_mem hp (show i < l.length by omega) hc
  rw [h4]; exact h2.nA

theorem fold_near {l : List PathV} (hp : pathsF l = 0) (at_ : Pt) (o : List Vis) {k : Nat} (hk : k < l.length) {L : List Chc} (hL : ∀ c ∈ L, c ∈ chs l k) {c : Chc} (h : L.foldl (stepC at_) (bestTo l at_ o k) = some c) : near c.a := by
  rcases foldC_mem at_ _ _ c h with h1 | h1
  · obtain ⟨-, h2, -, h4, -⟩ := chs_mem hp hk (hL c h1)
    rw [h4]; exact h2.nA
  · exact best_near hp at_ o (by omega) h1

/-! ### retractions without walls -/

def retK (l : List PathV) (st : Pt) (o : List Vis) (free : Int) : Nat → List Int
  | 0 => []
  | k + 1 => retK l st o free k ++ (if free < distP (travS l st (o.take k)).1 (eA l (o.getD k default)) then [(k : Int)] else [])

end Go.Bl

namespace Go.Bl
open Go Go.Proofs.YtgcfaamgilbjdaaGreatDoor

/-- the first index with the least value -/
def fmin (f : Nat → Option Int) : Nat → Option (Nat × Int)
  | 0 => none
  | k + 1 => match f k with
    | none => fmin f k
    | some n => match fmin f k with
      | none => some (k, n)
      | some b => if n < b.2 then some (k, n) else some b

theorem fmin_skip {f : Nat → Option Int} {k : Nat} (h : f k = none) : fmin f (k + 1) = fmin f k := by
  conv => lhs; unfold fmin
  rw [h]

theorem fmin_first {f : Nat → Option Int} {k : Nat} {n : Int} (h : f k = some n) (h2 : fmin f k = none) : fmin f (k + 1) = some (k, n) := by
  conv => lhs; unfold fmin
  rw [h, h2]

theorem fmin_next {f : Nat → Option Int} {k : Nat} {n : Int} {b : Nat × Int} (h : f k = some n) (h2 : fmin f k = some b) : fmin f (k + 1) = if n < b.2 then some (k, n) else some b := by
  conv => lhs; unfold fmin
  rw [h, h2]

theorem fmin_some {f : Nat → Option Int} : ∀ {m : Nat} {b : Nat × Int}, fmin f m = some b → b.1 < m ∧ f b.1 = some b.2 ∧ ∀ j n, j < m → f j = some n → b.2 ≤ n ∧ (j < b.1 → b.2 < n)
  | 0, b, h => by cases h
  | k + 1, b, h => by
    rcases hf : f k with _ | n
    · rw [fmin_skip hf] at h
      obtain ⟨h1, h2, h3⟩ := fmin_some h
      refine ⟨by omega, h2, fun j m hj hm => ?_⟩
      by_cases e : j = k
      · subst e; rw [hf] at hm; cases hm
      · exact h3 j m (by omega) hm
    · rcases hm : fmin f k with _ | c
      · rw [fmin_first hf hm] at h
        injection h with h
        subst h
        refine ⟨by simp, hf, fun j m hj hjm => ?_⟩
        have key : ∀ q, fmin f q = none → ∀ i, i < q → f i = none := fun q => by
          induction q with
          | zero => intro _ i hi; omega
          | succ q ih =>
            intro h i hi
            rcases hq : f q with _ | u
            · rw [fmin_skip hq] at h
              by_cases e : i = q
              · subst e; exact hq
              · exact ih h i (by omega)
            · rcases hr : fmin f q with _ | v
              · rw [fmin_first hq hr] at h; cases h
              · rw [fmin_next hq hr] at h
                split at h <;> cases h
        by_cases e : j = k
        · subst e
          rw [hf] at hjm
          injection hjm with hjm
          simp only; omega
        · rw [key k hm j (by omega)] at hjm
          cases hjm
      · obtain ⟨h1, h2, h3⟩ := fmin_some hm
        rw [fmin_next hf hm] at h
        split at h
        · rename_i hlt
          injection h with h
          subst h
          refine ⟨by simp, hf, fun j m hj hjm => ?_⟩
          by_cases e : j = k
          · subst e
            rw [hf] at hjm
            injection hjm with hjm
            simp only; omega
          · have := h3 j m (by omega) hjm
            simp only; omega
        · rename_i hlt
          injection h with h
          subst h
          refine ⟨by omega, h2, fun j m hj hjm => ?_⟩
          by_cases e : j = k
          · subst e
            rw [hf] at hjm
            injection hjm with hjm
            omega
          · exact h3 j m (by omega) hjm

theorem fmin_none {f : Nat → Option Int} : ∀ {m : Nat}, fmin f m = none → ∀ i, i < m → f i = none
  | 0, _, i, hi => by omega
  | q + 1, h, i, hi => by
    rcases hq : f q with _ | u
    · rw [fmin_skip hq] at h
      by_cases e : i = q
      · subst e; exact hq
      · exact fmin_none h i (by omega)
    · rcases hr : fmin f q with _ | v
      · rw [fmin_first hq hr] at h; cases h
      · rw [fmin_next hq hr] at h
        split at h <;> cases h

theorem fmin_congr {f g : Nat → Option Int} : ∀ {m : Nat}, (∀ i, i < m → f i = g i) → fmin f m = fmin g m
  | 0, _ => rfl
  | k + 1, h => by
    unfold fmin
    rw [h k (by omega), fmin_congr (m := k) fun i hi => h i (by omega)]

/-! ### sets of paths as numbers -/

def clr (S i : Nat) : Nat := if S.testBit i then S - 2 ^ i else S

theorem clr_lt {S i : Nat} (h : S.testBit i = true) : clr S i < S := by
  have h1 := Nat.ge_two_pow_of_testBit h
  have h2 := Nat.two_pow_pos i
  unfold clr
  rw [if_pos h]
  omega

def allC (l : List PathV) : List Chc := (List.range l.length).flatMap (chs l)

def chA (l : List PathV) (k : Nat) : Chc := (allC l).getD k default

def pthN (c : Chc) : Nat := c.v.path.toNat
/-- how far it is by way of a choice -/
def byS (l : List PathV) (lf : Nat → Int) (at_ : Pt) (S k : Nat) : Option Int := if S.testBit (pthN (chA l k)) then some (distP at_ (chA l k).a + lf k) else none

def nxtS (l : List PathV) (lf : Nat → Int) (at_ : Pt) (S : Nat) : Option (Nat × Int) := fmin (byS l lf at_ S) (allC l).length

def bstF (l : List PathV) : Nat → Pt → Nat → List Vis × Int
  | 0, _, _ => ([], 0)
  | n + 1, at_, S => match nxtS l (fun k => (bstF l n (chA l k).b (clr S (pthN (chA l k)))).2) at_ S with
    | none => ([], 0)
    | some b => ((chA l b.1).v :: (bstF l n (chA l b.1).b (clr S (pthN (chA l b.1)))).1, b.2)

theorem bst_fuel (l : List PathV) : ∀ (n m : Nat) (at_ : Pt) (S : Nat), S ≤ n → S ≤ m → bstF l n at_ S = bstF l m at_ S
  | 0, 0, _, _, _, _ => rfl
  | 0, m + 1, at_, S, h, _ => by
    obtain rfl : S = 0 := by omega
    conv => rhs; unfold bstF
    have e : nxtS l (fun k => (bstF l m (chA l k).b (clr 0 (pthN (chA l k)))).2) at_ 0 = none := by
      unfold nxtS
      generalize (allC l).length = q
      induction q with
      | zero => rfl
      | succ q ih => rw [fmin_skip (by unfold byS; rw [Nat.zero_testBit]; rfl)]; exact ih
    rw [e]
    rfl
  | n + 1, 0, at_, S, _, h => by
    obtain rfl : S = 0 := by omega
    conv => lhs; unfold bstF
    have e : nxtS l (fun k => (bstF l n (chA l k).b (clr 0 (pthN (chA l k)))).2) at_ 0 = none := by
      unfold nxtS
      generalize (allC l).length = q
      induction q with
      | zero => rfl
      | succ q ih => rw [fmin_skip (by unfold byS; rw [Nat.zero_testBit]; rfl)]; exact ih
    rw [e]
    rfl
  | n + 1, m + 1, at_, S, h1, h2 => by
    have key : ∀ k, S.testBit (pthN (chA l k)) = true → bstF l n (chA l k).b (clr S (pthN (chA l k))) = bstF l m (chA l k).b (clr S (pthN (chA l k))) := fun k hk => by
      have := clr_lt hk
      exact bst_fuel l n m _ _ (by omega) (by omega)
    unfold bstF
    have e : nxtS l (fun k => (bstF l n (chA l k).b (clr S (pthN (chA l k)))).2) at_ S = nxtS l (fun k => (bstF l m (chA l k).b (clr S (pthN (chA l k)))).2) at_ S := by
      unfold nxtS
      refine fmin_congr fun k _ => ?_
      unfold byS
      cases hk : S.testBit (pthN (chA l k)) with
      | false => rfl
      | true => simp only [key k hk]
    rw [e]
    rcases hq : nxtS l (fun k => (bstF l m (chA l k).b (clr S (pthN (chA l k)))).2) at_ S with _ | b
    · rfl
    · simp only
      have h3 := (fmin_some hq).2.1
      unfold byS at h3
      rw [key b.1 (by
        cases hk : S.testBit (pthN (chA l b.1)) with
        | false => rw [hk] at h3; cases h3
        | true => rfl)]
/-- the least order of a set's paths, and its travel -/
def bst (l : List PathV) (at_ : Pt) (S : Nat) : List Vis × Int := bstF l S at_ S

def bsL (l : List PathV) (S k : Nat) : Int := (bst l (chA l k).b (clr S (pthN (chA l k)))).2

theorem bst_eq (l : List PathV) (at_ : Pt) (S : Nat) : bst l at_ S = match nxtS l (bsL l S) at_ S with
    | none => ([], 0)
    | some b => ((chA l b.1).v :: (bst l (chA l b.1).b (clr S (pthN (chA l b.1)))).1, b.2) := by
  have h0 : bst l at_ S = bstF l (S + 1) at_ S := bst_fuel l _ _ _ _ (Nat.le_refl _) (by omega)
  rw [h0]
  conv => lhs; unfold bstF
  have key : ∀ k, S.testBit (pthN (chA l k)) = true → bstF l S (chA l k).b (clr S (pthN (chA l k))) = bst l (chA l k).b (clr S (pthN (chA l k))) := fun k hk => by
    have := clr_lt hk
    exact bst_fuel l _ _ _ _ (by omega) (Nat.le_refl _)
  have e : nxtS l (fun k => (bstF l S (chA l k).b (clr S (pthN (chA l k)))).2) at_ S = nxtS l (bsL l S) at_ S := by
    unfold nxtS
    refine fmin_congr fun k _ => ?_
    unfold byS bsL
    cases hk : S.testBit (pthN (chA l k)) with
    | false => rfl
    | true => simp only [key k hk]
  rw [e]
  rcases hq : nxtS l (bsL l S) at_ S with _ | b
  · rfl
  · simp only
    have h3 := (fmin_some hq).2.1
    unfold byS at h3
    rw [key b.1 (by
      cases hk : S.testBit (pthN (chA l b.1)) with
      | false => rw [hk] at h3; cases h3
      | true => rfl)]

theorem bst_zero (l : List PathV) (at_ : Pt) : bst l at_ 0 = ([], 0) := rfl

/-! ### travel, step by step -/

def travR (l : List PathV) : Pt → List Vis → Int
  | _, [] => 0
  | at_, v :: o => distP at_ (eA l v) + travR l (eB l v) o

theorem travS_from (l : List PathV) : ∀ (o : List Vis) (st : Pt) (n : Int), (o.foldl (fun a v => (eB l v, a.2 + distP a.1 (eA l v))) (st, n)).2 = n + travR l st o
  | [], st, n => by simp [travR]
  | v :: o, st, n => by
    rw [List.foldl_cons, travS_from l o]
    conv => rhs; unfold travR
    simp only; omega

theorem travS_R (l : List PathV) (st : Pt) (o : List Vis) : (travS l st o).2 = travR l st o := by
  unfold travS
  rw [travS_from]; omega

end Go.Bl

namespace Go.Bl
open Go Go.Proofs.YtgcfaamgilbjdaaGreatDoor

theorem clr_bit (S i j : Nat) : (clr S i).testBit j = (S.testBit j && !(i == j)) := by
  unfold clr
  cases h : S.testBit i with
  | false =>
    rw [if_neg (by simp)]
    by_cases e : i = j
    · subst e; rw [h]; rfl
    · rw [beq_eq_false_iff_ne.2 e]; simp
  | true =>
    rw [if_pos rfl]
    have h1 := Nat.ge_two_pow_of_testBit h
    have hS : S = (S - 2 ^ i) ^^^ 2 ^ i := by
      refine Nat.eq_of_testBit_eq fun q => ?_
      have hd : S = 2 ^ i * 1 + (S - 2 ^ i) := by omega
      rw [Nat.testBit_xor, Nat.testBit_two_pow]
      by_cases e : i = q
      · subst e
        have := Nat.testBit_two_pow_add_eq (S - 2 ^ i) i
        rw [show 2 ^ i + (S - 2 ^ i) = S by omega, h] at this
        simp at this
        rw [h, this]; simp
      · rw [decide_eq_false e, Bool.xor_false]
        rcases Nat.lt_or_ge q i with hq | hq
        · have := Nat.testBit_two_pow_add_gt hq (S - 2 ^ i)
          rw [show 2 ^ i + (S - 2 ^ i) = S by omega] at this
          exact this
        · rw [Nat.testBit_eq_decide_div_mod_eq, Nat.testBit_eq_decide_div_mod_eq]
          have hqi : i + 1 ≤ q := by omega
          obtain ⟨u, rfl⟩ : ∃ u, q = i + 1 + u := ⟨q - (i + 1), by omega⟩
          have e1 : 2 ^ (i + 1 + u) = 2 ^ (i + 1) * 2 ^ u := Nat.pow_add ..
          rw [e1, ← Nat.div_div_eq_div_mul, ← Nat.div_div_eq_div_mul]
          have h2 : S / 2 ^ (i + 1) = (S - 2 ^ i) / 2 ^ (i + 1) := by
            rw [Nat.testBit_eq_decide_div_mod_eq] at h
            have h3 : S / 2 ^ i % 2 = 1 := by simpa using h
            have h4 := Nat.div_add_mod S (2 ^ i)
            have h5 := Nat.mod_lt S (Nat.two_pow_pos i)
            have h6 := Nat.div_add_mod (S / 2 ^ i) 2
            have e2 : 2 ^ (i + 1) = 2 ^ i * 2 := Nat.pow_succ ..
            have h7 : S - 2 ^ i = 2 ^ i * (S / 2 ^ i - 1) + S % 2 ^ i := by
              have h9 : 2 ^ i * 1 ≤ 2 ^ i * (S / 2 ^ i) := Nat.mul_le_mul_left _ (by omega)
              rw [Nat.mul_sub, Nat.mul_one]; omega
            rw [e2, ← Nat.div_div_eq_div_mul, ← Nat.div_div_eq_div_mul]
            have h8 : (S - 2 ^ i) / 2 ^ i = S / 2 ^ i - 1 := by
              rw [h7, Nat.mul_add_div (Nat.two_pow_pos i), Nat.div_eq_of_lt h5]; rfl
            rw [h8]; omega
          rw [h2]
    conv => rhs; rw [hS]
    rw [Nat.testBit_xor, Nat.testBit_two_pow]
    by_cases e : i = j
    · subst e
      have := Nat.testBit_two_pow_add_eq (S - 2 ^ i) i
      rw [show 2 ^ i + (S - 2 ^ i) = S by omega, h] at this
      simp at this
      rw [this]; simp
    · rw [decide_eq_false e, beq_eq_false_iff_ne.2 e]; simp

theorem chV_path {p : PathV} {i : Nat} {v : Vis} (h : v ∈ chV p i) : v.path = (i : Int) := by
  unfold chV at h
  split at h
  · obtain ⟨k, _, rfl⟩ := List.mem_map.1 h
    rfl
  · simp only [List.mem_cons, List.not_mem_nil, or_false] at h
    rcases h with rfl | rfl <;> rfl

theorem chA_mem {l : List PathV} {k : Nat} (hk : k < (allC l).length) : ∃ i v, i < l.length ∧ v ∈ chV (l.getD i default) i ∧ chA l k = chO l v ∧ pthN (chA l k) = i := by
  have h1 : chA l k ∈ allC l := by
    unfold chA
    rw [List.getD_eq_getElem?_getD, List.getElem?_eq_getElem hk, Option.getD_some]
    exact List.getElem_mem hk
  unfold allC at h1
  obtain ⟨i, hi, h2⟩ := List.mem_flatMap.1 h1
  unfold chs at h2
  obtain ⟨v, hv, h3⟩ := List.mem_map.1 h2
  refine ⟨i, v, by simpa using hi, hv, h3.symm, ?_⟩
  rw [← h3]
  unfold pthN chO
  simp only [chV_path hv, Int.toNat_natCast]

theorem chA_of {l : List PathV} {i : Nat} {v : Vis} (hi : i < l.length) (hv : v ∈ chV (l.getD i default) i) : ∃ k, k < (allC l).length ∧ chA l k = chO l v ∧ pthN (chA l k) = i := by
  have h1 : chO l v ∈ allC l := List.mem_flatMap.2 ⟨i, by simpa using hi, List.mem_map.2 ⟨v, hv, rfl⟩⟩
  obtain ⟨k, hk, e⟩ := List.mem_iff_getElem.1 h1
  have h2 : chA l k = chO l v := by
    unfold chA
    rw [List.getD_eq_getElem?_getD, List.getElem?_eq_getElem hk, Option.getD_some]
    exact e
  refine ⟨k, hk, h2, ?_⟩
  rw [h2]
  unfold pthN chO
  simp only [chV_path hv, Int.toNat_natCast]

/-- an order of all paths of a set -/
def OrdS (l : List PathV) : Nat → List Vis → Prop
  | S, [] => S = 0
  | S, v :: o => ∃ i, i < l.length ∧ S.testBit i = true ∧ v ∈ chV (l.getD i default) i ∧ OrdS l (clr S i) o

theorem byS_some {l : List PathV} {lf : Nat → Int} {at_ : Pt} {S k : Nat} {n : Int} (h : byS l lf at_ S k = some n) : S.testBit (pthN (chA l k)) = true ∧ n = distP at_ (chA l k).a + lf k := by
  unfold byS at h
  cases hk : S.testBit (pthN (chA l k)) with
  | false => rw [hk] at h; cases h
  | true => rw [hk, if_pos rfl] at h; injection h with h; exact ⟨rfl, h.symm⟩

theorem byS_of {l : List PathV} {lf : Nat → Int} {at_ : Pt} {S k : Nat} (h : S.testBit (pthN (chA l k)) = true) : byS l lf at_ S k = some (distP at_ (chA l k).a + lf k) := if_pos h

theorem bst_min (l : List PathV) : ∀ (Q : List Vis) (at_ : Pt) (S : Nat), OrdS l S Q → (bst l at_ S).2 ≤ travR l at_ Q
  | [], at_, S, h => by
    have h : S = 0 := h
    subst h
    exact Int.le_refl _
  | v :: o, at_, S, ⟨i, hi, hb, hv, ho⟩ => by
    obtain ⟨k, hk, h1, h2⟩ := chA_of hi hv
    have h3 : byS l (bsL l S) at_ S k = some (distP at_ (chA l k).a + bsL l S k) := byS_of (by rw [h2]; exact hb)
    have ih := bst_min l o (eB l v) _ ho
    rw [bst_eq]
    rcases hq : nxtS l (bsL l S) at_ S with _ | b
    · rw [fmin_none hq k hk] at h3; cases h3
    · have h4 := ((fmin_some hq).2.2 k _ hk h3).1
      simp only
      unfold bsL at h4
      rw [h2, h1] at h4
      have h5 : (chO l v).a = eA l v := rfl
      have h6 : (chO l v).b = eB l v := rfl
      rw [h5, h6] at h4
      conv => rhs; unfold travR
      omega

theorem bst_ord {l : List PathV} (hne : ∀ i, i < l.length → chV (l.getD i default) i ≠ []) : ∀ (n S : Nat) (at_ : Pt), S ≤ n → S < 2 ^ l.length → OrdS l S (bst l at_ S).1 ∧ (bst l at_ S).2 = travR l at_ (bst l at_ S).1
  | n, S, at_, hn, hS => by
    rcases Nat.eq_zero_or_pos S with rfl | hp
    · exact ⟨rfl, rfl⟩
    · cases n with
      | zero => omega
      | succ n =>
      rw [bst_eq]
      rcases hq : nxtS l (bsL l S) at_ S with _ | b
      · exfalso
        obtain ⟨i, hi⟩ := Nat.exists_testBit_of_ne_zero (show S ≠ 0 by omega)
        have hil : i < l.length := by
          refine Classical.byContradiction fun hc => ?_
          have h1 := Nat.ge_two_pow_of_testBit hi
          have h2 := Nat.pow_le_pow_right (show 0 < 2 by decide) (show l.length ≤ i by omega)
          omega
        obtain ⟨v, hv⟩ := List.exists_mem_of_ne_nil _ (hne i hil)
        obtain ⟨k, hk, h1, h2⟩ := chA_of hil hv
        have h3 : byS l (bsL l S) at_ S k = some (distP at_ (chA l k).a + bsL l S k) := byS_of (by rw [h2]; exact hi)
        rw [fmin_none hq k hk] at h3; cases h3
      · obtain ⟨h1, h2, -⟩ := fmin_some hq
        obtain ⟨h3, h4⟩ := byS_some h2
        obtain ⟨i, v, hi, hv, h5, h6⟩ := chA_mem h1
        rw [h6] at h3
        have hlt := clr_lt h3
        obtain ⟨h7, h8⟩ := bst_ord hne n (clr S i) (chA l b.1).b (by omega) (by omega)
        simp only
        rw [h6]
        unfold bsL at h4
        rw [h6] at h4
        have h9 : (chA l b.1).v = v := by rw [h5]; rfl
        have h10 : (chA l b.1).b = eB l v := by rw [h5]; rfl
        have h11 : (chA l b.1).a = eA l v := by rw [h5]; rfl
        refine ⟨⟨i, hi, h3, by rw [h9]; exact hv, h7⟩, ?_⟩
        conv => rhs; unfold travR
        rw [h9, ← h10, ← h11, ← h8]
        exact h4

end Go.Bl

namespace Go.Bl
open Go Go.Proofs.YtgcfaamgilbjdaaGreatDoor

def cardS (n S : Nat) : Nat := ((List.range n).filter fun i => S.testBit i).length

theorem cardS_succ (n S : Nat) : cardS (n + 1) S = cardS n S + if S.testBit n then 1 else 0 := by
  unfold cardS
  rw [List.range_succ, List.filter_append, List.length_append]
  congr 1
  cases h : S.testBit n <;> simp [h]

theorem cardS_clr {S i : Nat} (h : S.testBit i = true) : ∀ n, cardS n (clr S i) + (if i < n then 1 else 0) = cardS n S
  | 0 => by simp [cardS]
  | n + 1 => by
    have ih := cardS_clr h n
    rw [cardS_succ, cardS_succ, clr_bit]
    by_cases e : i = n
    · subst e
      rw [h]
      rw [if_neg (by omega)] at ih
      simp; omega
    · rw [beq_eq_false_iff_ne.2 e]
      by_cases e2 : i < n
      · have hn : i < n + 1 := by omega
        rw [if_pos e2] at ih
        rw [if_pos hn]
        simp only [Bool.not_false, Bool.and_true]; omega
      · have hn : ¬ i < n + 1 := by omega
        rw [if_neg e2] at ih
        rw [if_neg hn]
        simp only [Bool.not_false, Bool.and_true]; omega

theorem cardS_zero {S : Nat} : ∀ {n}, cardS n S = 0 → ∀ i, i < n → S.testBit i = false
  | 0, _, i, hi => by omega
  | n + 1, h, i, hi => by
    rw [cardS_succ] at h
    by_cases e : i = n
    · subst e
      cases hb : S.testBit i with
      | false => rfl
      | true => rw [hb] at h; simp at h
    · exact cardS_zero (n := n) (by omega) i (by omega)

theorem zero_bits {S n : Nat} (hS : S < 2 ^ n) (h : ∀ i, i < n → S.testBit i = false) : S = 0 := by
  refine Nat.eq_of_testBit_eq fun i => ?_
  rw [Nat.zero_testBit]
  by_cases hi : i < n
  · exact h i hi
  · exact Nat.testBit_lt_two_pow (Nat.lt_of_lt_of_le hS (Nat.pow_le_pow_right (by decide) (by omega)))

theorem ord_len {l : List PathV} : ∀ {o : List Vis} {S : Nat}, OrdS l S o → o.length = cardS l.length S
  | [], S, h => by
    have h : S = 0 := h
    subst h
    have e : (List.range l.length).filter (fun i => Nat.testBit 0 i) = [] := List.filter_eq_nil_iff.2 (by simp)
    unfold cardS
    rw [e]; rfl
  | v :: o, S, ⟨i, hi, hb, _, ho⟩ => by
    have h1 := cardS_clr hb l.length
    rw [if_pos hi] at h1
    rw [List.length_cons, ord_len ho, h1]

theorem ord_vis {l : List PathV} : ∀ {o : List Vis} {S : Nat}, OrdS l S o → ∀ v ∈ o, ∃ i, i < l.length ∧ v ∈ chV (l.getD i default) i
  | [], _, _, v, hv => by simp at hv
  | x :: o, S, ⟨i, hi, _, hx, ho⟩, v, hv => by
    rcases List.mem_cons.1 hv with rfl | hv
    · exact ⟨i, hi, hx⟩
    · exact ord_vis ho v hv

def Seen (n : Nat) (b : List Vis) (S : Nat) : Prop := ∀ i, i < n → S.testBit i = !hasP b (i : Int)

theorem Seen.snoc {n : Nat} {b : List Vis} {S i : Nat} {v : Vis} (h : Seen n b S) (hv : v.path = (i : Int)) : Seen n (b ++ [v]) (clr S i) := by
  intro j hj
  have e1 : hasP (b ++ [v]) (j : Int) = (hasP b (j : Int) || (v.path == (j : Int))) := by unfold hasP; rw [List.any_append]; simp
  have e2 : (v.path == (j : Int)) = (i == j) := by
    rw [hv]
    by_cases e : i = j
    · subst e; simp
    · rw [beq_eq_false_iff_ne.2 e, beq_eq_false_iff_ne]
      exact fun h => e (Int.ofNat.inj h)
  rw [clr_bit, h j hj, e1, e2]
  cases hasP b (j : Int) <;> cases (i == j) <;> rfl

theorem visitF_in {l : List PathV} {b : List Vis} {v : Vis} {i : Nat} (hi : i < l.length) (hv : v.path = (i : Int)) (hb : hasP b (i : Int) = false) : visitF l b v = formF (l.getD i default) v := by
  unfold visitF
  rw [if_neg (by rw [hv]; simp [inB]; omega), hv, hb, if_neg (by simp), Int.toNat_natCast]

theorem visits_of_ord {l : List PathV} (hform : ∀ i, i < l.length → ∀ v ∈ chV (l.getD i default) i, formF (l.getD i default) v = 0) : ∀ {o b : List Vis} {S : Nat}, OrdS l S o → Seen l.length b S → visitsF l b o = 0
  | [], _, _, _, _ => rfl
  | v :: o, b, S, ⟨i, hi, hb, hv, ho⟩, hs => by
    have hp := chV_path hv
    have h1 : hasP b (i : Int) = false := by
      have := hs i hi
      rw [hb] at this
      cases hq : hasP b (i : Int) with
      | false => rfl
      | true => rw [hq] at this; cases this
    have h2 := visits_of_ord hform ho (hs.snoc hp)
    show orS (visitF l b v) (visitsF l (b ++ [v]) o) = 0
    rw [h2, visitF_in hi hp h1, hform i hi v hv]; rfl

theorem form_mem {p : PathV} {i : Nat} {v : Vis} (hp : v.path = (i : Int)) (h : formF p v = 0) : v ∈ chV p i := by
  rw [formF_eq] at h
  split at h
  · cases h
  · rename_i hc
    unfold spanF at h
    have h0 : 0 ≤ v.start ∧ v.start ≤ (p.pts.length : Int) - 1 := by
      rcases hq : outB v.start 0 (p.pts.length - 1) with _ | _
      · simp [outB] at hq; omega
      · rw [hq] at h; simp at h
    obtain ⟨s, hs⟩ := Int.eq_ofNat_of_zero_le h0.1
    have hv : v = ⟨i, s, v.back⟩ := by cases v; simp_all
    unfold chV
    cases hcl : p.cl with
    | true =>
      rw [if_pos rfl]
      have hb : v.back = false := by
        cases hq : v.back with
        | false => rfl
        | true => rw [hcl, hq] at hc; simp at hc
      rw [hv, hb]
      exact List.mem_map.2 ⟨s, by simp; omega, rfl⟩
    | false =>
      rw [if_neg (by simp)]
      have hz : s = 0 := by
        rw [hcl] at hc
        simp at hc
        omega
      subst hz
      rw [hv]
      cases v.back <;> simp

theorem ord_of_visits {l : List PathV} : ∀ {o b : List Vis} {S : Nat}, visitsF l b o = 0 → Seen l.length b S → S < 2 ^ l.length → o.length = cardS l.length S → OrdS l S o
  | [], b, S, _, _, hS, hl => zero_bits hS (cardS_zero hl.symm)
  | v :: o, b, S, h, hs, hS, hl => by
    obtain ⟨h1, h2⟩ := orS_eq_zero (show orS (visitF l b v) (visitsF l (b ++ [v]) o) = 0 from h)
    unfold visitF at h1
    split at h1
    · cases h1
    · rename_i hin
      split at h1
      · cases h1
      · rename_i hh
        have hr : 0 ≤ v.path ∧ v.path < l.length := by
          simp [inB] at hin; omega
        obtain ⟨i, hi⟩ := Int.eq_ofNat_of_zero_le hr.1
        have hil : i < l.length := by omega
        rw [hi, Int.toNat_natCast] at h1
        have hb : S.testBit i = true := by
          rw [hs i hil, ← hi]
          simpa using hh
        have hc := cardS_clr hb l.length
        rw [if_pos hil] at hc
        refine ⟨i, hil, hb, form_mem hi h1, ord_of_visits h2 (hs.snoc hi) (by have := clr_lt hb; omega) ?_⟩
        rw [List.length_cons] at hl
        omega

theorem Seen.all (n : Nat) : Seen n [] (2 ^ n - 1) := fun i hi => by
  rw [Nat.testBit_two_pow_sub_one, decide_eq_true hi]; rfl

theorem cardS_all (n : Nat) : cardS n (2 ^ n - 1) = n := by
  have : ∀ m, m ≤ n → cardS m (2 ^ n - 1) = m := fun m => by
    induction m with
    | zero => intro _; simp [cardS]
    | succ m ih =>
      intro h
      rw [cardS_succ, ih (by omega), Nat.testBit_two_pow_sub_one, decide_eq_true (by omega)]; rfl
  exact this n (Nat.le_refl _)

theorem order_iff {l : List PathV} {o : List Vis} (hp : pathsF l = 0) (hform : ∀ i, i < l.length → ∀ v ∈ chV (l.getD i default) i, formF (l.getD i default) v = 0) : orderF l o = 0 ↔ OrdS l (2 ^ l.length - 1) o := by
  have hlt : 2 ^ l.length - 1 < 2 ^ l.length := by have := Nat.two_pow_pos l.length; omega
  unfold orderF
  constructor
  · intro h
    obtain ⟨-, h1⟩ := orS_eq_zero h
    split at h1
    · cases h1
    · rename_i hl
      exact ord_of_visits h1 (Seen.all _) hlt (by rw [cardS_all]; omega)
  · intro h
    have h1 := ord_len h
    rw [cardS_all] at h1
    rw [hp, if_neg (by omega), visits_of_ord hform h (Seen.all _)]; rfl

end Go.Bl

namespace Go.Bl
open Go Go.Proofs.YtgcfaamgilbjdaaGreatDoor

def visOf (k : Int) : Vis := ⟨k, 0, false⟩

def idxV (n : Nat) (b : List Vis) (v : Vis) : Int := if ¬ (0 ≤ v.path ∧ v.path < n) then 1 else if hasP b v.path then 6 else 0

theorem idxV_in {n : Nat} {b : List Vis} {v : Vis} (h : 0 ≤ v.path ∧ v.path < n) : idxV n b v = if hasP b v.path then 6 else 0 := if_neg (fun h2 => h2 h)

theorem idxV_out {n : Nat} {b : List Vis} {v : Vis} (h : ¬ (0 ≤ v.path ∧ v.path < n)) : idxV n b v = 1 := if_pos h

def idxS (n : Nat) : List Vis → List Vis → Int
  | _, [] => 0
  | b, v :: o => orS (idxV n b v) (idxS n (b ++ [v]) o)

theorem idxS_drop (n : Nat) {o : List Vis} {k : Nat} (h : k < o.length) : idxS n (o.take k) (o.drop k) = orS (idxV n (o.take k) o[k]) (idxS n (o.take (k + 1)) (o.drop (k + 1))) := by
  rw [List.drop_eq_getElem_cons h, take_snoc h]; rfl
/-- the error of a list of all indices below n -/
def idxF (n : Nat) (o : List Int) : Int := if o.length ≠ n then 3 else idxS n [] (o.map visOf)

end Go.Bl
namespace Go.Proofs.YtgcfaamgilbjdaaGreatDoor
open Go Go.RowKit Go.Bl

set_option maxHeartbeats 1000000 in
set_option maxRecDepth 100000 in
theorem indicesFault_any (n : Nat) (B : Option Addr) (d : Nat) (o : List Int) (w : World) (ho : Sl w 0 B o) (hll : n ≤ 200) :
    Calls Tryz.prog 22 #[.int .i64 n, .slice B o.length d] w fun e w' => e = .returned (.int .i64 (idxF n o)) ∧ w.grownBy w' none := by
  unfold idxF
  by_cases hol : o.length = n
  · rw [if_neg (by simp [hol])]
    have hnl : ((o.length : Int) != n) = false := by simp [hol]
    obtain ⟨V, hV⟩ : ∃ V : Int, V = idxS n [] (o.map visOf) := ⟨_, rfl⟩
    rw [← hV]
    have hol2 : o.length ≤ 200 := by omega
    replace hV := hide hV
    replace hol := hide hol
    obtain ⟨i0, hi, hz, h1, h2⟩ := info_parts info_boolP
    obtain ⟨w1, hrun, hown, hg1⟩ := run_makeOwn (P := Tryz.prog) w 63 4 i0 _ false Tryz.underlying63 hi hz h1 rfl rfl .i64 .i64 n (by rw [h2]; omega) (by simp [maxLen]; omega)
    rw [← seenL_nil] at hown
    go_enter Tryz.func22, Tryz.ntmps22
    go_wp2_with fail
    clear hrun
    go_loopw [16] (fun i wr => ∃ k : Nat, k ≤ o.length ∧ i = .int .i64 k ∧ w.grownBy wr none ∧ Own wr w.heap.size 4 (some ⟨w.heap.size, 0, none⟩) n (seenL n ((o.map visOf).take k)) ∧ Hid (idxS n ((o.map visOf).take k) ((o.map visOf).drop k) = V)) (fun i _ => o.length - (intOf i).toNat)
    case atStart => exact ⟨0, Nat.zero_le _, rfl, hg1, hown, hV.out.symm⟩
    case round =>
      obtain ⟨k, hk, rfl, hg, hown, hdr⟩ := hrel
      by_cases hlt : k < o.length
      · have hltv : k < (o.map visOf).length := by rw [List.length_map]; exact hlt
        obtain ⟨g, of, cx, rfl, hb0, hb1, rfl, hc⟩ := (ho.pure hg).at_ (by decide) hlt
        have v0 : wr.cell? ⟨g, of + k, none⟩ = some (.int .i64 o[k]) := by
          have := hc 0 _ rfl
          rwa [show Enc.sz Int = 1 from rfl, Nat.mul_one, Nat.add_zero] at this
        clear hc
        have HS := idxS_drop n hltv
        have hsz : w.heap.size < wr.heap.size := (hown.blk_lt (g := w.heap.size) rfl).2
        have HSet : ∀ i : Nat, (o.map visOf)[k].path = (i : Int) → seenL n ((o.map visOf).take (k + 1)) = (seenL n ((o.map visOf).take k)).set i true := fun i hi => seenL_set hltv hi
        rw [List.getElem_map] at HS
        simp only [List.getElem_map] at HSet
        generalize o[k] = v at *
        rw [hdr.out] at HS
        have HX : ∀ x, idxV n ((o.map visOf).take k) (visOf v) = x → (x ≠ 0 → x = V) ∧ (x = 0 → idxS n ((o.map visOf).take (k + 1)) ((o.map visOf).drop (k + 1)) = V) := fun x hx => by
          rw [hx] at HS
          exact ⟨fun h => by rw [orS_ne h] at HS; exact HS.symm, fun h => by rw [orS_zero h] at HS; exact HS.symm⟩
        clear HS hltv
        by_cases hin : 0 ≤ v ∧ v < n
        · obtain ⟨j, rfl⟩ := Int.eq_ofNat_of_zero_le hin.1
          have hjl : j < n := by omega
          have hjs : j < (seenL n ((o.map visOf).take k)).length := by rw [seenL_len]; exact hjl
          have s0 := hown.cell_bool hjs
          rw [seenL_get] at s0
          have f0 := hown.frozen j
          have hset := hown.set_bool hjs true
          rw [← HSet j rfl] at hset
          rcases hh : hasP ((o.map visOf).take k) j with _ | _
          · have HT := hide ((HX 0 ((idxV_in (v := visOf j) hin).trans (by rw [show (visOf (j : Int)).path = (j : Int) from rfl, hh]; rfl))).2 rfl)
            rw [hh] at s0
            replace hset := hide hset
            clear HSet hjs HX
            have hgs := gr_set hg (.inr (Nat.le_refl _)) (p := ⟨w.heap.size, j, none⟩) (.bool true)
            go_wp2_with fail
            (go_roundw; (case rel => exact ⟨k + 1, by omega, by go_num, hgs, hset.out, HT⟩); (case measure => simp [intOf]; omega))
          · have HT : Hid (6 = V) := (HX 6 ((idxV_in (v := visOf j) hin).trans (by rw [show (visOf (j : Int)).path = (j : Int) from rfl, hh]; rfl))).1 (by decide)
            rw [hh] at s0
            clear HX HSet hset
            go_wp2_with fail
            go_ret
            exact ⟨ret_int HT.out, (by repeat (first | exact World.grownBy.refl _ _ | assumption | refine gr_alloc ?_ _ | (apply gr_tail; assumption) | refine gr_drewN ?_ _ | refine gr_drew ?_))⟩
        · have HT : Hid (1 = V) := (HX 1 (idxV_out (v := visOf v) hin)).1 (by decide)
          have hin2 : v < 0 ∨ n ≤ v := by omega
          clear HX HSet hin
          go_wp2_with fail
          all_goals first
            | (go_ret; exact ⟨ret_int HT.out, (by repeat (first | exact World.grownBy.refl _ _ | assumption | refine gr_alloc ?_ _ | (apply gr_tail; assumption) | refine gr_drewN ?_ _ | refine gr_drew ?_))⟩)
            | (exfalso; omega)
      · have HB : Hid (0 = V) := by rw [Hid, ← hdr.out, List.drop_of_length_le (by rw [List.length_map]; omega)]; rfl
        go_wp2
        go_ret
        exact ⟨ret_int HB.out, hg⟩
  · rw [if_pos hol]
    have hnl : ((o.length : Int) != n) = true := by simp; omega
    clear hol
    go_enter Tryz.func22, Tryz.ntmps22
    go_wp2_with fail
    go_ret
    exact ⟨rfl, World.grownBy.refl _ _⟩

end Go.Proofs.YtgcfaamgilbjdaaGreatDoor

namespace Go.Bl
open Go Go.Proofs.YtgcfaamgilbjdaaGreatDoor

theorem idxS_zero {n : Nat} : ∀ {o : List Int} {b : List Vis}, (∀ k ∈ o, 0 ≤ k ∧ k < n) → o.Nodup → (∀ k ∈ o, hasP b k = false) → idxS n b (o.map visOf) = 0
  | [], _, _, _, _ => rfl
  | k :: o, b, h1, h2, h3 => by
    obtain ⟨h4, h5⟩ := List.nodup_cons.1 h2
    have hk := h1 k (List.mem_cons_self ..)
    have hb := h3 k (List.mem_cons_self ..)
    have e1 : idxV n b (visOf k) = 0 := (idxV_in (v := visOf k) hk).trans (by rw [show (visOf k).path = k from rfl, hb]; rfl)
    have e2 : idxS n (b ++ [visOf k]) (o.map visOf) = 0 := idxS_zero (fun x hx => h1 x (List.mem_cons_of_mem _ hx)) h5 fun x hx => by
      have hx1 := h3 x (List.mem_cons_of_mem _ hx)
      have hne : k ≠ x := by rintro rfl; exact h4 hx
      unfold hasP at hx1 ⊢
      rw [List.any_append, hx1]
      simp [visOf, hne]
    show orS (idxV n b (visOf k)) (idxS n (b ++ [visOf k]) (o.map visOf)) = 0
    rw [e1, e2]; rfl

theorem idxF_perm {n : Nat} {o : List Int} (h : o.Perm ((List.range n).map Int.ofNat)) : idxF n o = 0 := by
  unfold idxF
  have hl := h.length_eq
  simp only [List.length_map, List.length_range] at hl
  rw [if_neg (by simp [hl])]
  refine idxS_zero (fun k hk => ?_) (h.nodup_iff.2 ?_) (fun _ _ => rfl)
  · obtain ⟨i, hi, rfl⟩ := List.mem_map.1 (h.mem_iff.1 hk)
    have := List.mem_range.1 hi
    exact ⟨Int.natCast_nonneg _, by simp; exact this⟩
  · rw [List.nodup_iff_pairwise_ne, List.pairwise_map]
    exact List.Pairwise.imp (fun hne e => hne (Int.ofNat.inj e)) (List.nodup_iff_pairwise_ne.1 List.nodup_range)

end Go.Bl

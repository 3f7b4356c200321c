/- Contracts of functions that this seat's laws reach, each: what one call returns and what it leaves in memory; no condition beyond each theorem's own hypotheses. -/
import Derived.Test.YtcaaephphefncaaPathH
set_option linter.unusedVariables false
set_option linter.unusedSimpArgs false
namespace Go.Bl
open Go Go.Proofs.Ytcaaephphefncaa
def endA (p : PathV) (s : Nat) (b : Bool) : Pt := if p.cl then p.pts.getD s default else if b then p.pts.getD (p.pts.length - 1) default else p.pts.getD 0 default
def endB (p : PathV) (s : Nat) (b : Bool) : Pt := if p.cl then p.pts.getD s default else if b then p.pts.getD 0 default else p.pts.getD (p.pts.length - 1) default
theorem headD_getD {α : Type} (l : List α) (d : α) : l.headD d = l.getD 0 d := by cases l <;> rfl
theorem lastD_getD {α : Type} (l : List α) (d : α) : l.getLastD d = l.getD (l.length - 1) d := by
  rw [List.getLastD_eq_getLast?, List.getLast?_eq_getElem?]; rfl
theorem turned_A {p : PathV} {s : Nat} {b : Bool} {k : Int} (h : VOk p s b) : (turned p ⟨k, s, b⟩).headD default = endA p s b := by
  obtain ⟨h1, _, h3, _, h5⟩ := h
  rw [headD_getD]
  unfold turned endA
  simp only [Int.toNat_natCast]
  by_cases hc : p.cl = true
  · rw [if_pos hc, if_pos hc]
    simp [List.getD, List.getElem?_append, h3, show 0 < p.pts.length - s by omega]
  · rw [if_neg hc, if_neg hc]
    have hs := h5 (by simpa using hc)
    subst hs
    cases b
    · simp
    · simp [List.getD, List.getElem?_reverse, h3, show p.pts.length - 1 < p.pts.length by omega]
theorem turned_B {p : PathV} {s : Nat} {b : Bool} {k : Int} (h : VOk p s b) : (turned p ⟨k, s, b⟩).getLastD default = endB p s b := by
  obtain ⟨h1, _, h3, _, h5⟩ := h
  rw [lastD_getD]
  unfold turned endB
  simp only [Int.toNat_natCast]
  by_cases hc : p.cl = true
  · rw [if_pos hc, if_pos hc]
    have hl : (p.pts.drop s ++ p.pts.take s).length = p.pts.length := by simp; omega
    have ht : ((p.pts.drop s ++ p.pts.take s).take 1).length = 1 := by rw [List.length_take, hl]; omega
    rw [List.length_append, hl, ht, List.getD, List.getElem?_append_right (by rw [hl]; omega), hl, show p.pts.length + 1 - 1 - p.pts.length = 0 by omega, List.getElem?_take, if_pos (by omega), List.getElem?_append_left (by simp; omega), List.getElem?_drop]
    rfl
  · rw [if_neg hc, if_neg hc]
    have hs := h5 (by simpa using hc)
    subst hs
    cases b
    · simp
    · simp only [List.drop_zero, List.take_zero, List.append_nil, List.length_reverse, if_true]
      rw [List.getD, List.getElem?_reverse (by omega), show p.pts.length - 1 - (p.pts.length - 1) = 0 by omega]
      rfl
theorem near_pts {p : PathV} {s : Nat} {b : Bool} (h : VOk p s b) {i : Nat} (hi : i < p.pts.length) : near (p.pts.getD i default) := by
  have e : p.pts.getD i default = p.pts[i] := by simp [List.getD, hi]
  rw [e]
  exact near_of (h.2.1 _ (List.getElem_mem _))
theorem near_A {p : PathV} {s : Nat} {b : Bool} (h : VOk p s b) : near (endA p s b) := by
  have h3 := h.2.2.1
  unfold endA
  split
  · exact near_pts h h3
  · split <;> exact near_pts h (by omega)
theorem near_B {p : PathV} {s : Nat} {b : Bool} (h : VOk p s b) : near (endB p s b) := by
  have h3 := h.2.2.1
  unfold endB
  split
  · exact near_pts h h3
  · split <;> exact near_pts h (by omega)

/-- a visit that is right among these paths -/
def VisOk (l : List PathV) (v : Vis) : Prop := ∃ (k s : Nat) (hk : k < l.length), v.path = (k : Int) ∧ v.start = (s : Int) ∧ VOk l[k] s v.back
theorem pathF_zero {p : PathV} (h : pathF p = 0) : 0 < p.pts.length ∧ p.pts.length ≤ 500 ∧ ∀ q ∈ p.pts, farP q = false := by
  unfold pathF at h
  split at h
  · cases h
  · split at h
    · cases h
    · split at h
      · cases h
      · split at h
        · cases h
        · rename_i h1 h2 _ h4
          refine ⟨by omega, by omega, fun q hq => ?_⟩
          rcases hf : farP q with _ | _
          · rfl
          · exact absurd (List.any_eq_true.2 ⟨q, hq, hf⟩) h4
theorem orL_zero {l : List Int} (h : orL l = 0) : ∀ x ∈ l, x = 0 := by
  induction l with
  | nil => simp
  | cons y l ih =>
    unfold orL at h
    split at h
    · rename_i hy; exact absurd h hy
    · rename_i hy
      intro x hx
      rcases List.mem_cons.1 hx with rfl | hx
      · simpa using hy
      · exact ih h x hx
theorem pathsF_zero {l : List PathV} (h : pathsF l = 0) : l.length ≤ 200 ∧ ∀ p ∈ l, pathF p = 0 := by
  unfold pathsF at h
  split at h
  · cases h
  · exact ⟨by omega, fun p hp => orL_zero h _ (List.mem_map_of_mem hp)⟩
theorem formF_zero {p : PathV} {v : Vis} (h : formF p v = 0) (hp : pathF p = 0) : ∃ s : Nat, v.start = s ∧ VOk p s v.back := by
  obtain ⟨h1, h2, h3⟩ := pathF_zero hp
  rw [formF_eq] at h
  split at h
  · cases h
  · rename_i hg
    have hs := spanF_zero h
    obtain ⟨s, hs2⟩ := Int.eq_ofNat_of_zero_le hs.1
    refine ⟨s, hs2, h2, h3, by omega, fun hc => ?_, fun hc => ?_⟩
    · rcases hb : v.back with _ | _
      · rfl
      · exact absurd (by simp [hc, hb]) hg
    · by_cases h0 : v.start = 0
      · omega
      · exact absurd (by simp [hc, h0]) hg
theorem visitF_zero {l : List PathV} {b : List Vis} {v : Vis} (h : visitF l b v = 0) (hp : pathsF l = 0) : VisOk l v := by
  unfold visitF at h
  split at h
  · cases h
  · rename_i hin
    split at h
    · cases h
    · have hin2 : 0 ≤ v.path ∧ v.path ≤ l.length - 1 := by simpa [inB] using hin
      obtain ⟨k, hk⟩ := Int.eq_ofNat_of_zero_le hin2.1
      have hkl : k < l.length := by omega
      rw [hk] at h
      have e : l.getD (k : Int).toNat default = l[k] := by simp [List.getD, hkl]
      rw [e] at h
      obtain ⟨s, h1, h2⟩ := formF_zero h ((pathsF_zero hp).2 _ (List.getElem_mem _))
      exact ⟨k, s, hkl, hk, h1, h2⟩
theorem oneF_zero {l : List PathV} {v : Vis} (h : oneF l v = 0) : VisOk l v := by
  obtain ⟨h1, h2⟩ := orS_eq_zero h
  exact visitF_zero h2 h1
theorem visitsF_zero {l : List PathV} (hp : pathsF l = 0) : ∀ {o b : List Vis}, visitsF l b o = 0 → ∀ v ∈ o, VisOk l v
  | [], _, _ => by simp
  | x :: o, b, h => by
    obtain ⟨h1, h2⟩ := orS_eq_zero h
    intro v hv
    rcases List.mem_cons.1 hv with rfl | hv
    · exact visitF_zero h1 hp
    · exact visitsF_zero hp h2 v hv
theorem orderF_zero {l : List PathV} {o : List Vis} (h : orderF l o = 0) : l.length ≤ 200 ∧ o.length = l.length ∧ ∀ v ∈ o, VisOk l v := by
  obtain ⟨h1, h2⟩ := orS_eq_zero h
  split at h2
  · cases h2
  · rename_i hl
    exact ⟨(pathsF_zero h1).1, by simpa using hl, visitsF_zero h1 h2⟩

def eA (l : List PathV) (v : Vis) : Pt := endA (l.getD v.path.toNat default) v.start.toNat v.back
def eB (l : List PathV) (v : Vis) : Pt := endB (l.getD v.path.toNat default) v.start.toNat v.back
theorem eA_of {l : List PathV} {k s : Nat} {b : Bool} (hk : k < l.length) : eA l ⟨k, s, b⟩ = endA l[k] s b := by simp [eA, List.getD, hk]
theorem eB_of {l : List PathV} {k s : Nat} {b : Bool} (hk : k < l.length) : eB l ⟨k, s, b⟩ = endB l[k] s b := by simp [eB, List.getD, hk]
def travS (l : List PathV) (st : Pt) (o : List Vis) : Pt × Int := o.foldl (fun a v => (eB l v, a.2 + distP a.1 (eA l v))) (st, 0)
theorem travS_snoc (l : List PathV) (st : Pt) (o : List Vis) (v : Vis) : travS l st (o ++ [v]) = (eB l v, (travS l st o).2 + distP (travS l st o).1 (eA l v)) := by unfold travS; rw [List.foldl_append]; rfl
theorem VisOk.nA {l : List PathV} {v : Vis} (h : VisOk l v) : near (eA l v) := by
  obtain ⟨k, s, hk, h1, h2, h3⟩ := h
  obtain ⟨vp, vs, vb⟩ := v
  simp only at h1 h2 h3
  subst h1; subst h2
  rw [eA_of hk]; exact near_A h3
theorem VisOk.nB {l : List PathV} {v : Vis} (h : VisOk l v) : near (eB l v) := by
  obtain ⟨k, s, hk, h1, h2, h3⟩ := h
  obtain ⟨vp, vs, vb⟩ := v
  simp only at h1 h2 h3
  subst h1; subst h2
  rw [eB_of hk]; exact near_B h3
theorem travS_bd {l : List PathV} {st : Pt} (hst : near st) : ∀ {o : List Vis}, (∀ v ∈ o, VisOk l v) → ∀ k, k ≤ o.length → near (travS l st (o.take k)).1 ∧ 0 ≤ (travS l st (o.take k)).2 ∧ (travS l st (o.take k)).2 ≤ k * 200000 := by
  intro o ho k
  induction k with
  | zero => intro _; exact ⟨hst, by simp [travS], by simp [travS]⟩
  | succ k ih =>
    intro hk
    obtain ⟨h1, h2, h3⟩ := ih (by omega)
    rw [take_snoc (show k < o.length by omega), travS_snoc]
    have hv := ho o[k] (List.getElem_mem _)
    have := distP_bd h1 hv.nA
    refine ⟨hv.nB, ?_, ?_⟩ <;> simp only <;> omega
end Go.Bl
namespace Go.Proofs.Ytcaaephphefncaa
open Go.RowKit Go.Bl

theorem endsRef_any (A : Option Addr) (c : Nat) (l : List PathV) (v : Vis) (w : World) (hl : Sl w 0 A l) (hv : VisOk l v) :
    Calls Try.prog 16 #[.slice A l.length c, .agg #[.int .i64 v.path, .int .i64 v.start, .bool v.back]] w (PPair (eA l v) (eB l v) w) := by
  obtain ⟨k, s, hk, h1, h2, h3⟩ := hv
  obtain ⟨vp, vs, vb⟩ := v
  simp only at h1 h2 h3
  subst h1; subst h2
  rw [eA_of hk, eB_of hk, ← turned_A (k := k) h3, ← turned_B (k := k) h3]
  exact endsOf_any A c l k s vb w hl hk h3

set_option maxHeartbeats 2000000 in
theorem ends_any (A : Option Addr) (c : Nat) (l : List PathV) (v : Vis) (w : World) (hl : Sl w 0 A l) (hv : VisOk l v) :
    Calls Try.prog 46 #[.slice A l.length c, .agg #[.int .i64 v.path, .int .i64 v.start, .bool v.back]] w (PPair (eA l v) (eB l v) w) := by
  have hm := hl.1
  unfold maxLen at hm
  obtain ⟨k, s, hk, h1, h2, h3⟩ := hv
  obtain ⟨vp, vs, vb⟩ := v
  simp only at h1 h2 h3
  subst h1; subst h2
  obtain ⟨g, o, cx, rfl, hb0, hb1, ⟨A', c', rfl, hcp, hpts⟩, hc⟩ := hl.at_ (by decide) hk
  have c0 : w.cell? ⟨g, o + k * 2, none⟩ = some (.slice A' l[k].pts.length c') := hc 0 _ rfl
  have c1 : w.cell? ⟨g, o + k * 2 + 1, none⟩ = some (.bool l[k].cl) := hc 1 _ rfl
  clear hc
  rw [eA_of hk, eB_of hk]
  obtain ⟨hv1, hv2, hv3, hv4, hv5⟩ := h3
  obtain ⟨m, hm1⟩ : ∃ m : Nat, l[k].pts.length = m + 1 := ⟨l[k].pts.length - 1, by omega⟩
  obtain ⟨g', o', cx, rfl, hb0', hb1', rfl, hc⟩ := hpts.at_ (by decide) hv3
  have p0 : w.cell? ⟨g', o' + s * 2, none⟩ = some (.int .i64 l[k].pts[s].x) := hc 0 _ rfl
  have p1 : w.cell? ⟨g', o' + s * 2 + 1, none⟩ = some (.int .i64 l[k].pts[s].y) := hc 1 _ rfl
  clear hc
  obtain ⟨g2, o2, cx, e2, _, _, rfl, hc⟩ := hpts.at_ (k := 0) (by decide) (by omega)
  injection e2 with e2; injection e2 with e2 e3; subst e2; subst e3
  have q0 : w.cell? ⟨g', o', none⟩ = some (.int .i64 (l[k].pts[0]'(by omega)).x) := by have := hc 0 _ rfl; rwa [Nat.zero_mul] at this
  have q1 : w.cell? ⟨g', o' + 1, none⟩ = some (.int .i64 (l[k].pts[0]'(by omega)).y) := by have := hc 1 _ rfl; rwa [Nat.zero_mul, Nat.add_zero] at this
  clear hc
  obtain ⟨g2, o2, cx, e2, _, _, rfl, hc⟩ := hpts.at_ (k := m) (by decide) (by omega)
  injection e2 with e2; injection e2 with e2 e3; subst e2; subst e3
  have r0 : w.cell? ⟨g', o' + m * 2, none⟩ = some (.int .i64 (l[k].pts[m]'(by omega)).x) := hc 0 _ rfl
  have r1 : w.cell? ⟨g', o' + m * 2 + 1, none⟩ = some (.int .i64 (l[k].pts[m]'(by omega)).y) := hc 1 _ rfl
  clear hc
  have HA : Hid (endA l[k] s vb = if l[k].cl then l[k].pts[s] else if vb then l[k].pts[m]'(by omega) else l[k].pts[0]'(by omega)) := by
    simp [Hid, endA, List.getD, hm1, hv3, show s < m + 1 by omega]
  have HB : Hid (endB l[k] s vb = if l[k].cl then l[k].pts[s] else if vb then l[k].pts[0]'(by omega) else l[k].pts[m]'(by omega)) := by
    simp [Hid, endB, List.getD, hm1, hv3, show s < m + 1 by omega]
  generalize l[k].pts[s] = Ps at *
  generalize l[k].pts[0]'_ = P0 at *
  generalize l[k].pts[m]'_ = Pm at *
  generalize hcl : l[k].cl = cl at *
  generalize endA l[k] s vb = EA at *
  generalize endB l[k] s vb = EB at *
  rw [hm1] at hv1 hv3 hcp c0
  generalize l[k] = p at *
  clear hm1 hv2 hv4 hv5 hpts hcl p
  have A0 := Cell.new (w.alloc (.cells #[.int .i64 k, .int .i64 s, .bool vb] 34)) [.int .i64 0, .int .i64 0] 27 0 _ rfl (w.heap.size + 1) (by simp)
  have A1 := Cell.new (w.alloc (.cells #[.int .i64 k, .int .i64 s, .bool vb] 34)) [.int .i64 0, .int .i64 0] 27 1 _ rfl (w.heap.size + 1) (by simp)
  have B0 := Cell.new ((w.alloc (.cells #[.int .i64 k, .int .i64 s, .bool vb] 34)).alloc (.cells #[.int .i64 0, .int .i64 0] 27)) [.int .i64 0, .int .i64 0] 27 0 _ rfl (w.heap.size + 1 + 1) (by simp)
  have B1 := Cell.new ((w.alloc (.cells #[.int .i64 k, .int .i64 s, .bool vb] 34)).alloc (.cells #[.int .i64 0, .int .i64 0] 27)) [.int .i64 0, .int .i64 0] 27 1 _ rfl (w.heap.size + 1 + 1) (by simp)
  have hgn := gr_alloc (r := none) (World.grownBy.refl ((w.alloc (.cells #[.int .i64 k, .int .i64 s, .bool vb] 34)).alloc (.cells #[.int .i64 0, .int .i64 0] 27)) _) (.cells #[.int .i64 0, .int .i64 0] 27)
  obtain ⟨a0, af0⟩ := (A0.gr hgn (by simp))
  obtain ⟨a1, af1⟩ := (A1.gr hgn (by simp))
  obtain ⟨b0, bf0⟩ := B0
  obtain ⟨b1, bf1⟩ := B1
  have hw := gr_alloc (gr_alloc (gr_alloc (World.grownBy.refl w none) (.cells #[.int .i64 k, .int .i64 s, .bool vb] 34)) (.cells #[.int .i64 0, .int .i64 0] 27)) (.cells #[.int .i64 0, .int .i64 0] 27)
  obtain ⟨v1, _⟩ := ((Cell.new w [.int .i64 k, .int .i64 s, .bool vb] 34 1 _ rfl w.heap.size rfl).gr (gr_alloc (r := none) (World.grownBy.refl _ _) (.cells #[.int .i64 0, .int .i64 0] 27)) (by simp)).gr hgn (by simp)
  clear A0 A1 hgn
  replace c0 := hw.k c0
  replace c1 := hw.k c1
  replace p0 := hw.k p0
  replace p1 := hw.k p1
  replace q0 := hw.k q0
  replace q1 := hw.k q1
  replace r0 := hw.k r0
  replace r1 := hw.k r1
  have hgne : g' ≠ w.heap.size ∧ g' ≠ w.heap.size + 1 ∧ g' ≠ w.heap.size + 1 + 1 := by omega
  have hgn2 : g ≠ w.heap.size ∧ g ≠ w.heap.size + 1 ∧ g ≠ w.heap.size + 1 + 1 := by omega
  cases cl
  · cases vb
    · go_enter Try.func46, Try.ntmps46
      go_wp2_with fail
      generalize ((w.alloc _).alloc _).alloc _ = W at *
      go_region
      all_goals
        go_wp2
        refine bodyPost_ret (v := .tuple #[.agg #[.int .i64 (P0).x, .int .i64 (P0).y], .agg #[.int .i64 (Pm).x, .int .i64 (Pm).y]]) (by simp [results, Try.results46, go_sem, a0, a1, b0, b1, af0, af1, bf0, bf1]) rfl ⟨by rw [HA.out, HB.out]; rfl, ?_⟩
        exact gr_drew (gr_set (gr_set (gr_set (gr_set hw (.inr (by simp)) _) (.inr (by simp)) _) (.inr (by simp [Nat.add_assoc])) _) (.inr (by simp [Nat.add_assoc])) _)
    · go_enter Try.func46, Try.ntmps46
      go_wp2_with fail
      generalize ((w.alloc _).alloc _).alloc _ = W at *
      go_region
      all_goals
        go_wp2
        refine bodyPost_ret (v := .tuple #[.agg #[.int .i64 (Pm).x, .int .i64 (Pm).y], .agg #[.int .i64 (P0).x, .int .i64 (P0).y]]) (by simp [results, Try.results46, go_sem, a0, a1, b0, b1, af0, af1, bf0, bf1]) rfl ⟨by rw [HA.out, HB.out]; rfl, ?_⟩
        exact gr_drew (gr_set (gr_set (gr_set (gr_set hw (.inr (by simp)) _) (.inr (by simp)) _) (.inr (by simp [Nat.add_assoc])) _) (.inr (by simp [Nat.add_assoc])) _)
  · go_enter Try.func46, Try.ntmps46
    go_wp2_with fail
    generalize ((w.alloc _).alloc _).alloc _ = W at *
    go_region
    all_goals
      go_wp2
      refine bodyPost_ret (v := .tuple #[.agg #[.int .i64 (Ps).x, .int .i64 (Ps).y], .agg #[.int .i64 (Ps).x, .int .i64 (Ps).y]]) (by simp [results, Try.results46, go_sem, a0, a1, b0, b1, af0, af1, bf0, bf1]) rfl ⟨by rw [HA.out, HB.out]; rfl, ?_⟩
      exact gr_drew (gr_set (gr_set (gr_set (gr_set hw (.inr (by simp)) _) (.inr (by simp)) _) (.inr (by simp [Nat.add_assoc])) _) (.inr (by simp [Nat.add_assoc])) _)

set_option maxHeartbeats 2000000 in
theorem travelRef_any (A : Option Addr) (c : Nat) (l : List PathV) (B : Option Addr) (d : Nat) (o : List Vis) (p : Pt) (w : World) (hl : Sl w 0 A l) (ho : Sl w 0 B o) (hst : near p) (hv : ∀ v ∈ o, VisOk l v) (ho2 : o.length ≤ 1000) :
    Calls Try.prog 20 #[.agg #[.int .i64 p.x, .int .i64 p.y], .slice A l.length c, .slice B o.length d] w fun e w' => e = .returned (.int .i64 (travS l p o).2) ∧ w.grownBy w' none := by
  have hm := ho.1
  unfold maxLen at hm
  have hbd := hide (travS_bd hst hv)
  go_enter Try.func20, Try.ntmps20
  go_wp2_with fail
  go_loopw [7, 14] (fun n i wr => ∃ k : Nat, k ≤ o.length ∧ i = .int .i64 k ∧ n = .int .i64 (travS l p (o.take k)).2 ∧ w.grownBy wr none ∧ Cell wr w.heap.size 0 (.int .i64 (travS l p (o.take k)).1.x) ∧ Cell wr w.heap.size 1 (.int .i64 (travS l p (o.take k)).1.y)) (fun _ i _ => o.length - (intOf i).toNat)
  case atStart => exact ⟨0, Nat.zero_le _, rfl, rfl, gr_alloc (World.grownBy.refl _ _) _, Cell.new w [.int .i64 p.x, .int .i64 p.y] 27 0 _ rfl _ rfl, Cell.new w [.int .i64 p.x, .int .i64 p.y] 27 1 _ rfl _ rfl⟩
  case round =>
    obtain ⟨k, hk, rfl, rfl, hg, hc0, hc1⟩ := hrel
    obtain ⟨hn1, hn2, hn3⟩ := hbd.out k hk
    by_cases hlt : k < o.length
    · obtain ⟨g, of, cx, rfl, hb0, hb1, rfl, hc⟩ := (ho.pure hg).at_ (by decide) hlt
      have v0 : wr.cell? ⟨g, of + k * 3, none⟩ = some (.int .i64 o[k].path) := hc 0 _ rfl
      have v1 : wr.cell? ⟨g, of + k * 3 + 1, none⟩ = some (.int .i64 o[k].start) := hc 1 _ rfl
      have v2 : wr.cell? ⟨g, of + k * 3 + 2, none⟩ = some (.bool o[k].back) := hc 2 _ rfl
      clear hc
      have hvk := hv o[k] (List.getElem_mem _)
      have hnA := hvk.nA
      have HS : Hid (travS l p (o.take (k + 1)) = (eB l o[k], (travS l p (o.take k)).2 + distP (travS l p (o.take k)).1 (eA l o[k]))) := by rw [Hid, take_snoc hlt, travS_snoc]
      have hdb := distP_bd hn1 hnA
      have hk2 : k ≤ 100000 := by omega
      generalize hS : travS l p (o.take k) = S at *
      obtain ⟨at_, n⟩ := S
      simp only at hn1 hn2 hn3 hc0 hc1 hdb ⊢
      clear hS
      go_wp2_with fail
      refine (endsRef_any _ _ l o[k] _ ((hl.pure hg).pure (gr_alloc (World.grownBy.refl _ _) _)) hvk).mono ?_
      rintro e w2 ⟨rfl, hg2⟩
      have hg3 := gr_trans (gr_alloc (World.grownBy.refl wr none) _) hg2
      have hzz := hg3.size
      have hzw := hc0.lt
      have hne1 : w.heap.size ≠ w2.heap.size := by omega
      have hne2 : w.heap.size ≠ w2.heap.size + 1 := by omega
      have gAB := gr_alloc (r := none) (gr_alloc (World.grownBy.refl w2 none) (.cells #[.int .i64 (eA l o[k]).x, .int .i64 (eA l o[k]).y] 27)) (.cells #[.int .i64 (eB l o[k]).x, .int .i64 (eB l o[k]).y] 27)
      have Y0 := (hc0.gr hg3 (by simp)).gr gAB (by simp)
      have Y1 := (hc1.gr hg3 (by simp)).gr gAB (by simp)
      have X0 := Cell.new (w2.alloc (.cells #[.int .i64 (eA l o[k]).x, .int .i64 (eA l o[k]).y] 27)) [.int .i64 (eB l o[k]).x, .int .i64 (eB l o[k]).y] 27 0 _ rfl (w2.heap.size + 1) (by simp)
      have X1 := Cell.new (w2.alloc (.cells #[.int .i64 (eA l o[k]).x, .int .i64 (eA l o[k]).y] 27)) [.int .i64 (eB l o[k]).x, .int .i64 (eB l o[k]).y] 27 1 _ rfl (w2.heap.size + 1) (by simp)
      have y0 := Y0.1
      have y1 := Y1.1
      go_wp2_with fail
      refine (apart_any at_ (eA l o[k]) _ hn1 hnA).mono ?_
      rintro e w3 ⟨rfl, hg4⟩
      replace Y0 := Y0.gr hg4 (by simp)
      replace Y1 := Y1.gr hg4 (by simp)
      obtain ⟨x0, -⟩ := X0.gr hg4 (by simp)
      obtain ⟨x1, -⟩ := X1.gr hg4 (by simp)
      have U0 := Y0
      have U1 := Y1
      obtain ⟨u0, u1⟩ := Y0
      obtain ⟨u2, u3⟩ := Y1
      have hg5 := gr_trans hg (gr_trans hg3 (gr_trans gAB hg4))
      clear y0 y1 gAB X0 X1
      go_wp2_with fail
      (go_roundw; (case rel => exact ⟨k + 1, by omega, by go_num, by rw [HS.out], gr_set (gr_set hg5 (.inr (Nat.le_refl _)) _) (.inr (Nat.le_refl _)) _, by rw [HS.out]; exact (U0.set_ _).set_ne _ (by decide), by rw [HS.out]; exact (U1.set_ne _ (by decide)).set_ _⟩); (case measure => simp [intOf]; omega))
    · have he : Hid (o.take k = o) := by rw [Hid, List.take_of_length_le (by omega)]
      rw [he.out]
      go_wp2
      go_ret
      exact ⟨rfl, hg⟩

set_option maxHeartbeats 2000000 in
theorem travel_any (A : Option Addr) (c : Nat) (l : List PathV) (B : Option Addr) (d : Nat) (o : List Vis) (p : Pt) (w : World) (hl : Sl w 0 A l) (ho : Sl w 0 B o) (hst : near p) (hv : ∀ v ∈ o, VisOk l v) (ho2 : o.length ≤ 1000) :
    Calls Try.prog 49 #[.agg #[.int .i64 p.x, .int .i64 p.y], .slice A l.length c, .slice B o.length d] w fun e w' => e = .returned (.int .i64 (travS l p o).2) ∧ w.grownBy w' none := by
  have hm := ho.1
  unfold maxLen at hm
  have hbd := hide (travS_bd hst hv)
  go_enter Try.func49, Try.ntmps49
  go_wp2_with fail
  go_loopw [7, 14] (fun n i wr => ∃ k : Nat, k ≤ o.length ∧ i = .int .i64 k ∧ n = .int .i64 (travS l p (o.take k)).2 ∧ w.grownBy wr none ∧ Cell wr w.heap.size 0 (.int .i64 (travS l p (o.take k)).1.x) ∧ Cell wr w.heap.size 1 (.int .i64 (travS l p (o.take k)).1.y)) (fun _ i _ => o.length - (intOf i).toNat)
  case atStart => exact ⟨0, Nat.zero_le _, rfl, rfl, gr_alloc (World.grownBy.refl _ _) _, Cell.new w [.int .i64 p.x, .int .i64 p.y] 27 0 _ rfl _ rfl, Cell.new w [.int .i64 p.x, .int .i64 p.y] 27 1 _ rfl _ rfl⟩
  case round =>
    obtain ⟨k, hk, rfl, rfl, hg, hc0, hc1⟩ := hrel
    obtain ⟨hn1, hn2, hn3⟩ := hbd.out k hk
    by_cases hlt : k < o.length
    · obtain ⟨g, of, cx, rfl, hb0, hb1, rfl, hc⟩ := (ho.pure hg).at_ (by decide) hlt
      have v0 : wr.cell? ⟨g, of + k * 3, none⟩ = some (.int .i64 o[k].path) := hc 0 _ rfl
      have v1 : wr.cell? ⟨g, of + k * 3 + 1, none⟩ = some (.int .i64 o[k].start) := hc 1 _ rfl
      have v2 : wr.cell? ⟨g, of + k * 3 + 2, none⟩ = some (.bool o[k].back) := hc 2 _ rfl
      clear hc
      have hvk := hv o[k] (List.getElem_mem _)
      have hnA := hvk.nA
      have HS : Hid (travS l p (o.take (k + 1)) = (eB l o[k], (travS l p (o.take k)).2 + distP (travS l p (o.take k)).1 (eA l o[k]))) := by rw [Hid, take_snoc hlt, travS_snoc]
      have hdb := distP_bd hn1 hnA
      have hk2 : k ≤ 100000 := by omega
      generalize hS : travS l p (o.take k) = S at *
      obtain ⟨at_, n⟩ := S
      simp only at hn1 hn2 hn3 hc0 hc1 hdb ⊢
      clear hS
      go_wp2_with fail
      refine (ends_any _ _ l o[k] _ ((hl.pure hg).pure (gr_alloc (World.grownBy.refl _ _) _)) hvk).mono ?_
      rintro e w2 ⟨rfl, hg2⟩
      have hg3 := gr_trans (gr_alloc (World.grownBy.refl wr none) _) hg2
      have hzz := hg3.size
      have hzw := hc0.lt
      have hne1 : w.heap.size ≠ w2.heap.size := by omega
      have hne2 : w.heap.size ≠ w2.heap.size + 1 := by omega
      have gAB := gr_alloc (r := none) (gr_alloc (World.grownBy.refl w2 none) (.cells #[.int .i64 (eA l o[k]).x, .int .i64 (eA l o[k]).y] 27)) (.cells #[.int .i64 (eB l o[k]).x, .int .i64 (eB l o[k]).y] 27)
      have Y0 := (hc0.gr hg3 (by simp)).gr gAB (by simp)
      have Y1 := (hc1.gr hg3 (by simp)).gr gAB (by simp)
      have X0 := Cell.new (w2.alloc (.cells #[.int .i64 (eA l o[k]).x, .int .i64 (eA l o[k]).y] 27)) [.int .i64 (eB l o[k]).x, .int .i64 (eB l o[k]).y] 27 0 _ rfl (w2.heap.size + 1) (by simp)
      have X1 := Cell.new (w2.alloc (.cells #[.int .i64 (eA l o[k]).x, .int .i64 (eA l o[k]).y] 27)) [.int .i64 (eB l o[k]).x, .int .i64 (eB l o[k]).y] 27 1 _ rfl (w2.heap.size + 1) (by simp)
      have y0 := Y0.1
      have y1 := Y1.1
      go_wp2_with fail
      refine (distance_any at_ (eA l o[k]) _ hn1 hnA).mono ?_
      rintro e w3 ⟨rfl, hg4⟩
      replace Y0 := Y0.gr hg4 (by simp)
      replace Y1 := Y1.gr hg4 (by simp)
      obtain ⟨x0, -⟩ := X0.gr hg4 (by simp)
      obtain ⟨x1, -⟩ := X1.gr hg4 (by simp)
      have U0 := Y0
      have U1 := Y1
      obtain ⟨u0, u1⟩ := Y0
      obtain ⟨u2, u3⟩ := Y1
      have hg5 := gr_trans hg (gr_trans hg3 (gr_trans gAB hg4))
      clear y0 y1 gAB X0 X1
      go_wp2_with fail
      (go_roundw; (case rel => exact ⟨k + 1, by omega, by go_num, by rw [HS.out], gr_set (gr_set hg5 (.inr (Nat.le_refl _)) _) (.inr (Nat.le_refl _)) _, by rw [HS.out]; exact (U0.set_ _).set_ne _ (by decide), by rw [HS.out]; exact (U1.set_ne _ (by decide)).set_ _⟩); (case measure => simp [intOf]; omega))
    · have he : Hid (o.take k = o) := by rw [Hid, List.take_of_length_le (by omega)]
      rw [he.out]
      go_wp2
      go_ret
      exact ⟨rfl, hg⟩

end Go.Proofs.Ytcaaephphefncaa

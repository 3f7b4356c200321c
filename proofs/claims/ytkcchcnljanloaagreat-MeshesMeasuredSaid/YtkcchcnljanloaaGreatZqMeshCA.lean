/- Contracts of functions that this seat's laws reach, each: what one call returns and what it leaves in memory; no condition beyond each theorem's own hypotheses. -/
import Derived.Test.YtkcchcnljanloaaGreatZqShellSub
import Derived.Deep.DeepAppendRoom
import Derived.Deep.DeepCutAuto
set_option linter.unusedVariables false
set_option linter.unusedSimpArgs false
namespace Go.Proofs.YtkcchcnljanloaaGreat
open Go.RowKit Go.Bl

theorem _root_.Go.Bl.Own.take {α : Type} [Enc α] {w : World} {lo : Nat} {e : TypeId} {A : Option Addr} {c : Nat} {l : List α} (h : Own w lo e A c l) (k : Nat) (hk : k ≤ l.length) : Own w lo e A c (l.take k) := by
  obtain ⟨hm, cs, hr, ho⟩ := h
  have hl : (l.take k).length = k := by rw [List.length_take]; omega
  have hrl := (hr.take k).len
  rw [hl] at hrl
  refine ⟨by omega, cs.take (k * Enc.sz α), hr.take k, by rw [hl]; exact hrl, ?_⟩
  rw [hl]
  rcases ho.2 with ⟨h1, h2⟩ | ⟨g, cap, cur, hv, hb, hh, hn, hc, hs, ht⟩
  · injection h1 with a b d
    exact .inl ⟨by rw [a, d, show k = 0 by omega], by omega⟩
  · injection hv with a b d
    refine .inr ⟨g, cap, cur, by rw [a, d], hb, hh, by omega, hc, hs, ?_⟩
    rw [← ht, List.take_take]
    congr 1
    exact (Nat.min_eq_left (Nat.mul_le_mul_right _ hk)).symm

theorem _root_.Go.Bl.Sl.drop {α : Type} [Enc α] {w : World} {lo : Nat} {g o : Nat} {l : List α} (h : Sl w lo (some ⟨g, o, none⟩) l) (k : Nat) : Sl w lo (some ⟨g, o + k * Enc.sz α, none⟩) (l.drop k) := by
  obtain ⟨hm, cs, hr, hl⟩ := h
  refine ⟨by rw [List.length_drop]; omega, _, hr.drop k, fun hne => ?_⟩
  obtain ⟨ad, e, hb, hc⟩ := hl (by rintro rfl; simp at hne)
  injection e with e
  subst e
  refine ⟨_, rfl, hb, fun j u hu => ?_⟩
  rw [List.getElem?_drop] at hu
  have := hc _ u hu
  rw [Addr.add_lit] at this ⊢
  rwa [Nat.add_assoc]

theorem _root_.Go.Bl.Own.spare {α : Type} [Enc α] {w : World} {lo : Nat} {e : TypeId} {g c : Nat} {l : List α} (h : Own w lo e (some ⟨g, 0, none⟩) c l) {j : Nat} (hj : j < c * Enc.sz α) : (w.cell? ⟨g, j, none⟩).isSome = true := by
  obtain ⟨hm, cs, hr, h1, h2⟩ := h
  rcases h2 with ⟨h2, _⟩ | ⟨g', cap, cur, hv, _, hh, _, _, hs, _⟩
  · simp at h2
  · injection hv with a b d
    injection a with a
    injection a with a
    subst a
    subst d
    rw [cell_of_row _ _ _ _ _ _ hh, Array.getElem?_eq_getElem (by omega)]
    rfl

theorem _root_.Go.Bl.Own.past {α : Type} [Enc α] [Flat α] {w : World} {lo : Nat} {e : TypeId} {g c : Nat} {l : List α} (h : Own w lo e (some ⟨g, 0, none⟩) c l) {j : Nat} (hj : l.length * Enc.sz α ≤ j) (u : Value) : Own (w.setCell ⟨g, j, none⟩ u) lo e (some ⟨g, 0, none⟩) c l ∧ w.grownBy (w.setCell ⟨g, j, none⟩ u) (some g) := by
  obtain ⟨hm, cs, hr, ho⟩ := h
  have hl := hr.len
  obtain ⟨h1, h2⟩ := ho.stored j u
  rw [List.set_eq_of_length_le (by omega)] at h1
  exact ⟨⟨hm, cs, hr.flat, h1⟩, h2⟩

theorem run_clearF (w : World) (ty : TypeId) (g o c : Nat) (hc : ∀ j, j < 3 → (w.cell? ⟨g, o + j, none⟩).isSome = true) (hf : ∀ j, j < 3 → w.frozen? ⟨g, o + j, none⟩ = false) :
    (Builtin.clear_ #[27] ty #[.slice (some ⟨g, o, none⟩) 1 c]).run Tryz.prog w = .ok (.tuple #[]) (((w.setCell ⟨g, o, none⟩ (.int .i64 0)).setCell ⟨g, o + 1, none⟩ (.int .i64 0)).setCell ⟨g, o + 2, none⟩ (.int .i64 0)) := by
  have hst := run_storeCells_cells (P := Tryz.prog) g o [.int .i64 0, .int .i64 0, .int .i64 0] 0 w (by simpa using hc) (by simpa using hf) (by intro v hv; simp at hv; subst hv; rfl)
  simp only [Nat.add_zero] at hst
  have hv : ∀ w, (zeroValue 58).run Tryz.prog w = .ok (.agg #[.int .i64 0, .int .i64 0, .int .i64 0]) w := Tryz.zeroValue58
  have hz : (Builtin.zeroCells (Value.agg #[.int .i64 0, .int .i64 0, .int .i64 0]).cells 1).toList = [.int .i64 0, .int .i64 0, .int .i64 0] := by kernel_rfl
  simp [Builtin.clear_, run_underlying Tryz.underlying27, hv, hz, hst, World.setCells]

set_option maxHeartbeats 2000000 in
set_option maxRecDepth 100000 in
theorem deleteF_any (g lo c i : Nat) (fs : List Fc) (w : World) (h : Own w lo 58 (some ⟨g, 0, none⟩) c fs) (hi : i < fs.length) (hn : fs.length ≤ 1000) :
    Calls Tryz.prog 31 #[.slice (some ⟨g, 0, none⟩) fs.length c, .int .i64 i, .int .i64 (i + 1)] w fun e w' =>
      e = .returned (.slice (some ⟨g, 0, none⟩) (fs.take i ++ fs.drop (i + 1)).length c) ∧ Own w' lo 58 (some ⟨g, 0, none⟩) c (fs.take i ++ fs.drop (i + 1)) ∧ w.grownBy w' (some g) := by
  have hcap := h.cap
  obtain ⟨r, hr⟩ : ∃ r, fs.length = i + 1 + r := ⟨fs.length - (i + 1), by omega⟩
  have hlen : (fs.take i ++ fs.drop (i + 1)).length = i + r := by rw [List.length_append, List.length_take, List.length_drop]; omega
  have hdl : (fs.drop (i + 1)).length = r := by rw [List.length_drop]; omega
  rw [hr] at hcap
  rw [hr, hlen]
  obtain ⟨i0, hi', hz, h1, h2⟩ := info_parts info_face
  by_cases hc1 : i + 1 < c
  · replace hi' := hide hi'
    replace hz := hide hz
    replace h1 := hide h1
    replace h2 := hide h2
    replace hr := hide hr
    replace hlen := hide hlen
    replace hdl := hide hdl
    go_enter Tryz.func31, Tryz.ntmps31
    go_wp2_with fail
    rw [show (((i : Nat) : Int) == (i : Int) + 1) = false from beq_eq_false_iff_ne.2 (by omega)]
    refine wp_region_fix 6 ((fun wx => w.grownBy wx none)) (by kernel_rfl) (by kernel_rfl) (gr_drew (World.grownBy.refl _ _)) ?_
    simp only [List.take_succ_cons, List.take_zero, List.drop_succ_cons, List.drop_zero]
    iterate 6 ((refine fix_b (fun K hK => ?_); apply Exists.intro; refine ⟨fun wx hC K' hK' => ?_, ?_⟩; (focus (replace hK' := hide hK'; skip; go_wp2_with fail; exact hK'.out _ hC)); go_simp; refine hK _ ?_; clear hK K))
    refine fix_nil ?_
    intro wz hC
    obtain ⟨cs, hrow, hown⟩ : ∃ cs, Row wz lo (fs.take i) cs ∧ wz.ownsRow lo 58 3 (.slice (some ⟨g, 0, none⟩) (fs.take i).length c) (fs.take i).length cs := by
      obtain ⟨_, cs, hr, ho⟩ := (h.pure hC).take i (Nat.le_of_lt hi)
      exact ⟨cs, hr, ho⟩
    rw [show (fs.take i).length = i by rw [List.length_take]; omega] at hown
    obtain ⟨hd1, ds, hd2, hd3⟩ := (h.pure hC).sl.drop (i + 1)
    have hdl2 := hd2.len
    rw [hdl.out] at hdl2
    go_wp2_with (at_builtin; refine wpList_append_own_spare _ rfl (.tmp 22) (.tmp 25) _ rfl lo 58 i0 3 Tryz.underlying27 hi'.out h1.out g i c cs rfl hown ⟨g, (i + 1) * 3, none⟩ r _ ds rfl ?c1 ?c2 ?c3 ?c4 ?_)
    case c1 => exact hdl2
    case c2 =>
      intro j u hu
      obtain ⟨ad, e, _, hc⟩ := hd3 (by rintro rfl; simp at hu)
      injection e with e
      subst e
      rw [← hc j u hu, show (0 : Nat) + (i + 1) * Enc.sz Fc = (i + 1) * 3 from Nat.zero_add _]
    case c3 => exact hd2.one
    case c4 => omega
    intro w1 hown1 hg1
    have hO : Own w1 lo 58 (some ⟨g, 0, none⟩) c (fs.take i ++ fs.drop (i + 1)) := by
      refine ⟨by rw [hlen.out]; unfold maxLen; have := hr.out; omega, cs ++ ds, hrow.flat.append hd2.flat, ?_⟩
      rw [hlen.out]
      exact hown1
    have hwg : w.grownBy w1 (some g) := gr_trans (gr_any hC) hg1
    clear hown1 hown hd2 hd3 hrow hd1 hdl2 hC hg1
    have hcl : ∀ ty, (Builtin.clear_ #[27] ty #[.slice (some ⟨g, (i + r) * 3, none⟩) (i + 1 + r - (i + r)) (c - (i + r))]).run Tryz.prog w1 = .ok (.tuple #[]) (((w1.setCell ⟨g, (i + r) * 3, none⟩ (.int .i64 0)).setCell ⟨g, (i + r) * 3 + 1, none⟩ (.int .i64 0)).setCell ⟨g, (i + r) * 3 + 2, none⟩ (.int .i64 0)) := fun ty => by
      rw [show i + 1 + r - (i + r) = 1 by omega]
      exact run_clearF w1 ty g ((i + r) * 3) (c - (i + r)) (fun j hj => hO.spare (by rw [show Enc.sz Fc = 3 from rfl]; omega)) (fun j _ => hO.frozen _)
    have hp : (fs.take i ++ fs.drop (i + 1)).length * Enc.sz Fc ≤ (i + r) * 3 := by rw [hlen.out, show Enc.sz Fc = 3 from rfl]; exact Nat.le_refl _
    have p1 := hO.past hp (.int .i64 0)
    have p2 := p1.1.past (Nat.le_trans hp (Nat.le_add_right _ 1)) (.int .i64 0)
    have p3 := p2.1.past (Nat.le_trans hp (Nat.le_add_right _ 2)) (.int .i64 0)
    have hgz := gr_trans (gr_trans (gr_trans hwg p1.2) p2.2) p3.2
    have hO3 := p3.1
    clear p1 p2 p3 hO hp hwg
    go_wp2
    go_ret
    exact ⟨rfl, hO3, hgz⟩
  · have hc2 : c = i + 1 := by omega
    have hr0 : r = 0 := by omega
    subst hr0
    subst hc2
    have hd0 : fs.drop (i + 1) = [] := List.drop_eq_nil_of_le (by omega)
    rw [hd0, List.append_nil]
    rw [hd0, List.append_nil] at hlen
    clear hd0 hdl
    replace hr := hide hr
    replace hlen := hide hlen
    rw [Nat.add_zero, Nat.add_zero]
    go_enter Tryz.func31, Tryz.ntmps31
    go_wp2_with fail
    rw [show (((i : Nat) : Int) == (i : Int) + 1) = false from beq_eq_false_iff_ne.2 (by omega)]
    refine wp_region_fix 6 ((fun wx => w.grownBy wx none)) (by kernel_rfl) (by kernel_rfl) (gr_drew (World.grownBy.refl _ _)) ?_
    simp only [List.take_succ_cons, List.take_zero, List.drop_succ_cons, List.drop_zero]
    iterate 6 ((refine fix_b (fun K hK => ?_); apply Exists.intro; refine ⟨fun wx hC K' hK' => ?_, ?_⟩; (focus (replace hK' := hide hK'; skip; go_wp2_with fail; exact hK'.out _ hC)); go_simp; refine hK _ ?_; clear hK K))
    refine fix_nil ?_
    intro wz hC
    have hO := (h.pure hC).take i (Nat.le_of_lt hi)
    have hcl : ∀ ty, (Builtin.clear_ #[27] ty #[.slice (some ⟨g, i * 3, none⟩) 1 1]).run Tryz.prog wz = .ok (.tuple #[]) (((wz.setCell ⟨g, i * 3, none⟩ (.int .i64 0)).setCell ⟨g, i * 3 + 1, none⟩ (.int .i64 0)).setCell ⟨g, i * 3 + 2, none⟩ (.int .i64 0)) := fun ty =>
      run_clearF wz ty g (i * 3) 1 (fun j hj => hO.spare (by rw [show Enc.sz Fc = 3 from rfl]; omega)) (fun j _ => hO.frozen _)
    have hp : (fs.take i).length * Enc.sz Fc ≤ i * 3 := by rw [hlen.out, show Enc.sz Fc = 3 from rfl]; exact Nat.le_refl _
    have p1 := hO.past hp (.int .i64 0)
    have p2 := p1.1.past (Nat.le_trans hp (Nat.le_add_right _ 1)) (.int .i64 0)
    have p3 := p2.1.past (Nat.le_trans hp (Nat.le_add_right _ 2)) (.int .i64 0)
    have hgz := gr_trans (gr_trans (gr_trans (gr_any hC) p1.2) p2.2) p3.2
    have hO3 := p3.1
    clear p1 p2 p3 hO hp
    go_wp2
    go_ret
    exact ⟨rfl, hO3, hgz⟩

end Go.Proofs.YtkcchcnljanloaaGreat

namespace Go.Proofs.YtkcchcnljanloaaGreat
open Go.RowKit Go.Bl

/-- a mesh in memory while it is spoiled: the box gm, the vertices in gA, the faces in gB -/
structure Pl where
  b : Nat
  gm : Nat
  gA : Nat
  gB : Nat
  cA : Nat
  nv : Nat
  cB : Nat
  nf : Nat
  lo : Nat
  lo2 : Nat

def Pl.ok (p : Pl) (w0 : World) : Prop := p.b < w0.heap.size ∧ w0.heap.size ≤ p.gm ∧ p.gm < p.lo ∧ p.lo ≤ p.gA ∧ p.lo ≤ p.gB ∧ p.gA ≠ p.gB ∧ p.gA < p.lo2 ∧ p.gB < p.lo2 ∧ p.nv ≤ 1000 ∧ p.nf ≤ 1000

def SpI (p : Pl) (R : Fc → Prop) (w0 : World) (N : Int) (w : World) : Prop :=
  SOut p.b N w0 w ∧ p.lo2 ≤ w.heap.size ∧ Cell w p.gm 0 (.slice (some ⟨p.gA, 0, none⟩) p.nv p.cA) ∧ Cell w p.gm 1 (.slice (some ⟨p.gB, 0, none⟩) p.nf p.cB) ∧
    (∃ vs : List V3, vs.length = p.nv ∧ Own w p.lo 38 (some ⟨p.gA, 0, none⟩) p.cA vs) ∧ ∃ fs : List Fc, fs.length = p.nf ∧ (∀ f ∈ fs, R f) ∧ Own w p.lo 58 (some ⟨p.gB, 0, none⟩) p.cB fs
/-- what may be written -/
def SpW (p : Pl) : Nat → Prop := fun g => g = p.b ∨ g = p.gm ∨ g = p.gA ∨ g = p.gB

section
variable {p : Pl} {R : Fc → Prop} {w0 w w' : World} {N : Int}

theorem SpI.pure (h : SpI p R w0 N w) (hg : w.grownBy w' none) : SpI p R w0 N w' := by
  obtain ⟨h1, h2, h3, h4, ⟨vs, h5, h6⟩, fs, h7, h8, h9⟩ := h
  exact ⟨h1.pure hg, Nat.le_trans h2 hg.size, h3.gr hg (by simp), h4.gr hg (by simp), ⟨vs, h5, h6.pure hg⟩, fs, h7, h8, h9.pure hg⟩

theorem SpI.st (h : SpI p R w0 N w) (hp : p.ok w0) {N' : Int} (hs : SOut p.b N' w w') : SpI p R w0 N' w' := by
  obtain ⟨h1, h2, h3, h4, ⟨vs, h5, h6⟩, fs, h7, h8, h9⟩ := h
  obtain ⟨p1, p2, p3, p4, p5, p6, p7, p8, _⟩ := hp
  exact ⟨h1.trans hs, Nat.le_trans h2 hs.size, h3.gr hs.1 (fun e => by injection e; omega), h4.gr hs.1 (fun e => by injection e; omega), ⟨vs, h5, h6.s hs (by omega)⟩, fs, h7, h8, h9.s hs (by omega)⟩

theorem SpI.face (h : SpI p R w0 N w) {j : Nat} (hj : j < p.nf) : ∃ f : Fc, R f ∧ w.cell? ⟨p.gB, j * 3, none⟩ = some (.int .i64 f.a) ∧ w.cell? ⟨p.gB, j * 3 + 1, none⟩ = some (.int .i64 f.b) ∧ w.cell? ⟨p.gB, j * 3 + 2, none⟩ = some (.int .i64 f.c) := by
  obtain ⟨h1, h2, h3, h4, ⟨vs, h5, h6⟩, fs, h7, h8, h9⟩ := h
  obtain ⟨c1, rfl, hc⟩ := h9.cell_at (by decide) (i := j) (by omega)
  exact ⟨_, h8 _ (List.getElem_mem _), hc 0 _ rfl, hc 1 _ rfl, hc 2 _ rfl⟩

theorem SpI.vert (h : SpI p R w0 N w) {j : Nat} (hj : j < p.nv) : ∃ f : V3, w.cell? ⟨p.gA, j * 3, none⟩ = some (.int .i64 f.x) ∧ w.cell? ⟨p.gA, j * 3 + 1, none⟩ = some (.int .i64 f.y) ∧ w.cell? ⟨p.gA, j * 3 + 2, none⟩ = some (.int .i64 f.z) := by
  obtain ⟨h1, h2, h3, h4, ⟨vs, h5, h6⟩, fs, h7, h8, h9⟩ := h
  obtain ⟨c1, rfl, hc⟩ := h6.cell_at (by decide) (i := j) (by omega)
  exact ⟨_, hc 0 _ rfl, hc 1 _ rfl, hc 2 _ rfl⟩

theorem SpI.fzB (h : SpI p R w0 N w) (j : Nat) : w.frozen? ⟨p.gB, j, none⟩ = false := by
  obtain ⟨h1, h2, h3, h4, ⟨vs, h5, h6⟩, fs, h7, h8, h9⟩ := h
  exact h9.frozen j

theorem SpI.fzA (h : SpI p R w0 N w) (j : Nat) : w.frozen? ⟨p.gA, j, none⟩ = false := by
  obtain ⟨h1, h2, h3, h4, ⟨vs, h5, h6⟩, fs, h7, h8, h9⟩ := h
  exact h6.frozen j

theorem SpI.setF (h : SpI p (fun _ => True) w0 N w) (hp : p.ok w0) {j e : Nat} (hj : j < p.nf) (he : e < 3) (u : Int) : SpI p (fun _ => True) w0 N (w.setCell ⟨p.gB, j * 3 + e, none⟩ (.int .i64 u)) := by
  obtain ⟨h1, h2, h3, h4, ⟨vs, h5, h6⟩, fs, h7, h8, h9⟩ := h
  obtain ⟨p1, p2, p3, p4, p5, p6, p7, p8, _⟩ := hp
  have hg := gr_set (World.grownBy.refl w (some p.gB)) (p := ⟨p.gB, j * 3 + e, none⟩) (.inl rfl) (.int .i64 u)
  obtain ⟨x, hx⟩ : ∃ x : Fc, ∀ c1, Enc.rep w p.lo (fs[j]'(by omega)) c1 → Enc.rep w p.lo x (c1.set e (.int .i64 u)) := by
    have : e = 0 ∨ e = 1 ∨ e = 2 := by omega
    generalize fs[j]'(by omega) = f
    rcases this with rfl | rfl | rfl
    · exact ⟨⟨u, f.b, f.c⟩, by rintro c1 rfl; rfl⟩
    · exact ⟨⟨f.a, u, f.c⟩, by rintro c1 rfl; rfl⟩
    · exact ⟨⟨f.a, f.b, u⟩, by rintro c1 rfl; rfl⟩
  exact ⟨h1.set p1 (by simp only; omega) _, by rw [heap_set]; exact h2, h3.gr hg (fun e => by injection e; omega), h4.gr hg (fun e => by injection e; omega), ⟨vs, h5, h6.ne hg (fun g e1 e2 => by simp only [blk, Option.map_some, Option.some.injEq] at e1; injection e2; omega)⟩,
    _, by rw [List.length_set]; exact h7, fun _ _ => trivial, h9.put (by omega) he hx⟩

theorem SpI.setV (h : SpI p R w0 N w) (hp : p.ok w0) {j e : Nat} (hj : j < p.nv) (he : e < 3) (u : Int) : SpI p R w0 N (w.setCell ⟨p.gA, j * 3 + e, none⟩ (.int .i64 u)) := by
  obtain ⟨h1, h2, h3, h4, ⟨vs, h5, h6⟩, fs, h7, h8, h9⟩ := h
  obtain ⟨p1, p2, p3, p4, p5, p6, p7, p8, _⟩ := hp
  have hg := gr_set (World.grownBy.refl w (some p.gA)) (p := ⟨p.gA, j * 3 + e, none⟩) (.inl rfl) (.int .i64 u)
  obtain ⟨x, hx⟩ : ∃ x : V3, ∀ c1, Enc.rep w p.lo (vs[j]'(by omega)) c1 → Enc.rep w p.lo x (c1.set e (.int .i64 u)) := by
    have : e = 0 ∨ e = 1 ∨ e = 2 := by omega
    generalize vs[j]'(by omega) = f
    rcases this with rfl | rfl | rfl
    · exact ⟨⟨u, f.y, f.z⟩, by rintro c1 rfl; rfl⟩
    · exact ⟨⟨f.x, u, f.z⟩, by rintro c1 rfl; rfl⟩
    · exact ⟨⟨f.x, f.y, u⟩, by rintro c1 rfl; rfl⟩
  exact ⟨h1.set p1 (by simp only; omega) _, by rw [heap_set]; exact h2, h3.gr hg (fun e => by injection e; omega), h4.gr hg (fun e => by injection e; omega),
    ⟨_, by rw [List.length_set]; exact h5, h6.put (by omega) he hx⟩, fs, h7, h8, h9.ne hg (fun g e1 e2 => by simp only [blk, Option.map_some, Option.some.injEq] at e1; injection e2; omega)⟩

theorem SpI.any (h : SpI p R w0 N w) : SpI p (fun _ => True) w0 N w := by
  obtain ⟨h1, h2, h3, h4, h5, fs, h7, h8, h9⟩ := h
  exact ⟨h1, h2, h3, h4, h5, fs, h7, fun _ _ => trivial, h9⟩

theorem SpI.mono (h : SpI p R w0 N w) {N' : Int} (hN : N ≤ N') : SpI p R w0 N' w := ⟨h.1.mono hN, h.2⟩
end

def VPtr (g e n : Nat) : Value → World → Prop := fun v _ => ∃ j, v = .pointer (some ⟨g, j * 3 + e, none⟩) ∧ j < n

def VAgg3 : Value → World → Prop := fun v _ => ∃ x y z, v = .agg #[.int .i64 x, .int .i64 y, .int .i64 z]

end Go.Proofs.YtkcchcnljanloaaGreat

namespace Go.Proofs.YtkcchcnljanloaaGreat
open Go.RowKit Go.Bl

def VPtr0 (g n : Nat) : Value → World → Prop := fun v _ => ∃ j, v = .pointer (some ⟨g, j * 3, none⟩) ∧ j < n

def VPtrE (g e n : Nat) : Value → World → Prop := fun v _ => ∃ j, v = .pointer (some ⟨g, j * 3 + e, none⟩) ∧ j < n

theorem inF_bd {n : Nat} {f : Fc} (h : inF n f = true) : (0 ≤ f.a ∧ f.a < n) ∧ (0 ≤ f.b ∧ f.b < n) ∧ 0 ≤ f.c ∧ f.c < n := by
  simpa [inF, inI, Bool.and_eq_true, and_assoc] using h

def SpOut (p : Pl) (w0 : World) (N : Int) (e : Ending) (w' : World) : Prop := e = .returned (.tuple #[]) ∧ ∃ (A : Option Addr) (c : Nat) (vs : List V3) (B : Option Addr) (d : Nat) (fs : List Fc), Cell w' p.gm 0 (.slice A vs.length c) ∧ Cell w' p.gm 1 (.slice B fs.length d) ∧ Own w' p.lo 38 A c vs ∧ Own w' p.lo 58 B d fs ∧ SOut p.b N w0 w' ∧ vs.length = p.nv ∧ fs.length ≤ p.nf + 1

theorem SpI.setV0 {p : Pl} {R : Fc → Prop} {w0 w : World} {N : Int} (h : SpI p R w0 N w) (hp : p.ok w0) {j : Nat} (hj : j < p.nv) (u : Int) : SpI p R w0 N (w.setCell ⟨p.gA, j * 3, none⟩ (.int .i64 u)) := h.setV hp hj (e := 0) (by decide) u

theorem SpI.out {p : Pl} {R : Fc → Prop} {w0 w : World} {N M : Int} (h : SpI p R w0 N w) (hN : N ≤ M) : SpOut p w0 M (.returned (.tuple #[])) w := by
  obtain ⟨h1, h2, h3, h4, ⟨vs, h5, h6⟩, fs, h7, h8, h9⟩ := h
  exact ⟨rfl, _, _, vs, _, _, fs, by rw [h5]; exact h3, by rw [h7]; exact h4, h6, h9, h1.mono hN, h5, by omega⟩

def VApp (p : Pl) : Value → World → Prop := fun v w => ∃ (B : Option Addr) (d : Nat) (fs : List Fc), v = .slice B fs.length d ∧ Own w p.lo 58 B d fs ∧ fs.length ≤ p.nf + 1

theorem VApp.stab {p : Pl} {q : Nat → Prop} {v : Value} {w w' : World} (h : VApp p v w) (hw : Wrt q w w') (hq : ∀ g, q g → g < p.lo) : VApp p v w' := let ⟨B, d, fs, h1, h2, h3⟩ := h; ⟨B, d, fs, h1, h2.wrt hw hq, h3⟩
/-- while a face is appended -/
def ApI (p : Pl) (fs : List Fc) (w0 : World) (N : Int) (m : Nat → Bool) (k : Nat) (w : World) : Prop :=
  SOut p.b (N + k) w0 w ∧ p.lo2 ≤ w.heap.size ∧ Cell w p.gm 0 (.slice (some ⟨p.gA, 0, none⟩) p.nv p.cA) ∧ (∃ vs : List V3, vs.length = p.nv ∧ Own w p.lo 38 (some ⟨p.gA, 0, none⟩) p.cA vs) ∧
    (m 12 = false → fs.length = p.nf ∧ Own w p.lo 58 (some ⟨p.gB, 0, none⟩) p.cB fs) ∧ (m 15 = false → Cell w p.gm 1 (.slice (some ⟨p.gB, 0, none⟩) p.nf p.cB)) ∧
    (m 15 = true → ∃ (B : Option Addr) (d : Nat) (fs' : List Fc), Cell w p.gm 1 (.slice B fs'.length d) ∧ Own w p.lo 58 B d fs' ∧ fs'.length ≤ p.nf + 1)

theorem face0 {w : World} {lo g c nf : Nat} {fs : List Fc} (h : fs.length = nf ∧ Own w lo 58 (some ⟨g, 0, none⟩) c fs) (hn : 1 ≤ nf) : ∃ f : Fc, w.cell? ⟨g, 0, none⟩ = some (.int .i64 f.a) ∧ w.cell? ⟨g, 1, none⟩ = some (.int .i64 f.b) ∧ w.cell? ⟨g, 2, none⟩ = some (.int .i64 f.c) := by
  obtain ⟨h1, h2⟩ := h
  obtain ⟨c1, rfl, hc⟩ := h2.cell_at (by decide) (i := 0) (by omega)
  exact ⟨_, hc 0 _ rfl, hc 1 _ rfl, hc 2 _ rfl⟩
section
variable {p : Pl} {fs : List Fc} {w0 w w' : World} {N : Int} {m : Nat → Bool} {k : Nat}

theorem ApI.same (h : ApI p fs w0 N m k w) {j : Nat} (h12 : (12 == j) = false) (h15 : (15 == j) = false) : ApI p fs w0 N (setm m j) k w := by
  unfold ApI
  rw [setm_ne h12, setm_ne h15]
  exact h

theorem ApI.pure (h : ApI p fs w0 N m k w) (hg : w.grownBy w' none) : ApI p fs w0 N m k w' := by
  obtain ⟨h1, h2, h3, ⟨vs, h5, h6⟩, h7, h8, h9⟩ := h
  exact ⟨h1.pure hg, Nat.le_trans h2 hg.size, h3.gr hg (by simp), ⟨vs, h5, h6.pure hg⟩, fun h => ⟨(h7 h).1, (h7 h).2.pure hg⟩, fun h => (h8 h).gr hg (by simp), fun h => let ⟨B, d, fs', a, b, l⟩ := h9 h; ⟨B, d, fs', a.gr hg (by simp), b.pure hg, l⟩⟩

theorem ApI.app (h : ApI p fs w0 N m k w) (hp : p.ok w0) (h12 : m 12 = false) (h15 : m 15 = false) {B5 : Option Addr} (hG : Grew (some ⟨p.gB, 0, none⟩) B5 w w') (ho : Own w p.lo 58 (some ⟨p.gB, 0, none⟩) p.cB fs) : ApI p fs w0 N (setm m 12) k w' := by
  obtain ⟨h1, h2, h3, ⟨vs, h5, h6⟩, h7, h8, h9⟩ := h
  obtain ⟨p1, p2, p3, p4, p5, p6, p7, p8, _⟩ := hp
  have hg : w.grownBy w' (some p.gB) := hG.1
  refine ⟨h1.new p1 hg (fun g e => by injection e; omega), Nat.le_trans h2 hg.size, h3.gr hg (fun e => by injection e; omega), ⟨vs, h5, h6.ne hg (fun g e1 e2 => by simp only [blk, Option.map_some, Option.some.injEq] at e1; injection e2; omega)⟩, ?_, ?_, ?_⟩
  · intro h; rw [setm_eq] at h; cases h
  · intro h; exact (h8 h15).gr hg (fun e => by injection e; omega)
  · intro h; rw [setm_ne (by decide), h15] at h; cases h

theorem ApI.fin (h : ApI p fs w0 N m k w) (hp : p.ok w0) {v : Value} (c : Cell w p.gm 1 v) {B : Option Addr} {d : Nat} {fs' : List Fc} (ho : Own w p.lo 58 B d fs') (hle : fs'.length ≤ p.nf + 1) : ApI p fs w0 N (setm m 15) k (w.setCell ⟨p.gm, 1, none⟩ (.slice B fs'.length d)) := by
  obtain ⟨h1, h2, h3, ⟨vs, h5, h6⟩, h7, h8, h9⟩ := h
  obtain ⟨p1, p2, p3, p4, p5, p6, p7, p8, _⟩ := hp
  have hg := gr_set (World.grownBy.refl w (some p.gm)) (p := ⟨p.gm, 1, none⟩) (.inl rfl) (.slice B fs'.length d)
  have hne : ∀ {α : Type} [Enc α] {A : Option Addr} {e : TypeId} {c : Nat} {l : List α}, Own w p.lo e A c l → ∀ g, blk A = some g → some p.gm ≠ some g := fun h g e1 e2 => by have := h.blk_lt e1; injection e2; omega
  refine ⟨h1.set p1 p2 _, by rw [heap_set]; exact h2, h3.set_ne _ (by decide), ⟨vs, h5, h6.ne hg (hne h6)⟩, ?_, ?_, ?_⟩
  · intro h; rw [setm_ne (by decide)] at h; exact ⟨(h7 h).1, (h7 h).2.ne hg (hne (h7 h).2)⟩
  · intro h; rw [setm_eq] at h; cases h
  · intro _; exact ⟨B, d, fs', c.set_ _, ho.ne hg (hne ho), hle⟩

theorem ApI.out (h : ApI p fs w0 N m k w) (h15 : m 15 = true) {M : Int} (hN : N + k ≤ M) : SpOut p w0 M (.returned (.tuple #[])) w := by
  obtain ⟨h1, h2, h3, ⟨vs, h5, h6⟩, h7, h8, h9⟩ := h
  obtain ⟨B, d, fs', a, b, l⟩ := h9 h15
  exact ⟨rfl, _, _, vs, B, d, fs', by rw [h5]; exact h3, a, h6, b, h1.mono hN, h5, l⟩

theorem SpI.ap {R : Fc → Prop} (h : SpI p R w0 N w) : ∃ fs : List Fc, ∀ m : Nat → Bool, m 15 = false → ApI p fs w0 N m 0 w := by
  obtain ⟨h1, h2, h3, h4, h5, fs, h7, h8, h9⟩ := h
  exact ⟨fs, fun m hm => ⟨by simpa using h1, h2, h3, h5, fun _ => ⟨h7, h9⟩, fun _ => h4, fun h => by rw [hm] at h; cases h⟩⟩
end

set_option maxHeartbeats 8000000 in
set_option maxRecDepth 100000 in
theorem spoil_any (p : Pl) (N : Int) (w0 w : World) (hp : p.ok w0) (h : SpI p (fun f => inF p.nv f = true) w0 N w) (hN : N ≤ 1000000000) (hnv : 1 ≤ p.nv) (hnf : 1 ≤ p.nf) :
    Calls Tryz.prog 32 #[.pointer (some ⟨p.b, 0, none⟩), .pointer (some ⟨p.gm, 0, none⟩)] w (SpOut p w0 (N + 10)) := by
  have hpp := hp
  obtain ⟨p1, p2, p3, p4, p5, p6, p7, p8, p9, p10⟩ := hpp
  have hW1 : ∀ g, SpW p g → g < p.lo2 := fun g h => by rcases h with rfl | rfl | rfl | rfl <;> omega
  have hbl : p.b + 1 ≤ p.lo2 := by omega
  replace hp := hide hp
  go_enter Tryz.func32, Tryz.ntmps32
  go_wp2_with fail
  replace hp := hp.out
  obtain ⟨NN, hNN⟩ : ∃ NN : Int, NN = N := ⟨_, rfl⟩
  have hNb : NN ≤ 1000000010 := by omega
  rw [← hNN] at h
  replace hNN := hide hNN
  refine wp_region_minvF (fun _ k w => SpI p (fun f => inF p.nv f = true) w0 (NN + k) w) (fun _ => Wrt (SpW p)) [VIs (.pointer (some ⟨p.gm, 0, none⟩)), VIs (.pointer (some ⟨p.gm, 0, none⟩)), VIs (.pointer (some ⟨p.gm, 1, none⟩)), VIs (.slice (some ⟨p.gB, 0, none⟩) p.nf p.cB), VIs (.pointer (some ⟨p.b, 0, none⟩)), VIs (.pointer (some ⟨p.gm, 0, none⟩)), VIs (.pointer (some ⟨p.gm, 0, none⟩)), VIs (.pointer (some ⟨p.gm, 1, none⟩)), VIs (.slice (some ⟨p.gB, 0, none⟩) p.nf p.cB), VIs (.int .i64 p.nf), VIntP (fun r => 0 ≤ r ∧ r < p.nf), VPtr0 p.gB p.nf, VPtr0 p.gB p.nf] [0, 0, 0, 0, 0, 0, 0, 0, 0, 0, 1, 0, 0] (by kernel_rfl) (by kernel_rfl) (by intro vs; simp only [putAll, Act.put, List.setIfInBounds_toArray, List.set_cons_zero, List.set_cons_succ, Nat.reduceAdd]; exact rfl) ?iv0 ?iv1 rfl ?iv2 ?iv3
  case iv1 => exact Stab.ok ⟨fun m v w w' _ _ h => h, fun m v w w' _ _ h => h, fun m v w w' _ _ h => h, fun m v w w' _ _ h => h, fun m v w w' _ _ h => h, fun m v w w' _ _ h => h, fun m v w w' _ _ h => h, fun m v w w' _ _ h => h, fun m v w w' _ _ h => h, fun m v w w' _ _ h => h, fun m v w w' _ _ h => h, fun m v w w' _ _ h => h, fun m v w w' _ _ h => h, trivial⟩
  case iv2 =>
    refine MOpsF.op (fun vs wx m k hmj hcl hI hk hf K hK => ?_) ?_
    · clear hf hcl
      replace hK := hide hK
      replace hI := hide hI
      go_wp2_with fail
      replace hK := hK.out (.pointer (some ⟨p.gm, 0, none⟩))
      simp only [Act.put, List.setIfInBounds_toArray, List.set_cons_zero, List.set_cons_succ, Nat.add_zero] at hK
      exact hK _ (hI.out) (Wrt.pure (World.grownBy.refl _ _)) (rfl)
    refine MOpsF.op (fun vs wx m k hmj hcl hI hk hf K hK => ?_) ?_
    · have e0 : vs 0 = .pointer (some ⟨p.gm, 0, none⟩) := hf 0 (by decide) (by kernel_rfl)
      clear hf hcl
      replace hK := hide hK
      replace hI := hide hI
      rw [e0]
      replace e0 := hide e0
      go_wp2_with fail
      replace hK := hK.out (.pointer (some ⟨p.gm, 0, none⟩))
      simp only [Act.put, List.setIfInBounds_toArray, List.set_cons_zero, List.set_cons_succ, e0.out, Nat.add_zero] at hK
      exact hK _ (hI.out) (Wrt.pure (World.grownBy.refl _ _)) (rfl)
    refine MOpsF.op (fun vs wx m k hmj hcl hI hk hf K hK => ?_) ?_
    · have e1 : vs 1 = .pointer (some ⟨p.gm, 0, none⟩) := hf 1 (by decide) (by kernel_rfl)
      clear hf hcl
      replace hK := hide hK
      replace hI := hide hI
      rw [e1]
      replace e1 := hide e1
      go_wp2_with fail
      replace hK := hK.out (.pointer (some ⟨p.gm, 1, none⟩))
      simp only [Act.put, List.setIfInBounds_toArray, List.set_cons_zero, List.set_cons_succ, e1.out, Nat.add_zero] at hK
      exact hK _ (hI.out) (Wrt.pure (World.grownBy.refl _ _)) (rfl)
    refine MOpsF.op (fun vs wx m k hmj hcl hI hk hf K hK => ?_) ?_
    · have e2 : vs 2 = .pointer (some ⟨p.gm, 1, none⟩) := hf 2 (by decide) (by kernel_rfl)
      clear hf hcl
      have c := hI.2.2.2.1.1
      replace hK := hide hK
      replace hI := hide hI
      rw [e2]
      replace e2 := hide e2
      go_wp2_with fail
      replace hK := hK.out (.slice (some ⟨p.gB, 0, none⟩) p.nf p.cB)
      simp only [Act.put, List.setIfInBounds_toArray, List.set_cons_zero, List.set_cons_succ, e2.out, Nat.add_zero] at hK
      exact hK _ (hI.out) (Wrt.pure (World.grownBy.refl _ _)) (rfl)
    refine MOpsF.op (fun vs wx m k hmj hcl hI hk hf K hK => ?_) ?_
    · clear hf hcl
      replace hK := hide hK
      replace hI := hide hI
      go_wp2_with fail
      replace hK := hK.out (.pointer (some ⟨p.b, 0, none⟩))
      simp only [Act.put, List.setIfInBounds_toArray, List.set_cons_zero, List.set_cons_succ, Nat.add_zero] at hK
      exact hK _ (hI.out) (Wrt.pure (World.grownBy.refl _ _)) (rfl)
    refine MOpsF.op (fun vs wx m k hmj hcl hI hk hf K hK => ?_) ?_
    · clear hf hcl
      replace hK := hide hK
      replace hI := hide hI
      go_wp2_with fail
      replace hK := hK.out (.pointer (some ⟨p.gm, 0, none⟩))
      simp only [Act.put, List.setIfInBounds_toArray, List.set_cons_zero, List.set_cons_succ, Nat.add_zero] at hK
      exact hK _ (hI.out) (Wrt.pure (World.grownBy.refl _ _)) (rfl)
    refine MOpsF.op (fun vs wx m k hmj hcl hI hk hf K hK => ?_) ?_
    · have e5 : vs 5 = .pointer (some ⟨p.gm, 0, none⟩) := hf 5 (by decide) (by kernel_rfl)
      clear hf hcl
      replace hK := hide hK
      replace hI := hide hI
      rw [e5]
      replace e5 := hide e5
      go_wp2_with fail
      replace hK := hK.out (.pointer (some ⟨p.gm, 0, none⟩))
      simp only [Act.put, List.setIfInBounds_toArray, List.set_cons_zero, List.set_cons_succ, e5.out, Nat.add_zero] at hK
      exact hK _ (hI.out) (Wrt.pure (World.grownBy.refl _ _)) (rfl)
    refine MOpsF.op (fun vs wx m k hmj hcl hI hk hf K hK => ?_) ?_
    · have e6 : vs 6 = .pointer (some ⟨p.gm, 0, none⟩) := hf 6 (by decide) (by kernel_rfl)
      clear hf hcl
      replace hK := hide hK
      replace hI := hide hI
      rw [e6]
      replace e6 := hide e6
      go_wp2_with fail
      replace hK := hK.out (.pointer (some ⟨p.gm, 1, none⟩))
      simp only [Act.put, List.setIfInBounds_toArray, List.set_cons_zero, List.set_cons_succ, e6.out, Nat.add_zero] at hK
      exact hK _ (hI.out) (Wrt.pure (World.grownBy.refl _ _)) (rfl)
    refine MOpsF.op (fun vs wx m k hmj hcl hI hk hf K hK => ?_) ?_
    · have e7 : vs 7 = .pointer (some ⟨p.gm, 1, none⟩) := hf 7 (by decide) (by kernel_rfl)
      clear hf hcl
      have c := hI.2.2.2.1.1
      replace hK := hide hK
      replace hI := hide hI
      rw [e7]
      replace e7 := hide e7
      go_wp2_with fail
      replace hK := hK.out (.slice (some ⟨p.gB, 0, none⟩) p.nf p.cB)
      simp only [Act.put, List.setIfInBounds_toArray, List.set_cons_zero, List.set_cons_succ, e7.out, Nat.add_zero] at hK
      exact hK _ (hI.out) (Wrt.pure (World.grownBy.refl _ _)) (rfl)
    refine MOpsF.op (fun vs wx m k hmj hcl hI hk hf K hK => ?_) ?_
    · have e8 : vs 8 = .slice (some ⟨p.gB, 0, none⟩) p.nf p.cB := hf 8 (by decide) (by kernel_rfl)
      clear hf hcl
      replace hK := hide hK
      replace hI := hide hI
      rw [e8]
      replace e8 := hide e8
      go_wp2_with fail
      replace hK := hK.out (.int .i64 p.nf)
      simp only [Act.put, List.setIfInBounds_toArray, List.set_cons_zero, List.set_cons_succ, e8.out, Nat.add_zero] at hK
      exact hK _ (hI.out) (Wrt.pure (World.grownBy.refl _ _)) (rfl)
    refine MOpsF.op (fun vs wx m k hmj hcl hI hk hf K hK => ?_) ?_
    · have e4 : vs 4 = .pointer (some ⟨p.b, 0, none⟩) := hf 4 (by decide) (by kernel_rfl)
      have e9 : vs 9 = .int .i64 p.nf := hf 9 (by decide) (by kernel_rfl)
      clear hf hcl
      have hk2 : k + 1 ≤ 1 := hk
      clear hk
      have hst := hI.1.2
      replace hK := hide hK
      replace hI := hide hI
      rw [e4, e9]
      replace e4 := hide e4
      replace e9 := hide e9
      go_wp2_with fail
      refine (next_any p.b (NN + k) _ _ hst (by omega) (by omega)).mono ?_
      rintro e wy ⟨r, rfl, hr, hoy⟩
      go_wp2_with fail
      replace hK := hK.out (.int .i64 r)
      simp only [Act.put, List.setIfInBounds_toArray, List.set_cons_zero, List.set_cons_succ, e4.out, e9.out] at hK
      exact hK _ ((hI.out.st hp (hoy.mono (by omega)))) (Wrt.one hoy.1 (.inl rfl)) (⟨r, rfl, hr⟩)
    refine MOpsF.op (fun vs wx m k hmj hcl hI hk hf K hK => ?_) ?_
    · have e3 : vs 3 = .slice (some ⟨p.gB, 0, none⟩) p.nf p.cB := hf 3 (by decide) (by kernel_rfl)
      obtain ⟨r10, e10, hr10⟩ := hf 10 (by decide) (by kernel_rfl)
      clear hf hcl
      obtain ⟨q, rfl⟩ := Int.eq_ofNat_of_zero_le hr10.1
      have hq : q < p.nf := by omega
      replace hK := hide hK
      replace hI := hide hI
      rw [e3, e10]
      replace e3 := hide e3
      replace e10 := hide e10
      go_wp2_with fail
      replace hK := hK.out (.pointer (some ⟨p.gB, q * 3, none⟩))
      simp only [Act.put, List.setIfInBounds_toArray, List.set_cons_zero, List.set_cons_succ, e3.out, e10.out, Nat.add_zero] at hK
      exact hK _ (hI.out) (Wrt.pure (World.grownBy.refl _ _)) (⟨q, rfl, hq⟩)
    refine MOpsF.op (fun vs wx m k hmj hcl hI hk hf K hK => ?_) ?_
    · obtain ⟨j11, e11, hj11⟩ := hf 11 (by decide) (by kernel_rfl)
      clear hf hcl
      replace hK := hide hK
      replace hI := hide hI
      rw [e11]
      replace e11 := hide e11
      go_wp2_with fail
      replace hK := hK.out (.pointer (some ⟨p.gB, j11 * 3, none⟩))
      simp only [Act.put, List.setIfInBounds_toArray, List.set_cons_zero, List.set_cons_succ, e11.out, Nat.add_zero] at hK
      exact hK _ (hI.out) (Wrt.pure (World.grownBy.refl _ _)) (⟨j11, rfl, hj11⟩)
    exact MOpsF.done
  case iv0 => exact fun m _ => (h.pure (gr_drew (World.grownBy.refl _ _))).mono (by simp)
  case iv3 =>
    intro vs w7 m hm' hI hf
    obtain ⟨j, e12, hj⟩ : VPtr0 p.gB p.nf (vs 12) w7 := hf 12 (by decide)
    replace hI : SpI p (fun f => inF p.nv f = true) w0 (NN + 1) w7 := hI.mono (by simp)
    clear hf hm' h
    rw [e12]
    clear e12
    replace hp := hide hp
    go_wp2_with fail
    refine (next_any p.b (NN + 1) 5 _ hI.1.2 (by omega) (by omega)).mono ?_
    rintro e w8 ⟨r, rfl, ⟨hr0, hr1⟩, ho8⟩
    replace hp := hp.out
    have h := hI.st hp ho8
    clear hI ho8
    obtain ⟨NN, hNN2⟩ : ∃ x : Int, x = NN + 1 + 1 := ⟨_, rfl⟩
    have hNb : NN ≤ 1000000020 := by omega
    rw [← hNN2] at h
    have hNM : NN = N + 2 := by have := hNN.out; omega
    replace hNM := hide hNM
    replace hNN2 := hide hNN2
    replace hp := hide hp
    have hr : r = 0 ∨ r = 1 ∨ r = 2 ∨ r = 3 ∨ r = 4 := by omega
    clear hr0 hr1
    rcases hr with rfl | rfl | rfl | rfl | rfl
    · go_wp2_with fail
      replace hp := hp.out
      refine wp_region_minvF (fun _ k w => SpI p (fun _ => True) w0 (NN + k) w) (fun _ => Wrt (SpW p)) [VIs (.pointer (some ⟨p.gB, j * 3, none⟩)), VIs (.pointer (some ⟨p.b, 0, none⟩)), VIs (.pointer (some ⟨p.gm, 0, none⟩)), VIs (.pointer (some ⟨p.gm, 0, none⟩)), VIs (.pointer (some ⟨p.gm, 0, none⟩)), VIs (.slice (some ⟨p.gA, 0, none⟩) p.nv p.cA), VIs (.int .i64 p.nv), VIs (.pointer (some ⟨p.gB, j * 3, none⟩)), VIs (.pointer (some ⟨p.gB, j * 3, none⟩)), VIs (.pointer (some ⟨p.gB, j * 3 + 1, none⟩)), VInt, VLit (α := Int) p.lo2 3, VInt, VIs (.pointer (some ⟨p.gB, j * 3, none⟩)), VIs (.pointer (some ⟨p.gB, j * 3, none⟩)), (fun _ _ => True)] [0, 0, 0, 0, 0, 0, 0, 0, 0, 0, 0, 0, 1, 0, 0, 0] (by kernel_rfl) (by kernel_rfl) (by intro vs; simp only [putAll, Act.put, List.setIfInBounds_toArray, List.set_cons_zero, List.set_cons_succ, Nat.reduceAdd]; exact rfl) ?iv0 ?iv1 rfl ?iv2 ?iv3
      case iv1 => exact Stab.ok ⟨fun m v w w' _ _ h => h, fun m v w w' _ _ h => h, fun m v w w' _ _ h => h, fun m v w w' _ _ h => h, fun m v w w' _ _ h => h, fun m v w w' _ _ h => h, fun m v w w' _ _ h => h, fun m v w w' _ _ h => h, fun m v w w' _ _ h => h, fun m v w w' _ _ h => h, fun m v w w' _ _ h => h, fun m v w w' _ hw h => h.stab hw hW1, fun m v w w' _ _ h => h, fun m v w w' _ _ h => h, fun m v w w' _ _ h => h, fun m v w w' _ _ h => h, trivial⟩
      case iv2 =>
        refine MOpsF.op (fun vs wx m k hmj hcl hI hk hf K hK => ?_) ?_
        · clear hf hcl
          replace hK := hide hK
          replace hI := hide hI
          go_wp2_with fail
          replace hK := hK.out (.pointer (some ⟨p.gB, j * 3, none⟩))
          simp only [Act.put, List.setIfInBounds_toArray, List.set_cons_zero, List.set_cons_succ, Nat.add_zero] at hK
          exact hK _ (hI.out) (Wrt.pure (World.grownBy.refl _ _)) (rfl)
        refine MOpsF.op (fun vs wx m k hmj hcl hI hk hf K hK => ?_) ?_
        · clear hf hcl
          replace hK := hide hK
          replace hI := hide hI
          go_wp2_with fail
          replace hK := hK.out (.pointer (some ⟨p.b, 0, none⟩))
          simp only [Act.put, List.setIfInBounds_toArray, List.set_cons_zero, List.set_cons_succ, Nat.add_zero] at hK
          exact hK _ (hI.out) (Wrt.pure (World.grownBy.refl _ _)) (rfl)
        refine MOpsF.op (fun vs wx m k hmj hcl hI hk hf K hK => ?_) ?_
        · clear hf hcl
          replace hK := hide hK
          replace hI := hide hI
          go_wp2_with fail
          replace hK := hK.out (.pointer (some ⟨p.gm, 0, none⟩))
          simp only [Act.put, List.setIfInBounds_toArray, List.set_cons_zero, List.set_cons_succ, Nat.add_zero] at hK
          exact hK _ (hI.out) (Wrt.pure (World.grownBy.refl _ _)) (rfl)
        refine MOpsF.op (fun vs wx m k hmj hcl hI hk hf K hK => ?_) ?_
        · have e2 : vs 2 = .pointer (some ⟨p.gm, 0, none⟩) := hf 2 (by decide) (by kernel_rfl)
          clear hf hcl
          replace hK := hide hK
          replace hI := hide hI
          rw [e2]
          replace e2 := hide e2
          go_wp2_with fail
          replace hK := hK.out (.pointer (some ⟨p.gm, 0, none⟩))
          simp only [Act.put, List.setIfInBounds_toArray, List.set_cons_zero, List.set_cons_succ, e2.out, Nat.add_zero] at hK
          exact hK _ (hI.out) (Wrt.pure (World.grownBy.refl _ _)) (rfl)
        refine MOpsF.op (fun vs wx m k hmj hcl hI hk hf K hK => ?_) ?_
        · have e3 : vs 3 = .pointer (some ⟨p.gm, 0, none⟩) := hf 3 (by decide) (by kernel_rfl)
          clear hf hcl
          replace hK := hide hK
          replace hI := hide hI
          rw [e3]
          replace e3 := hide e3
          go_wp2_with fail
          replace hK := hK.out (.pointer (some ⟨p.gm, 0, none⟩))
          simp only [Act.put, List.setIfInBounds_toArray, List.set_cons_zero, List.set_cons_succ, e3.out, Nat.add_zero] at hK
          exact hK _ (hI.out) (Wrt.pure (World.grownBy.refl _ _)) (rfl)
        refine MOpsF.op (fun vs wx m k hmj hcl hI hk hf K hK => ?_) ?_
        · have e4 : vs 4 = .pointer (some ⟨p.gm, 0, none⟩) := hf 4 (by decide) (by kernel_rfl)
          clear hf hcl
          have c := hI.2.2.1.1
          replace hK := hide hK
          replace hI := hide hI
          rw [e4]
          replace e4 := hide e4
          go_wp2_with fail
          replace hK := hK.out (.slice (some ⟨p.gA, 0, none⟩) p.nv p.cA)
          simp only [Act.put, List.setIfInBounds_toArray, List.set_cons_zero, List.set_cons_succ, e4.out, Nat.add_zero] at hK
          exact hK _ (hI.out) (Wrt.pure (World.grownBy.refl _ _)) (rfl)
        refine MOpsF.op (fun vs wx m k hmj hcl hI hk hf K hK => ?_) ?_
        · have e5 : vs 5 = .slice (some ⟨p.gA, 0, none⟩) p.nv p.cA := hf 5 (by decide) (by kernel_rfl)
          clear hf hcl
          replace hK := hide hK
          replace hI := hide hI
          rw [e5]
          replace e5 := hide e5
          go_wp2_with fail
          replace hK := hK.out (.int .i64 p.nv)
          simp only [Act.put, List.setIfInBounds_toArray, List.set_cons_zero, List.set_cons_succ, e5.out, Nat.add_zero] at hK
          exact hK _ (hI.out) (Wrt.pure (World.grownBy.refl _ _)) (rfl)
        refine MOpsF.op (fun vs wx m k hmj hcl hI hk hf K hK => ?_) ?_
        · clear hf hcl
          replace hK := hide hK
          replace hI := hide hI
          go_wp2_with fail
          replace hK := hK.out (.pointer (some ⟨p.gB, j * 3, none⟩))
          simp only [Act.put, List.setIfInBounds_toArray, List.set_cons_zero, List.set_cons_succ, Nat.add_zero] at hK
          exact hK _ (hI.out) (Wrt.pure (World.grownBy.refl _ _)) (rfl)
        refine MOpsF.op (fun vs wx m k hmj hcl hI hk hf K hK => ?_) ?_
        · have e7 : vs 7 = .pointer (some ⟨p.gB, j * 3, none⟩) := hf 7 (by decide) (by kernel_rfl)
          clear hf hcl
          replace hK := hide hK
          replace hI := hide hI
          rw [e7]
          replace e7 := hide e7
          go_wp2_with fail
          replace hK := hK.out (.pointer (some ⟨p.gB, j * 3, none⟩))
          simp only [Act.put, List.setIfInBounds_toArray, List.set_cons_zero, List.set_cons_succ, e7.out, Nat.add_zero] at hK
          exact hK _ (hI.out) (Wrt.pure (World.grownBy.refl _ _)) (rfl)
        refine MOpsF.op (fun vs wx m k hmj hcl hI hk hf K hK => ?_) ?_
        · have e8 : vs 8 = .pointer (some ⟨p.gB, j * 3, none⟩) := hf 8 (by decide) (by kernel_rfl)
          clear hf hcl
          replace hK := hide hK
          replace hI := hide hI
          rw [e8]
          replace e8 := hide e8
          go_wp2_with fail
          replace hK := hK.out (.pointer (some ⟨p.gB, j * 3 + 1, none⟩))
          simp only [Act.put, List.setIfInBounds_toArray, List.set_cons_zero, List.set_cons_succ, e8.out, Nat.add_zero] at hK
          exact hK _ (hI.out) (Wrt.pure (World.grownBy.refl _ _)) (rfl)
        refine MOpsF.op (fun vs wx m k hmj hcl hI hk hf K hK => ?_) ?_
        · have e9 : vs 9 = .pointer (some ⟨p.gB, j * 3 + 1, none⟩) := hf 9 (by decide) (by kernel_rfl)
          clear hf hcl
          obtain ⟨f, _, q0, q1, q2⟩ := hI.face hj
          clear q0 q2
          replace hK := hide hK
          replace hI := hide hI
          rw [e9]
          replace e9 := hide e9
          go_wp2_with fail
          replace hK := hK.out (.int .i64 f.b)
          simp only [Act.put, List.setIfInBounds_toArray, List.set_cons_zero, List.set_cons_succ, e9.out, Nat.add_zero] at hK
          exact hK _ (hI.out) (Wrt.pure (World.grownBy.refl _ _)) (⟨_, rfl⟩)
        refine MOpsF.op (fun vs wx m k hmj hcl hI hk hf K hK => ?_) ?_
        · have e6 : vs 6 = .int .i64 p.nv := hf 6 (by decide) (by kernel_rfl)
          obtain ⟨r10, e10⟩ := hf 10 (by decide) (by kernel_rfl)
          clear hf hcl
          replace hK := hide hK
          replace hI := hide hI
          rw [e6, e10]
          replace e6 := hide e6
          replace e10 := hide e10
          go_wp2_with fail
          replace hK := hK.out (.slice (some ⟨wx.heap.size, 0, none⟩) 3 3)
          simp only [Act.put, List.setIfInBounds_toArray, List.set_cons_zero, List.set_cons_succ, e6.out, e10.out, Nat.add_zero] at hK
          exact hK _ ((hI.out.pure (gr_alloc (World.grownBy.refl _ _) _))) (Wrt.pure (gr_alloc (World.grownBy.refl _ _) _)) (⟨wx.heap.size, [-1, p.nv, r10], rfl, rfl, sl_intsAt _ _ _ _ _ rfl hI.out.2.1 (by simp [maxLen])⟩)
        refine MOpsF.op (fun vs wx m k hmj hcl hI hk hf K hK => ?_) ?_
        · have e1 : vs 1 = .pointer (some ⟨p.b, 0, none⟩) := hf 1 (by decide) (by kernel_rfl)
          obtain ⟨g11, ll, e11, hll, hsl⟩ := hf 11 (by decide) (by kernel_rfl)
          clear hf hcl
          have hk2 : k + 1 ≤ 1 := hk
          clear hk
          have hst := hI.1.2
          replace hK := hide hK
          replace hI := hide hI
          rw [e1, e11]
          replace e1 := hide e1
          replace e11 := hide e11
          go_wp2_with fail
          refine (pick_any p.b (NN + k) _ _ _ ll _ hst (by omega) (hsl.mono (by omega)) hll (by simp)).mono ?_
          rintro e wy ⟨r, rfl, _, hoy⟩
          go_wp2_with fail
          replace hK := hK.out (.int .i64 r)
          simp only [Act.put, List.setIfInBounds_toArray, List.set_cons_zero, List.set_cons_succ, e1.out, e11.out] at hK
          exact hK _ ((hI.out.st hp (hoy.mono (by omega)))) (Wrt.one hoy.1 (.inl rfl)) (⟨r, rfl⟩)
        refine MOpsF.op (fun vs wx m k hmj hcl hI hk hf K hK => ?_) ?_
        · have e0 : vs 0 = .pointer (some ⟨p.gB, j * 3, none⟩) := hf 0 (by decide) (by kernel_rfl)
          clear hf hcl
          replace hK := hide hK
          replace hI := hide hI
          rw [e0]
          replace e0 := hide e0
          go_wp2_with fail
          replace hK := hK.out (.pointer (some ⟨p.gB, j * 3, none⟩))
          simp only [Act.put, List.setIfInBounds_toArray, List.set_cons_zero, List.set_cons_succ, e0.out, Nat.add_zero] at hK
          exact hK _ (hI.out) (Wrt.pure (World.grownBy.refl _ _)) (rfl)
        refine MOpsF.op (fun vs wx m k hmj hcl hI hk hf K hK => ?_) ?_
        · have e13 : vs 13 = .pointer (some ⟨p.gB, j * 3, none⟩) := hf 13 (by decide) (by kernel_rfl)
          clear hf hcl
          replace hK := hide hK
          replace hI := hide hI
          rw [e13]
          replace e13 := hide e13
          go_wp2_with fail
          replace hK := hK.out (.pointer (some ⟨p.gB, j * 3, none⟩))
          simp only [Act.put, List.setIfInBounds_toArray, List.set_cons_zero, List.set_cons_succ, e13.out, Nat.add_zero] at hK
          exact hK _ (hI.out) (Wrt.pure (World.grownBy.refl _ _)) (rfl)
        refine MOpsF.op (fun vs wx m k hmj hcl hI hk hf K hK => ?_) ?_
        · have e14 : vs 14 = .pointer (some ⟨p.gB, j * 3, none⟩) := hf 14 (by decide) (by kernel_rfl)
          obtain ⟨r12, e12⟩ := hf 12 (by decide) (by kernel_rfl)
          clear hf hcl
          obtain ⟨f, _, q0, q1, q2⟩ := hI.face hj
          have fz := hI.fzB (j * 3 + 0)
          rw [Nat.add_zero] at fz
          replace hK := hide hK
          replace hI := hide hI
          rw [e14, e12]
          replace e14 := hide e14
          replace e12 := hide e12
          go_wp2_with fail
          replace hK := hK.out (undef)
          simp only [Act.put, List.setIfInBounds_toArray, List.set_cons_zero, List.set_cons_succ, e14.out, e12.out, Nat.add_zero] at hK
          exact hK _ ((hI.out.setF hp hj (e := 0) (by decide) r12)) (Wrt.one (gr_set (World.grownBy.refl _ _) (.inl rfl) _) (.inr (.inr (.inr rfl)))) (trivial)
        exact MOpsF.done
      case iv0 => exact fun m _ => (h.any.pure (gr_drew (World.grownBy.refl _ _))).mono (by simp)
      case iv3 =>
        intro vs w9 m hm' hI hf
        clear hf hm'
        go_wp2_with fail
        go_end0
        exact hI.out (by have := hNM.out; simp; omega)
    · go_wp2_with fail
      replace hp := hp.out
      refine wp_region_minvF (fun _ k w => SpI p (fun _ => True) w0 (NN + k) w) (fun _ => Wrt (SpW p)) [VIs (.pointer (some ⟨p.gB, j * 3, none⟩)), VIs (.pointer (some ⟨p.gB, j * 3, none⟩)), VIs (.pointer (some ⟨p.gB, j * 3, none⟩)), VIs (.pointer (some ⟨p.gB, j * 3, none⟩)), VIs (.pointer (some ⟨p.gB, j * 3 + 2, none⟩)), VInt, VIs (.pointer (some ⟨p.gB, j * 3, none⟩)), VIs (.pointer (some ⟨p.gB, j * 3, none⟩)), VIs (.pointer (some ⟨p.gB, j * 3 + 1, none⟩)), VInt, VIs (.pointer (some ⟨p.gB, j * 3, none⟩)), VIs (.pointer (some ⟨p.gB, j * 3 + 1, none⟩)), (fun _ _ => True), VIs (.pointer (some ⟨p.gB, j * 3, none⟩)), VIs (.pointer (some ⟨p.gB, j * 3 + 2, none⟩)), (fun _ _ => True)] [0, 0, 0, 0, 0, 0, 0, 0, 0, 0, 0, 0, 0, 0, 0, 0] (by kernel_rfl) (by kernel_rfl) (by intro vs; simp only [putAll, Act.put, List.setIfInBounds_toArray, List.set_cons_zero, List.set_cons_succ, Nat.reduceAdd]; exact rfl) ?iv0 ?iv1 rfl ?iv2 ?iv3
      case iv1 => exact Stab.ok ⟨fun m v w w' _ _ h => h, fun m v w w' _ _ h => h, fun m v w w' _ _ h => h, fun m v w w' _ _ h => h, fun m v w w' _ _ h => h, fun m v w w' _ _ h => h, fun m v w w' _ _ h => h, fun m v w w' _ _ h => h, fun m v w w' _ _ h => h, fun m v w w' _ _ h => h, fun m v w w' _ _ h => h, fun m v w w' _ _ h => h, fun m v w w' _ _ h => h, fun m v w w' _ _ h => h, fun m v w w' _ _ h => h, fun m v w w' _ _ h => h, trivial⟩
      case iv2 =>
        refine MOpsF.op (fun vs wx m k hmj hcl hI hk hf K hK => ?_) ?_
        · clear hf hcl
          replace hK := hide hK
          replace hI := hide hI
          go_wp2_with fail
          replace hK := hK.out (.pointer (some ⟨p.gB, j * 3, none⟩))
          simp only [Act.put, List.setIfInBounds_toArray, List.set_cons_zero, List.set_cons_succ, Nat.add_zero] at hK
          exact hK _ (hI.out) (Wrt.pure (World.grownBy.refl _ _)) (rfl)
        refine MOpsF.op (fun vs wx m k hmj hcl hI hk hf K hK => ?_) ?_
        · clear hf hcl
          replace hK := hide hK
          replace hI := hide hI
          go_wp2_with fail
          replace hK := hK.out (.pointer (some ⟨p.gB, j * 3, none⟩))
          simp only [Act.put, List.setIfInBounds_toArray, List.set_cons_zero, List.set_cons_succ, Nat.add_zero] at hK
          exact hK _ (hI.out) (Wrt.pure (World.grownBy.refl _ _)) (rfl)
        refine MOpsF.op (fun vs wx m k hmj hcl hI hk hf K hK => ?_) ?_
        · clear hf hcl
          replace hK := hide hK
          replace hI := hide hI
          go_wp2_with fail
          replace hK := hK.out (.pointer (some ⟨p.gB, j * 3, none⟩))
          simp only [Act.put, List.setIfInBounds_toArray, List.set_cons_zero, List.set_cons_succ, Nat.add_zero] at hK
          exact hK _ (hI.out) (Wrt.pure (World.grownBy.refl _ _)) (rfl)
        refine MOpsF.op (fun vs wx m k hmj hcl hI hk hf K hK => ?_) ?_
        · have e2 : vs 2 = .pointer (some ⟨p.gB, j * 3, none⟩) := hf 2 (by decide) (by kernel_rfl)
          clear hf hcl
          replace hK := hide hK
          replace hI := hide hI
          rw [e2]
          replace e2 := hide e2
          go_wp2_with fail
          replace hK := hK.out (.pointer (some ⟨p.gB, j * 3, none⟩))
          simp only [Act.put, List.setIfInBounds_toArray, List.set_cons_zero, List.set_cons_succ, e2.out, Nat.add_zero] at hK
          exact hK _ (hI.out) (Wrt.pure (World.grownBy.refl _ _)) (rfl)
        refine MOpsF.op (fun vs wx m k hmj hcl hI hk hf K hK => ?_) ?_
        · have e3 : vs 3 = .pointer (some ⟨p.gB, j * 3, none⟩) := hf 3 (by decide) (by kernel_rfl)
          clear hf hcl
          replace hK := hide hK
          replace hI := hide hI
          rw [e3]
          replace e3 := hide e3
          go_wp2_with fail
          replace hK := hK.out (.pointer (some ⟨p.gB, j * 3 + 2, none⟩))
          simp only [Act.put, List.setIfInBounds_toArray, List.set_cons_zero, List.set_cons_succ, e3.out, Nat.add_zero] at hK
          exact hK _ (hI.out) (Wrt.pure (World.grownBy.refl _ _)) (rfl)
        refine MOpsF.op (fun vs wx m k hmj hcl hI hk hf K hK => ?_) ?_
        · have e4 : vs 4 = .pointer (some ⟨p.gB, j * 3 + 2, none⟩) := hf 4 (by decide) (by kernel_rfl)
          clear hf hcl
          obtain ⟨f, _, q0, q1, q2⟩ := hI.face hj
          replace hK := hide hK
          replace hI := hide hI
          rw [e4]
          replace e4 := hide e4
          go_wp2_with fail
          replace hK := hK.out (.int .i64 f.c)
          simp only [Act.put, List.setIfInBounds_toArray, List.set_cons_zero, List.set_cons_succ, e4.out, Nat.add_zero] at hK
          exact hK _ (hI.out) (Wrt.pure (World.grownBy.refl _ _)) (⟨_, rfl⟩)
        refine MOpsF.op (fun vs wx m k hmj hcl hI hk hf K hK => ?_) ?_
        · clear hf hcl
          replace hK := hide hK
          replace hI := hide hI
          go_wp2_with fail
          replace hK := hK.out (.pointer (some ⟨p.gB, j * 3, none⟩))
          simp only [Act.put, List.setIfInBounds_toArray, List.set_cons_zero, List.set_cons_succ, Nat.add_zero] at hK
          exact hK _ (hI.out) (Wrt.pure (World.grownBy.refl _ _)) (rfl)
        refine MOpsF.op (fun vs wx m k hmj hcl hI hk hf K hK => ?_) ?_
        · have e6 : vs 6 = .pointer (some ⟨p.gB, j * 3, none⟩) := hf 6 (by decide) (by kernel_rfl)
          clear hf hcl
          replace hK := hide hK
          replace hI := hide hI
          rw [e6]
          replace e6 := hide e6
          go_wp2_with fail
          replace hK := hK.out (.pointer (some ⟨p.gB, j * 3, none⟩))
          simp only [Act.put, List.setIfInBounds_toArray, List.set_cons_zero, List.set_cons_succ, e6.out, Nat.add_zero] at hK
          exact hK _ (hI.out) (Wrt.pure (World.grownBy.refl _ _)) (rfl)
        refine MOpsF.op (fun vs wx m k hmj hcl hI hk hf K hK => ?_) ?_
        · have e7 : vs 7 = .pointer (some ⟨p.gB, j * 3, none⟩) := hf 7 (by decide) (by kernel_rfl)
          clear hf hcl
          replace hK := hide hK
          replace hI := hide hI
          rw [e7]
          replace e7 := hide e7
          go_wp2_with fail
          replace hK := hK.out (.pointer (some ⟨p.gB, j * 3 + 1, none⟩))
          simp only [Act.put, List.setIfInBounds_toArray, List.set_cons_zero, List.set_cons_succ, e7.out, Nat.add_zero] at hK
          exact hK _ (hI.out) (Wrt.pure (World.grownBy.refl _ _)) (rfl)
        refine MOpsF.op (fun vs wx m k hmj hcl hI hk hf K hK => ?_) ?_
        · have e8 : vs 8 = .pointer (some ⟨p.gB, j * 3 + 1, none⟩) := hf 8 (by decide) (by kernel_rfl)
          clear hf hcl
          obtain ⟨f, _, q0, q1, q2⟩ := hI.face hj
          replace hK := hide hK
          replace hI := hide hI
          rw [e8]
          replace e8 := hide e8
          go_wp2_with fail
          replace hK := hK.out (.int .i64 f.b)
          simp only [Act.put, List.setIfInBounds_toArray, List.set_cons_zero, List.set_cons_succ, e8.out, Nat.add_zero] at hK
          exact hK _ (hI.out) (Wrt.pure (World.grownBy.refl _ _)) (⟨_, rfl⟩)
        refine MOpsF.op (fun vs wx m k hmj hcl hI hk hf K hK => ?_) ?_
        · have e0 : vs 0 = .pointer (some ⟨p.gB, j * 3, none⟩) := hf 0 (by decide) (by kernel_rfl)
          clear hf hcl
          replace hK := hide hK
          replace hI := hide hI
          rw [e0]
          replace e0 := hide e0
          go_wp2_with fail
          replace hK := hK.out (.pointer (some ⟨p.gB, j * 3, none⟩))
          simp only [Act.put, List.setIfInBounds_toArray, List.set_cons_zero, List.set_cons_succ, e0.out, Nat.add_zero] at hK
          exact hK _ (hI.out) (Wrt.pure (World.grownBy.refl _ _)) (rfl)
        refine MOpsF.op (fun vs wx m k hmj hcl hI hk hf K hK => ?_) ?_
        · have e10 : vs 10 = .pointer (some ⟨p.gB, j * 3, none⟩) := hf 10 (by decide) (by kernel_rfl)
          clear hf hcl
          replace hK := hide hK
          replace hI := hide hI
          rw [e10]
          replace e10 := hide e10
          go_wp2_with fail
          replace hK := hK.out (.pointer (some ⟨p.gB, j * 3 + 1, none⟩))
          simp only [Act.put, List.setIfInBounds_toArray, List.set_cons_zero, List.set_cons_succ, e10.out, Nat.add_zero] at hK
          exact hK _ (hI.out) (Wrt.pure (World.grownBy.refl _ _)) (rfl)
        refine MOpsF.op (fun vs wx m k hmj hcl hI hk hf K hK => ?_) ?_
        · have e11 : vs 11 = .pointer (some ⟨p.gB, j * 3 + 1, none⟩) := hf 11 (by decide) (by kernel_rfl)
          obtain ⟨r5, e5⟩ := hf 5 (by decide) (by kernel_rfl)
          clear hf hcl
          obtain ⟨f, _, q0, q1, q2⟩ := hI.face hj
          have fz := hI.fzB (j * 3 + 1)
          replace hK := hide hK
          replace hI := hide hI
          rw [e11, e5]
          replace e11 := hide e11
          replace e5 := hide e5
          go_wp2_with fail
          replace hK := hK.out (undef)
          simp only [Act.put, List.setIfInBounds_toArray, List.set_cons_zero, List.set_cons_succ, e11.out, e5.out, Nat.add_zero] at hK
          exact hK _ ((hI.out.setF hp hj (e := 1) (by decide) r5)) (Wrt.one (gr_set (World.grownBy.refl _ _) (.inl rfl) _) (.inr (.inr (.inr rfl)))) (trivial)
        refine MOpsF.op (fun vs wx m k hmj hcl hI hk hf K hK => ?_) ?_
        · have e1 : vs 1 = .pointer (some ⟨p.gB, j * 3, none⟩) := hf 1 (by decide) (by kernel_rfl)
          clear hf hcl
          replace hK := hide hK
          replace hI := hide hI
          rw [e1]
          replace e1 := hide e1
          go_wp2_with fail
          replace hK := hK.out (.pointer (some ⟨p.gB, j * 3, none⟩))
          simp only [Act.put, List.setIfInBounds_toArray, List.set_cons_zero, List.set_cons_succ, e1.out, Nat.add_zero] at hK
          exact hK _ (hI.out) (Wrt.pure (World.grownBy.refl _ _)) (rfl)
        refine MOpsF.op (fun vs wx m k hmj hcl hI hk hf K hK => ?_) ?_
        · have e13 : vs 13 = .pointer (some ⟨p.gB, j * 3, none⟩) := hf 13 (by decide) (by kernel_rfl)
          clear hf hcl
          replace hK := hide hK
          replace hI := hide hI
          rw [e13]
          replace e13 := hide e13
          go_wp2_with fail
          replace hK := hK.out (.pointer (some ⟨p.gB, j * 3 + 2, none⟩))
          simp only [Act.put, List.setIfInBounds_toArray, List.set_cons_zero, List.set_cons_succ, e13.out, Nat.add_zero] at hK
          exact hK _ (hI.out) (Wrt.pure (World.grownBy.refl _ _)) (rfl)
        refine MOpsF.op (fun vs wx m k hmj hcl hI hk hf K hK => ?_) ?_
        · have e14 : vs 14 = .pointer (some ⟨p.gB, j * 3 + 2, none⟩) := hf 14 (by decide) (by kernel_rfl)
          obtain ⟨r9, e9⟩ := hf 9 (by decide) (by kernel_rfl)
          clear hf hcl
          obtain ⟨f, _, q0, q1, q2⟩ := hI.face hj
          have fz := hI.fzB (j * 3 + 2)
          replace hK := hide hK
          replace hI := hide hI
          rw [e14, e9]
          replace e14 := hide e14
          replace e9 := hide e9
          go_wp2_with fail
          replace hK := hK.out (undef)
          simp only [Act.put, List.setIfInBounds_toArray, List.set_cons_zero, List.set_cons_succ, e14.out, e9.out, Nat.add_zero] at hK
          exact hK _ ((hI.out.setF hp hj (e := 2) (by decide) r9)) (Wrt.one (gr_set (World.grownBy.refl _ _) (.inl rfl) _) (.inr (.inr (.inr rfl)))) (trivial)
        exact MOpsF.done
      case iv0 => exact fun m _ => (h.any.pure (gr_drew (World.grownBy.refl _ _))).mono (by simp)
      case iv3 =>
        intro vs w9 m hm' hI hf
        clear hf hm'
        go_wp2_with fail
        go_end0
        exact hI.out (by have := hNM.out; simp; omega)
    · go_wp2_with fail
      replace hp := hp.out
      refine wp_region_minvF (fun _ k w => SpI p (fun _ => True) w0 (NN + k) w) (fun _ => Wrt (SpW p)) [VIs (.pointer (some ⟨p.gm, 0, none⟩)), VIs (.pointer (some ⟨p.gm, 0, none⟩)), VIs (.pointer (some ⟨p.gm, 0, none⟩)), VIs (.slice (some ⟨p.gA, 0, none⟩) p.nv p.cA), VIs (.pointer (some ⟨p.b, 0, none⟩)), VIs (.pointer (some ⟨p.gm, 0, none⟩)), VIs (.pointer (some ⟨p.gm, 0, none⟩)), VIs (.pointer (some ⟨p.gm, 0, none⟩)), VIs (.slice (some ⟨p.gA, 0, none⟩) p.nv p.cA), VIs (.int .i64 p.nv), VIntP (fun r => 0 ≤ r ∧ r < p.nv), VIs (.pointer (some ⟨p.b, 0, none⟩)), VInt, VPtr0 p.gA p.nv, VPtrE p.gA 2 p.nv, (fun _ _ => True)] [0, 0, 0, 0, 0, 0, 0, 0, 0, 0, 1, 0, 2, 0, 0, 0] (by kernel_rfl) (by kernel_rfl) (by intro vs; simp only [putAll, Act.put, List.setIfInBounds_toArray, List.set_cons_zero, List.set_cons_succ, Nat.reduceAdd]; exact rfl) ?iv0 ?iv1 rfl ?iv2 ?iv3
      case iv1 => exact Stab.ok ⟨fun m v w w' _ _ h => h, fun m v w w' _ _ h => h, fun m v w w' _ _ h => h, fun m v w w' _ _ h => h, fun m v w w' _ _ h => h, fun m v w w' _ _ h => h, fun m v w w' _ _ h => h, fun m v w w' _ _ h => h, fun m v w w' _ _ h => h, fun m v w w' _ _ h => h, fun m v w w' _ _ h => h, fun m v w w' _ _ h => h, fun m v w w' _ _ h => h, fun m v w w' _ _ h => h, fun m v w w' _ _ h => h, fun m v w w' _ _ h => h, trivial⟩
      case iv2 =>
        refine MOpsF.op (fun vs wx m k hmj hcl hI hk hf K hK => ?_) ?_
        · clear hf hcl
          replace hK := hide hK
          replace hI := hide hI
          go_wp2_with fail
          replace hK := hK.out (.pointer (some ⟨p.gm, 0, none⟩))
          simp only [Act.put, List.setIfInBounds_toArray, List.set_cons_zero, List.set_cons_succ, Nat.add_zero] at hK
          exact hK _ (hI.out) (Wrt.pure (World.grownBy.refl _ _)) (rfl)
        refine MOpsF.op (fun vs wx m k hmj hcl hI hk hf K hK => ?_) ?_
        · have e0 : vs 0 = .pointer (some ⟨p.gm, 0, none⟩) := hf 0 (by decide) (by kernel_rfl)
          clear hf hcl
          replace hK := hide hK
          replace hI := hide hI
          rw [e0]
          replace e0 := hide e0
          go_wp2_with fail
          replace hK := hK.out (.pointer (some ⟨p.gm, 0, none⟩))
          simp only [Act.put, List.setIfInBounds_toArray, List.set_cons_zero, List.set_cons_succ, e0.out, Nat.add_zero] at hK
          exact hK _ (hI.out) (Wrt.pure (World.grownBy.refl _ _)) (rfl)
        refine MOpsF.op (fun vs wx m k hmj hcl hI hk hf K hK => ?_) ?_
        · have e1 : vs 1 = .pointer (some ⟨p.gm, 0, none⟩) := hf 1 (by decide) (by kernel_rfl)
          clear hf hcl
          replace hK := hide hK
          replace hI := hide hI
          rw [e1]
          replace e1 := hide e1
          go_wp2_with fail
          replace hK := hK.out (.pointer (some ⟨p.gm, 0, none⟩))
          simp only [Act.put, List.setIfInBounds_toArray, List.set_cons_zero, List.set_cons_succ, e1.out, Nat.add_zero] at hK
          exact hK _ (hI.out) (Wrt.pure (World.grownBy.refl _ _)) (rfl)
        refine MOpsF.op (fun vs wx m k hmj hcl hI hk hf K hK => ?_) ?_
        · have e2 : vs 2 = .pointer (some ⟨p.gm, 0, none⟩) := hf 2 (by decide) (by kernel_rfl)
          clear hf hcl
          have c := hI.2.2.1.1
          replace hK := hide hK
          replace hI := hide hI
          rw [e2]
          replace e2 := hide e2
          go_wp2_with fail
          replace hK := hK.out (.slice (some ⟨p.gA, 0, none⟩) p.nv p.cA)
          simp only [Act.put, List.setIfInBounds_toArray, List.set_cons_zero, List.set_cons_succ, e2.out, Nat.add_zero] at hK
          exact hK _ (hI.out) (Wrt.pure (World.grownBy.refl _ _)) (rfl)
        refine MOpsF.op (fun vs wx m k hmj hcl hI hk hf K hK => ?_) ?_
        · clear hf hcl
          replace hK := hide hK
          replace hI := hide hI
          go_wp2_with fail
          replace hK := hK.out (.pointer (some ⟨p.b, 0, none⟩))
          simp only [Act.put, List.setIfInBounds_toArray, List.set_cons_zero, List.set_cons_succ, Nat.add_zero] at hK
          exact hK _ (hI.out) (Wrt.pure (World.grownBy.refl _ _)) (rfl)
        refine MOpsF.op (fun vs wx m k hmj hcl hI hk hf K hK => ?_) ?_
        · clear hf hcl
          replace hK := hide hK
          replace hI := hide hI
          go_wp2_with fail
          replace hK := hK.out (.pointer (some ⟨p.gm, 0, none⟩))
          simp only [Act.put, List.setIfInBounds_toArray, List.set_cons_zero, List.set_cons_succ, Nat.add_zero] at hK
          exact hK _ (hI.out) (Wrt.pure (World.grownBy.refl _ _)) (rfl)
        refine MOpsF.op (fun vs wx m k hmj hcl hI hk hf K hK => ?_) ?_
        · have e5 : vs 5 = .pointer (some ⟨p.gm, 0, none⟩) := hf 5 (by decide) (by kernel_rfl)
          clear hf hcl
          replace hK := hide hK
          replace hI := hide hI
          rw [e5]
          replace e5 := hide e5
          go_wp2_with fail
          replace hK := hK.out (.pointer (some ⟨p.gm, 0, none⟩))
          simp only [Act.put, List.setIfInBounds_toArray, List.set_cons_zero, List.set_cons_succ, e5.out, Nat.add_zero] at hK
          exact hK _ (hI.out) (Wrt.pure (World.grownBy.refl _ _)) (rfl)
        refine MOpsF.op (fun vs wx m k hmj hcl hI hk hf K hK => ?_) ?_
        · have e6 : vs 6 = .pointer (some ⟨p.gm, 0, none⟩) := hf 6 (by decide) (by kernel_rfl)
          clear hf hcl
          replace hK := hide hK
          replace hI := hide hI
          rw [e6]
          replace e6 := hide e6
          go_wp2_with fail
          replace hK := hK.out (.pointer (some ⟨p.gm, 0, none⟩))
          simp only [Act.put, List.setIfInBounds_toArray, List.set_cons_zero, List.set_cons_succ, e6.out, Nat.add_zero] at hK
          exact hK _ (hI.out) (Wrt.pure (World.grownBy.refl _ _)) (rfl)
        refine MOpsF.op (fun vs wx m k hmj hcl hI hk hf K hK => ?_) ?_
        · have e7 : vs 7 = .pointer (some ⟨p.gm, 0, none⟩) := hf 7 (by decide) (by kernel_rfl)
          clear hf hcl
          have c := hI.2.2.1.1
          replace hK := hide hK
          replace hI := hide hI
          rw [e7]
          replace e7 := hide e7
          go_wp2_with fail
          replace hK := hK.out (.slice (some ⟨p.gA, 0, none⟩) p.nv p.cA)
          simp only [Act.put, List.setIfInBounds_toArray, List.set_cons_zero, List.set_cons_succ, e7.out, Nat.add_zero] at hK
          exact hK _ (hI.out) (Wrt.pure (World.grownBy.refl _ _)) (rfl)
        refine MOpsF.op (fun vs wx m k hmj hcl hI hk hf K hK => ?_) ?_
        · have e8 : vs 8 = .slice (some ⟨p.gA, 0, none⟩) p.nv p.cA := hf 8 (by decide) (by kernel_rfl)
          clear hf hcl
          replace hK := hide hK
          replace hI := hide hI
          rw [e8]
          replace e8 := hide e8
          go_wp2_with fail
          replace hK := hK.out (.int .i64 p.nv)
          simp only [Act.put, List.setIfInBounds_toArray, List.set_cons_zero, List.set_cons_succ, e8.out, Nat.add_zero] at hK
          exact hK _ (hI.out) (Wrt.pure (World.grownBy.refl _ _)) (rfl)
        refine MOpsF.op (fun vs wx m k hmj hcl hI hk hf K hK => ?_) ?_
        · have e4 : vs 4 = .pointer (some ⟨p.b, 0, none⟩) := hf 4 (by decide) (by kernel_rfl)
          have e9 : vs 9 = .int .i64 p.nv := hf 9 (by decide) (by kernel_rfl)
          clear hf hcl
          have hk2 : k + 1 ≤ 3 := hk
          clear hk
          have hst := hI.1.2
          replace hK := hide hK
          replace hI := hide hI
          rw [e4, e9]
          replace e4 := hide e4
          replace e9 := hide e9
          go_wp2_with fail
          refine (next_any p.b (NN + k) _ _ hst (by omega) (by omega)).mono ?_
          rintro e wy ⟨r, rfl, hr, hoy⟩
          go_wp2_with fail
          replace hK := hK.out (.int .i64 r)
          simp only [Act.put, List.setIfInBounds_toArray, List.set_cons_zero, List.set_cons_succ, e4.out, e9.out] at hK
          exact hK _ ((hI.out.st hp (hoy.mono (by omega)))) (Wrt.one hoy.1 (.inl rfl)) (⟨r, rfl, hr⟩)
        refine MOpsF.op (fun vs wx m k hmj hcl hI hk hf K hK => ?_) ?_
        · clear hf hcl
          replace hK := hide hK
          replace hI := hide hI
          go_wp2_with fail
          replace hK := hK.out (.pointer (some ⟨p.b, 0, none⟩))
          simp only [Act.put, List.setIfInBounds_toArray, List.set_cons_zero, List.set_cons_succ, Nat.add_zero] at hK
          exact hK _ (hI.out) (Wrt.pure (World.grownBy.refl _ _)) (rfl)
        refine MOpsF.op (fun vs wx m k hmj hcl hI hk hf K hK => ?_) ?_
        · have e11 : vs 11 = .pointer (some ⟨p.b, 0, none⟩) := hf 11 (by decide) (by kernel_rfl)
          clear hf hcl
          have hk2 : k + 2 ≤ 3 := hk
          clear hk
          have hst := hI.1.2
          replace hK := hide hK
          replace hI := hide hI
          rw [e11]
          replace e11 := hide e11
          go_wp2_with fail
          refine (odd_any p.b (NN + k) _ _ _ hst (by omega) (by omega) (by omega) (by omega)).mono ?_
          rintro e wy ⟨r, rfl, _, hoy⟩
          go_wp2_with fail
          replace hK := hK.out (.int .i64 r)
          simp only [Act.put, List.setIfInBounds_toArray, List.set_cons_zero, List.set_cons_succ, e11.out] at hK
          exact hK _ ((hI.out.st hp (hoy.mono (by omega)))) (Wrt.one hoy.1 (.inl rfl)) (⟨r, rfl⟩)
        refine MOpsF.op (fun vs wx m k hmj hcl hI hk hf K hK => ?_) ?_
        · have e3 : vs 3 = .slice (some ⟨p.gA, 0, none⟩) p.nv p.cA := hf 3 (by decide) (by kernel_rfl)
          obtain ⟨r10, e10, hr10⟩ := hf 10 (by decide) (by kernel_rfl)
          clear hf hcl
          obtain ⟨q, rfl⟩ := Int.eq_ofNat_of_zero_le hr10.1
          have hq : q < p.nv := by omega
          replace hK := hide hK
          replace hI := hide hI
          rw [e3, e10]
          replace e3 := hide e3
          replace e10 := hide e10
          go_wp2_with fail
          replace hK := hK.out (.pointer (some ⟨p.gA, q * 3, none⟩))
          simp only [Act.put, List.setIfInBounds_toArray, List.set_cons_zero, List.set_cons_succ, e3.out, e10.out, Nat.add_zero] at hK
          exact hK _ (hI.out) (Wrt.pure (World.grownBy.refl _ _)) (⟨q, rfl, hq⟩)
        refine MOpsF.op (fun vs wx m k hmj hcl hI hk hf K hK => ?_) ?_
        · obtain ⟨j13, e13, hj13⟩ := hf 13 (by decide) (by kernel_rfl)
          clear hf hcl
          replace hK := hide hK
          replace hI := hide hI
          rw [e13]
          replace e13 := hide e13
          go_wp2_with fail
          replace hK := hK.out (.pointer (some ⟨p.gA, j13 * 3 + 2, none⟩))
          simp only [Act.put, List.setIfInBounds_toArray, List.set_cons_zero, List.set_cons_succ, e13.out, Nat.add_zero] at hK
          exact hK _ (hI.out) (Wrt.pure (World.grownBy.refl _ _)) (⟨j13, rfl, hj13⟩)
        refine MOpsF.op (fun vs wx m k hmj hcl hI hk hf K hK => ?_) ?_
        · obtain ⟨j14, e14, hj14⟩ := hf 14 (by decide) (by kernel_rfl)
          obtain ⟨r12, e12⟩ := hf 12 (by decide) (by kernel_rfl)
          clear hf hcl
          obtain ⟨f, q0, q1, q2⟩ := hI.vert hj14
          have fz := hI.fzA (j14 * 3 + 2)
          replace hK := hide hK
          replace hI := hide hI
          rw [e14, e12]
          replace e14 := hide e14
          replace e12 := hide e12
          go_wp2_with fail
          replace hK := hK.out (undef)
          simp only [Act.put, List.setIfInBounds_toArray, List.set_cons_zero, List.set_cons_succ, e14.out, e12.out, Nat.add_zero] at hK
          exact hK _ ((hI.out.setV hp hj14 (e := 2) (by decide) r12)) (Wrt.one (gr_set (World.grownBy.refl _ _) (.inl rfl) _) (.inr (.inr (.inl rfl)))) (trivial)
        exact MOpsF.done
      case iv0 => exact fun m _ => (h.any.pure (gr_drew (World.grownBy.refl _ _))).mono (by simp)
      case iv3 =>
        intro vs w9 m hm' hI hf
        clear hf hm'
        go_wp2_with fail
        go_end0
        exact hI.out (by have := hNM.out; simp; omega)
    · go_wp2_with fail
      replace hp := hp.out
      obtain ⟨fs, hA⟩ := (h.pure (gr_drew (World.grownBy.refl _ _))).ap
      refine wp_region_minvF (ApI p fs w0 NN) (fun m => Wrt (fun g => g = p.gm ∨ (m 12 = false ∧ g = p.gB))) [VIs (.pointer (some ⟨p.gm, 0, none⟩)), VIs (.pointer (some ⟨p.gm, 0, none⟩)), VIs (.pointer (some ⟨p.gm, 0, none⟩)), VIs (.pointer (some ⟨p.gm, 1, none⟩)), VIs (.slice (some ⟨p.gB, 0, none⟩) p.nf p.cB), VIs (.pointer (some ⟨p.gm, 0, none⟩)), VIs (.pointer (some ⟨p.gm, 0, none⟩)), VIs (.pointer (some ⟨p.gm, 1, none⟩)), VIs (.slice (some ⟨p.gB, 0, none⟩) p.nf p.cB), VIs (.pointer (some ⟨p.gB, 0, none⟩)), VAgg3, VLit (α := Fc) p.lo2 1, VApp p, VIs (.pointer (some ⟨p.gm, 0, none⟩)), VIs (.pointer (some ⟨p.gm, 1, none⟩)), (fun _ _ => True)] [0, 0, 0, 0, 0, 0, 0, 0, 0, 0, 0, 0, 0, 0, 0, 0] (by kernel_rfl) (by kernel_rfl) (by intro vs; simp only [putAll, Act.put, List.setIfInBounds_toArray, List.set_cons_zero, List.set_cons_succ, Nat.reduceAdd]; exact rfl) ?iv0 ?iv1 rfl ?iv2 ?iv3
      case iv1 => exact Stab.ok ⟨fun m v w w' _ _ h => h, fun m v w w' _ _ h => h, fun m v w w' _ _ h => h, fun m v w w' _ _ h => h, fun m v w w' _ _ h => h, fun m v w w' _ _ h => h, fun m v w w' _ _ h => h, fun m v w w' _ _ h => h, fun m v w w' _ _ h => h, fun m v w w' _ _ h => h, fun m v w w' _ _ h => h, fun m v w w' _ hw h => h.stab hw (fun g h => by rcases h with h | ⟨_, h⟩ <;> omega), fun m v w w' hm hw h => h.stab hw (fun g h => by rcases h with h | ⟨h, _⟩ <;> first | omega | (rw [show m 12 = true from hm] at h; cases h)), fun m v w w' _ _ h => h, fun m v w w' _ _ h => h, fun m v w w' _ _ h => h, trivial⟩
      case iv2 =>
        refine MOpsF.op (fun vs wx m k hmj hcl hI hk hf K hK => ?_) ?_
        · clear hf hcl
          replace hK := hide hK
          replace hI := hide hI
          go_wp2_with fail
          replace hK := hK.out (.pointer (some ⟨p.gm, 0, none⟩))
          simp only [Act.put, List.setIfInBounds_toArray, List.set_cons_zero, List.set_cons_succ, Nat.add_zero] at hK
          exact hK _ ((hI.out.same (by decide) (by decide))) (Wrt.pure (World.grownBy.refl _ _)) (rfl)
        refine MOpsF.op (fun vs wx m k hmj hcl hI hk hf K hK => ?_) ?_
        · clear hf hcl
          replace hK := hide hK
          replace hI := hide hI
          go_wp2_with fail
          replace hK := hK.out (.pointer (some ⟨p.gm, 0, none⟩))
          simp only [Act.put, List.setIfInBounds_toArray, List.set_cons_zero, List.set_cons_succ, Nat.add_zero] at hK
          exact hK _ ((hI.out.same (by decide) (by decide))) (Wrt.pure (World.grownBy.refl _ _)) (rfl)
        refine MOpsF.op (fun vs wx m k hmj hcl hI hk hf K hK => ?_) ?_
        · have e1 : vs 1 = .pointer (some ⟨p.gm, 0, none⟩) := hf 1 (by decide) (by kernel_rfl)
          clear hf hcl
          replace hK := hide hK
          replace hI := hide hI
          rw [e1]
          replace e1 := hide e1
          go_wp2_with fail
          replace hK := hK.out (.pointer (some ⟨p.gm, 0, none⟩))
          simp only [Act.put, List.setIfInBounds_toArray, List.set_cons_zero, List.set_cons_succ, e1.out, Nat.add_zero] at hK
          exact hK _ ((hI.out.same (by decide) (by decide))) (Wrt.pure (World.grownBy.refl _ _)) (rfl)
        refine MOpsF.op (fun vs wx m k hmj hcl hI hk hf K hK => ?_) ?_
        · have e2 : vs 2 = .pointer (some ⟨p.gm, 0, none⟩) := hf 2 (by decide) (by kernel_rfl)
          clear hf hcl
          replace hK := hide hK
          replace hI := hide hI
          rw [e2]
          replace e2 := hide e2
          go_wp2_with fail
          replace hK := hK.out (.pointer (some ⟨p.gm, 1, none⟩))
          simp only [Act.put, List.setIfInBounds_toArray, List.set_cons_zero, List.set_cons_succ, e2.out, Nat.add_zero] at hK
          exact hK _ ((hI.out.same (by decide) (by decide))) (Wrt.pure (World.grownBy.refl _ _)) (rfl)
        refine MOpsF.op (fun vs wx m k hmj hcl hI hk hf K hK => ?_) ?_
        · have e3 : vs 3 = .pointer (some ⟨p.gm, 1, none⟩) := hf 3 (by decide) (by kernel_rfl)
          clear hf
          have h15 : m 15 = false := by
            cases hq : m 15 with
            | false => rfl
            | true => exact absurd (hcl 15 4 (by decide) (by decide) hq (by kernel_rfl)) (by rw [show m 4 = false from hmj]; simp)
          have c := (hI.2.2.2.2.2.1 h15).1
          clear hcl h15
          replace hK := hide hK
          replace hI := hide hI
          rw [e3]
          replace e3 := hide e3
          go_wp2_with fail
          replace hK := hK.out (.slice (some ⟨p.gB, 0, none⟩) p.nf p.cB)
          simp only [Act.put, List.setIfInBounds_toArray, List.set_cons_zero, List.set_cons_succ, e3.out, Nat.add_zero] at hK
          exact hK _ ((hI.out.same (by decide) (by decide))) (Wrt.pure (World.grownBy.refl _ _)) (rfl)
        refine MOpsF.op (fun vs wx m k hmj hcl hI hk hf K hK => ?_) ?_
        · clear hf hcl
          replace hK := hide hK
          replace hI := hide hI
          go_wp2_with fail
          replace hK := hK.out (.pointer (some ⟨p.gm, 0, none⟩))
          simp only [Act.put, List.setIfInBounds_toArray, List.set_cons_zero, List.set_cons_succ, Nat.add_zero] at hK
          exact hK _ ((hI.out.same (by decide) (by decide))) (Wrt.pure (World.grownBy.refl _ _)) (rfl)
        refine MOpsF.op (fun vs wx m k hmj hcl hI hk hf K hK => ?_) ?_
        · have e5 : vs 5 = .pointer (some ⟨p.gm, 0, none⟩) := hf 5 (by decide) (by kernel_rfl)
          clear hf hcl
          replace hK := hide hK
          replace hI := hide hI
          rw [e5]
          replace e5 := hide e5
          go_wp2_with fail
          replace hK := hK.out (.pointer (some ⟨p.gm, 0, none⟩))
          simp only [Act.put, List.setIfInBounds_toArray, List.set_cons_zero, List.set_cons_succ, e5.out, Nat.add_zero] at hK
          exact hK _ ((hI.out.same (by decide) (by decide))) (Wrt.pure (World.grownBy.refl _ _)) (rfl)
        refine MOpsF.op (fun vs wx m k hmj hcl hI hk hf K hK => ?_) ?_
        · have e6 : vs 6 = .pointer (some ⟨p.gm, 0, none⟩) := hf 6 (by decide) (by kernel_rfl)
          clear hf hcl
          replace hK := hide hK
          replace hI := hide hI
          rw [e6]
          replace e6 := hide e6
          go_wp2_with fail
          replace hK := hK.out (.pointer (some ⟨p.gm, 1, none⟩))
          simp only [Act.put, List.setIfInBounds_toArray, List.set_cons_zero, List.set_cons_succ, e6.out, Nat.add_zero] at hK
          exact hK _ ((hI.out.same (by decide) (by decide))) (Wrt.pure (World.grownBy.refl _ _)) (rfl)
        refine MOpsF.op (fun vs wx m k hmj hcl hI hk hf K hK => ?_) ?_
        · have e7 : vs 7 = .pointer (some ⟨p.gm, 1, none⟩) := hf 7 (by decide) (by kernel_rfl)
          clear hf
          have h15 : m 15 = false := by
            cases hq : m 15 with
            | false => rfl
            | true => exact absurd (hcl 15 8 (by decide) (by decide) hq (by kernel_rfl)) (by rw [show m 8 = false from hmj]; simp)
          have c := (hI.2.2.2.2.2.1 h15).1
          clear hcl h15
          replace hK := hide hK
          replace hI := hide hI
          rw [e7]
          replace e7 := hide e7
          go_wp2_with fail
          replace hK := hK.out (.slice (some ⟨p.gB, 0, none⟩) p.nf p.cB)
          simp only [Act.put, List.setIfInBounds_toArray, List.set_cons_zero, List.set_cons_succ, e7.out, Nat.add_zero] at hK
          exact hK _ ((hI.out.same (by decide) (by decide))) (Wrt.pure (World.grownBy.refl _ _)) (rfl)
        refine MOpsF.op (fun vs wx m k hmj hcl hI hk hf K hK => ?_) ?_
        · have e8 : vs 8 = .slice (some ⟨p.gB, 0, none⟩) p.nf p.cB := hf 8 (by decide) (by kernel_rfl)
          clear hf hcl
          replace hK := hide hK
          replace hI := hide hI
          rw [e8]
          replace e8 := hide e8
          go_wp2_with fail
          replace hK := hK.out (.pointer (some ⟨p.gB, 0, none⟩))
          simp only [Act.put, List.setIfInBounds_toArray, List.set_cons_zero, List.set_cons_succ, e8.out, Nat.add_zero] at hK
          exact hK _ ((hI.out.same (by decide) (by decide))) (Wrt.pure (World.grownBy.refl _ _)) (rfl)
        refine MOpsF.op (fun vs wx m k hmj hcl hI hk hf K hK => ?_) ?_
        · have e9 : vs 9 = .pointer (some ⟨p.gB, 0, none⟩) := hf 9 (by decide) (by kernel_rfl)
          clear hf
          have h12 : m 12 = false := by
            cases hq : m 12 with
            | false => rfl
            | true => exact absurd (hcl 12 10 (by decide) (by decide) hq (by kernel_rfl)) (by rw [show m 10 = false from hmj]; simp)
          obtain ⟨f, q0, q1, q2⟩ := face0 (hI.2.2.2.2.1 h12) hnf
          clear hcl h12
          replace hK := hide hK
          replace hI := hide hI
          rw [e9]
          replace e9 := hide e9
          go_wp2_with fail
          replace hK := hK.out (.agg #[.int .i64 f.a, .int .i64 f.b, .int .i64 f.c])
          simp only [Act.put, List.setIfInBounds_toArray, List.set_cons_zero, List.set_cons_succ, e9.out, Nat.add_zero] at hK
          exact hK _ ((hI.out.same (by decide) (by decide))) (Wrt.pure (World.grownBy.refl _ _)) (⟨_, _, _, rfl⟩)
        refine MOpsF.op (fun vs wx m k hmj hcl hI hk hf K hK => ?_) ?_
        · obtain ⟨x10, y10, z10, e10⟩ := hf 10 (by decide) (by kernel_rfl)
          clear hf hcl
          replace hK := hide hK
          replace hI := hide hI
          rw [e10]
          replace e10 := hide e10
          go_wp2_with fail
          replace hK := hK.out (.slice (some ⟨wx.heap.size, 0, none⟩) 1 1)
          simp only [Act.put, List.setIfInBounds_toArray, List.set_cons_zero, List.set_cons_succ, e10.out, Nat.add_zero] at hK
          exact hK _ (((hI.out.same (by decide) (by decide)).pure (gr_alloc (World.grownBy.refl _ _) _))) (Wrt.pure (gr_alloc (World.grownBy.refl _ _) _)) (⟨wx.heap.size, [⟨x10, y10, z10⟩], rfl, rfl, sl_oneAt _ _ _ _ _ _ rfl hI.out.2.1 rfl⟩)
        refine MOpsF.op (fun vs wx m k hmj hcl hI hk hf K hK => ?_) ?_
        · have e4 : vs 4 = .slice (some ⟨p.gB, 0, none⟩) p.nf p.cB := hf 4 (by decide) (by kernel_rfl)
          obtain ⟨g11, ll, e11, hll, hsl⟩ := hf 11 (by decide) (by kernel_rfl)
          clear hf
          have h15 : m 15 = false := by
            cases hq : m 15 with
            | false => rfl
            | true => exact absurd (hcl 15 12 (by decide) (by decide) hq (by kernel_rfl)) (by rw [show m 12 = false from hmj]; simp)
          have hown := (hI.2.2.2.2.1 hmj).2
          have hfl := (hI.2.2.2.2.1 hmj).1
          obtain ⟨i0, hi, hz, h1, h2⟩ := info_parts info_face
          replace hK := hide hK
          replace hI := hide hI
          rw [e4, e11]
          replace e4 := hide e4
          replace e11 := hide e11
          refine wp_pushAt (α := Fc) _ (.tmp 94) (.tmp 101) _ rfl p.lo 58 i0 _ 24 Tryz.underlying27 hi hz h1 h2 rfl _ _ _ fs rfl ?_ hown p.lo2 ⟨g11, 0, none⟩ 1 1 ll rfl ?_ hsl ?_ ?_ ?_ ?_
          · exact hfl.symm
          · exact hll.symm
          · rw [hll]; omega
          · rw [hll]; unfold maxLen; omega
          · have := hI.out.2.1; omega
          intro B5 d5 w5 hown5 hG5
          simp only [Act.put, List.setIfInBounds_toArray, List.set_cons_zero, List.set_cons_succ]
          replace hK := hK.out (.slice B5 (fs ++ ll).length d5)
          simp only [Act.put, List.setIfInBounds_toArray, List.set_cons_zero, List.set_cons_succ, e4.out, e11.out, Nat.add_zero] at hK
          exact hK _ ((hI.out.app hp (show m 12 = false from hmj) h15 hG5 hown)) (Wrt.one (show wx.grownBy w5 (some p.gB) from hG5.1) (.inr ⟨hmj, rfl⟩)) (⟨B5, d5, _, rfl, hown5, by rw [List.length_append, hll]; omega⟩)
        refine MOpsF.op (fun vs wx m k hmj hcl hI hk hf K hK => ?_) ?_
        · have e0 : vs 0 = .pointer (some ⟨p.gm, 0, none⟩) := hf 0 (by decide) (by kernel_rfl)
          clear hf hcl
          replace hK := hide hK
          replace hI := hide hI
          rw [e0]
          replace e0 := hide e0
          go_wp2_with fail
          replace hK := hK.out (.pointer (some ⟨p.gm, 0, none⟩))
          simp only [Act.put, List.setIfInBounds_toArray, List.set_cons_zero, List.set_cons_succ, e0.out, Nat.add_zero] at hK
          exact hK _ ((hI.out.same (by decide) (by decide))) (Wrt.pure (World.grownBy.refl _ _)) (rfl)
        refine MOpsF.op (fun vs wx m k hmj hcl hI hk hf K hK => ?_) ?_
        · have e13 : vs 13 = .pointer (some ⟨p.gm, 0, none⟩) := hf 13 (by decide) (by kernel_rfl)
          clear hf hcl
          replace hK := hide hK
          replace hI := hide hI
          rw [e13]
          replace e13 := hide e13
          go_wp2_with fail
          replace hK := hK.out (.pointer (some ⟨p.gm, 1, none⟩))
          simp only [Act.put, List.setIfInBounds_toArray, List.set_cons_zero, List.set_cons_succ, e13.out, Nat.add_zero] at hK
          exact hK _ ((hI.out.same (by decide) (by decide))) (Wrt.pure (World.grownBy.refl _ _)) (rfl)
        refine MOpsF.op (fun vs wx m k hmj hcl hI hk hf K hK => ?_) ?_
        · have e14 : vs 14 = .pointer (some ⟨p.gm, 1, none⟩) := hf 14 (by decide) (by kernel_rfl)
          obtain ⟨B12, d12, fs12, e12, ho12, hl12⟩ := hf 12 (by decide) (by kernel_rfl)
          clear hf hcl
          have c := hI.2.2.2.2.2.1 hmj
          obtain ⟨c, fz⟩ := c
          have hgs := gr_set (World.grownBy.refl wx (some p.gm)) (p := ⟨p.gm, 1, none⟩) (.inl rfl) (.slice B12 fs12.length d12)
          replace hgs := hide hgs
          replace ho12 := hide ho12
          replace hK := hide hK
          replace hI := hide hI
          rw [e14, e12]
          replace e14 := hide e14
          replace e12 := hide e12
          go_wp2_with fail
          replace hK := hK.out (undef)
          simp only [Act.put, List.setIfInBounds_toArray, List.set_cons_zero, List.set_cons_succ, e14.out, e12.out, Nat.add_zero] at hK
          exact hK _ ((hI.out.fin hp ⟨c, fz⟩ ho12.out hl12)) (Wrt.one hgs.out (.inl rfl)) (trivial)
        exact MOpsF.done
      case iv0 => exact fun m hm => hA m (hm 15 (by decide))
      case iv3 =>
        intro vs w9 m hm' hI hf
        have h15 := hm' 15 (by decide)
        clear hf hm'
        go_wp2_with fail
        go_end0
        exact hI.out h15 (by have := hNM.out; simp; omega)
    · go_wp2_with fail
      replace hp := hp.out
      refine wp_region_minvF (fun _ k w => SpI p (fun f => inF p.nv f = true) w0 (NN + k) w) (fun _ => Wrt (SpW p)) [VIs (.pointer (some ⟨p.gm, 0, none⟩)), VIs (.pointer (some ⟨p.gm, 0, none⟩)), VIs (.pointer (some ⟨p.gm, 0, none⟩)), VIs (.slice (some ⟨p.gA, 0, none⟩) p.nv p.cA), VIs (.pointer (some ⟨p.gB, j * 3, none⟩)), VIs (.pointer (some ⟨p.gB, j * 3, none⟩)), VIs (.pointer (some ⟨p.gB, j * 3, none⟩)), VIntP (fun r => 0 ≤ r ∧ r < p.nv), VIs (.pointer (some ⟨p.gm, 0, none⟩)), VIs (.pointer (some ⟨p.gm, 0, none⟩)), VIs (.pointer (some ⟨p.gm, 0, none⟩)), VIs (.slice (some ⟨p.gA, 0, none⟩) p.nv p.cA), VIs (.pointer (some ⟨p.gB, j * 3, none⟩)), VIs (.pointer (some ⟨p.gB, j * 3, none⟩)), VIs (.pointer (some ⟨p.gB, j * 3 + 1, none⟩)), VIntP (fun r => 0 ≤ r ∧ r < p.nv), VPtr0 p.gA p.nv, VAgg3, VPtr0 p.gA p.nv, (fun _ _ => True)] [0, 0, 0, 0, 0, 0, 0, 0, 0, 0, 0, 0, 0, 0, 0, 0, 0, 0, 0, 0] (by kernel_rfl) (by kernel_rfl) (by intro vs; simp only [putAll, Act.put, List.setIfInBounds_toArray, List.set_cons_zero, List.set_cons_succ, Nat.reduceAdd]; exact rfl) ?iv0 ?iv1 rfl ?iv2 ?iv3
      case iv1 => exact Stab.ok ⟨fun m v w w' _ _ h => h, fun m v w w' _ _ h => h, fun m v w w' _ _ h => h, fun m v w w' _ _ h => h, fun m v w w' _ _ h => h, fun m v w w' _ _ h => h, fun m v w w' _ _ h => h, fun m v w w' _ _ h => h, fun m v w w' _ _ h => h, fun m v w w' _ _ h => h, fun m v w w' _ _ h => h, fun m v w w' _ _ h => h, fun m v w w' _ _ h => h, fun m v w w' _ _ h => h, fun m v w w' _ _ h => h, fun m v w w' _ _ h => h, fun m v w w' _ _ h => h, fun m v w w' _ _ h => h, fun m v w w' _ _ h => h, fun m v w w' _ _ h => h, trivial⟩
      case iv2 =>
        refine MOpsF.op (fun vs wx m k hmj hcl hI hk hf K hK => ?_) ?_
        · clear hf hcl
          replace hK := hide hK
          replace hI := hide hI
          go_wp2_with fail
          replace hK := hK.out (.pointer (some ⟨p.gm, 0, none⟩))
          simp only [Act.put, List.setIfInBounds_toArray, List.set_cons_zero, List.set_cons_succ, Nat.add_zero] at hK
          exact hK _ (hI.out) (Wrt.pure (World.grownBy.refl _ _)) (rfl)
        refine MOpsF.op (fun vs wx m k hmj hcl hI hk hf K hK => ?_) ?_
        · have e0 : vs 0 = .pointer (some ⟨p.gm, 0, none⟩) := hf 0 (by decide) (by kernel_rfl)
          clear hf hcl
          replace hK := hide hK
          replace hI := hide hI
          rw [e0]
          replace e0 := hide e0
          go_wp2_with fail
          replace hK := hK.out (.pointer (some ⟨p.gm, 0, none⟩))
          simp only [Act.put, List.setIfInBounds_toArray, List.set_cons_zero, List.set_cons_succ, e0.out, Nat.add_zero] at hK
          exact hK _ (hI.out) (Wrt.pure (World.grownBy.refl _ _)) (rfl)
        refine MOpsF.op (fun vs wx m k hmj hcl hI hk hf K hK => ?_) ?_
        · have e1 : vs 1 = .pointer (some ⟨p.gm, 0, none⟩) := hf 1 (by decide) (by kernel_rfl)
          clear hf hcl
          replace hK := hide hK
          replace hI := hide hI
          rw [e1]
          replace e1 := hide e1
          go_wp2_with fail
          replace hK := hK.out (.pointer (some ⟨p.gm, 0, none⟩))
          simp only [Act.put, List.setIfInBounds_toArray, List.set_cons_zero, List.set_cons_succ, e1.out, Nat.add_zero] at hK
          exact hK _ (hI.out) (Wrt.pure (World.grownBy.refl _ _)) (rfl)
        refine MOpsF.op (fun vs wx m k hmj hcl hI hk hf K hK => ?_) ?_
        · have e2 : vs 2 = .pointer (some ⟨p.gm, 0, none⟩) := hf 2 (by decide) (by kernel_rfl)
          clear hf hcl
          have c := hI.2.2.1.1
          replace hK := hide hK
          replace hI := hide hI
          rw [e2]
          replace e2 := hide e2
          go_wp2_with fail
          replace hK := hK.out (.slice (some ⟨p.gA, 0, none⟩) p.nv p.cA)
          simp only [Act.put, List.setIfInBounds_toArray, List.set_cons_zero, List.set_cons_succ, e2.out, Nat.add_zero] at hK
          exact hK _ (hI.out) (Wrt.pure (World.grownBy.refl _ _)) (rfl)
        refine MOpsF.op (fun vs wx m k hmj hcl hI hk hf K hK => ?_) ?_
        · clear hf hcl
          replace hK := hide hK
          replace hI := hide hI
          go_wp2_with fail
          replace hK := hK.out (.pointer (some ⟨p.gB, j * 3, none⟩))
          simp only [Act.put, List.setIfInBounds_toArray, List.set_cons_zero, List.set_cons_succ, Nat.add_zero] at hK
          exact hK _ (hI.out) (Wrt.pure (World.grownBy.refl _ _)) (rfl)
        refine MOpsF.op (fun vs wx m k hmj hcl hI hk hf K hK => ?_) ?_
        · have e4 : vs 4 = .pointer (some ⟨p.gB, j * 3, none⟩) := hf 4 (by decide) (by kernel_rfl)
          clear hf hcl
          replace hK := hide hK
          replace hI := hide hI
          rw [e4]
          replace e4 := hide e4
          go_wp2_with fail
          replace hK := hK.out (.pointer (some ⟨p.gB, j * 3, none⟩))
          simp only [Act.put, List.setIfInBounds_toArray, List.set_cons_zero, List.set_cons_succ, e4.out, Nat.add_zero] at hK
          exact hK _ (hI.out) (Wrt.pure (World.grownBy.refl _ _)) (rfl)
        refine MOpsF.op (fun vs wx m k hmj hcl hI hk hf K hK => ?_) ?_
        · have e5 : vs 5 = .pointer (some ⟨p.gB, j * 3, none⟩) := hf 5 (by decide) (by kernel_rfl)
          clear hf hcl
          replace hK := hide hK
          replace hI := hide hI
          rw [e5]
          replace e5 := hide e5
          go_wp2_with fail
          replace hK := hK.out (.pointer (some ⟨p.gB, j * 3, none⟩))
          simp only [Act.put, List.setIfInBounds_toArray, List.set_cons_zero, List.set_cons_succ, e5.out, Nat.add_zero] at hK
          exact hK _ (hI.out) (Wrt.pure (World.grownBy.refl _ _)) (rfl)
        refine MOpsF.op (fun vs wx m k hmj hcl hI hk hf K hK => ?_) ?_
        · have e6 : vs 6 = .pointer (some ⟨p.gB, j * 3, none⟩) := hf 6 (by decide) (by kernel_rfl)
          clear hf hcl
          obtain ⟨f, hfr, q0, q1, q2⟩ := hI.face hj
          have hfb := hide (inF_bd hfr)
          clear hfr
          replace hK := hide hK
          replace hI := hide hI
          rw [e6]
          replace e6 := hide e6
          go_wp2_with fail
          replace hK := hK.out (.int .i64 f.a)
          simp only [Act.put, List.setIfInBounds_toArray, List.set_cons_zero, List.set_cons_succ, e6.out, Nat.add_zero] at hK
          exact hK _ (hI.out) (Wrt.pure (World.grownBy.refl _ _)) (⟨_, rfl, by have := hfb.out; omega⟩)
        refine MOpsF.op (fun vs wx m k hmj hcl hI hk hf K hK => ?_) ?_
        · clear hf hcl
          replace hK := hide hK
          replace hI := hide hI
          go_wp2_with fail
          replace hK := hK.out (.pointer (some ⟨p.gm, 0, none⟩))
          simp only [Act.put, List.setIfInBounds_toArray, List.set_cons_zero, List.set_cons_succ, Nat.add_zero] at hK
          exact hK _ (hI.out) (Wrt.pure (World.grownBy.refl _ _)) (rfl)
        refine MOpsF.op (fun vs wx m k hmj hcl hI hk hf K hK => ?_) ?_
        · have e8 : vs 8 = .pointer (some ⟨p.gm, 0, none⟩) := hf 8 (by decide) (by kernel_rfl)
          clear hf hcl
          replace hK := hide hK
          replace hI := hide hI
          rw [e8]
          replace e8 := hide e8
          go_wp2_with fail
          replace hK := hK.out (.pointer (some ⟨p.gm, 0, none⟩))
          simp only [Act.put, List.setIfInBounds_toArray, List.set_cons_zero, List.set_cons_succ, e8.out, Nat.add_zero] at hK
          exact hK _ (hI.out) (Wrt.pure (World.grownBy.refl _ _)) (rfl)
        refine MOpsF.op (fun vs wx m k hmj hcl hI hk hf K hK => ?_) ?_
        · have e9 : vs 9 = .pointer (some ⟨p.gm, 0, none⟩) := hf 9 (by decide) (by kernel_rfl)
          clear hf hcl
          replace hK := hide hK
          replace hI := hide hI
          rw [e9]
          replace e9 := hide e9
          go_wp2_with fail
          replace hK := hK.out (.pointer (some ⟨p.gm, 0, none⟩))
          simp only [Act.put, List.setIfInBounds_toArray, List.set_cons_zero, List.set_cons_succ, e9.out, Nat.add_zero] at hK
          exact hK _ (hI.out) (Wrt.pure (World.grownBy.refl _ _)) (rfl)
        refine MOpsF.op (fun vs wx m k hmj hcl hI hk hf K hK => ?_) ?_
        · have e10 : vs 10 = .pointer (some ⟨p.gm, 0, none⟩) := hf 10 (by decide) (by kernel_rfl)
          clear hf hcl
          have c := hI.2.2.1.1
          replace hK := hide hK
          replace hI := hide hI
          rw [e10]
          replace e10 := hide e10
          go_wp2_with fail
          replace hK := hK.out (.slice (some ⟨p.gA, 0, none⟩) p.nv p.cA)
          simp only [Act.put, List.setIfInBounds_toArray, List.set_cons_zero, List.set_cons_succ, e10.out, Nat.add_zero] at hK
          exact hK _ (hI.out) (Wrt.pure (World.grownBy.refl _ _)) (rfl)
        refine MOpsF.op (fun vs wx m k hmj hcl hI hk hf K hK => ?_) ?_
        · clear hf hcl
          replace hK := hide hK
          replace hI := hide hI
          go_wp2_with fail
          replace hK := hK.out (.pointer (some ⟨p.gB, j * 3, none⟩))
          simp only [Act.put, List.setIfInBounds_toArray, List.set_cons_zero, List.set_cons_succ, Nat.add_zero] at hK
          exact hK _ (hI.out) (Wrt.pure (World.grownBy.refl _ _)) (rfl)
        refine MOpsF.op (fun vs wx m k hmj hcl hI hk hf K hK => ?_) ?_
        · have e12 : vs 12 = .pointer (some ⟨p.gB, j * 3, none⟩) := hf 12 (by decide) (by kernel_rfl)
          clear hf hcl
          replace hK := hide hK
          replace hI := hide hI
          rw [e12]
          replace e12 := hide e12
          go_wp2_with fail
          replace hK := hK.out (.pointer (some ⟨p.gB, j * 3, none⟩))
          simp only [Act.put, List.setIfInBounds_toArray, List.set_cons_zero, List.set_cons_succ, e12.out, Nat.add_zero] at hK
          exact hK _ (hI.out) (Wrt.pure (World.grownBy.refl _ _)) (rfl)
        refine MOpsF.op (fun vs wx m k hmj hcl hI hk hf K hK => ?_) ?_
        · have e13 : vs 13 = .pointer (some ⟨p.gB, j * 3, none⟩) := hf 13 (by decide) (by kernel_rfl)
          clear hf hcl
          replace hK := hide hK
          replace hI := hide hI
          rw [e13]
          replace e13 := hide e13
          go_wp2_with fail
          replace hK := hK.out (.pointer (some ⟨p.gB, j * 3 + 1, none⟩))
          simp only [Act.put, List.setIfInBounds_toArray, List.set_cons_zero, List.set_cons_succ, e13.out, Nat.add_zero] at hK
          exact hK _ (hI.out) (Wrt.pure (World.grownBy.refl _ _)) (rfl)
        refine MOpsF.op (fun vs wx m k hmj hcl hI hk hf K hK => ?_) ?_
        · have e14 : vs 14 = .pointer (some ⟨p.gB, j * 3 + 1, none⟩) := hf 14 (by decide) (by kernel_rfl)
          clear hf hcl
          obtain ⟨f, hfr, q0, q1, q2⟩ := hI.face hj
          have hfb := hide (inF_bd hfr)
          clear hfr
          replace hK := hide hK
          replace hI := hide hI
          rw [e14]
          replace e14 := hide e14
          go_wp2_with fail
          replace hK := hK.out (.int .i64 f.b)
          simp only [Act.put, List.setIfInBounds_toArray, List.set_cons_zero, List.set_cons_succ, e14.out, Nat.add_zero] at hK
          exact hK _ (hI.out) (Wrt.pure (World.grownBy.refl _ _)) (⟨_, rfl, by have := hfb.out; omega⟩)
        refine MOpsF.op (fun vs wx m k hmj hcl hI hk hf K hK => ?_) ?_
        · have e11 : vs 11 = .slice (some ⟨p.gA, 0, none⟩) p.nv p.cA := hf 11 (by decide) (by kernel_rfl)
          obtain ⟨r15, e15, hr15⟩ := hf 15 (by decide) (by kernel_rfl)
          clear hf hcl
          obtain ⟨q, rfl⟩ := Int.eq_ofNat_of_zero_le hr15.1
          have hq : q < p.nv := by omega
          replace hK := hide hK
          replace hI := hide hI
          rw [e11, e15]
          replace e11 := hide e11
          replace e15 := hide e15
          go_wp2_with fail
          replace hK := hK.out (.pointer (some ⟨p.gA, q * 3, none⟩))
          simp only [Act.put, List.setIfInBounds_toArray, List.set_cons_zero, List.set_cons_succ, e11.out, e15.out, Nat.add_zero] at hK
          exact hK _ (hI.out) (Wrt.pure (World.grownBy.refl _ _)) (⟨q, rfl, hq⟩)
        refine MOpsF.op (fun vs wx m k hmj hcl hI hk hf K hK => ?_) ?_
        · obtain ⟨j16, e16, hj16⟩ := hf 16 (by decide) (by kernel_rfl)
          clear hf hcl
          obtain ⟨f, q0, q1, q2⟩ := hI.vert hj16
          replace hK := hide hK
          replace hI := hide hI
          rw [e16]
          replace e16 := hide e16
          go_wp2_with fail
          replace hK := hK.out (.agg #[.int .i64 f.x, .int .i64 f.y, .int .i64 f.z])
          simp only [Act.put, List.setIfInBounds_toArray, List.set_cons_zero, List.set_cons_succ, e16.out, Nat.add_zero] at hK
          exact hK _ (hI.out) (Wrt.pure (World.grownBy.refl _ _)) (⟨_, _, _, rfl⟩)
        refine MOpsF.op (fun vs wx m k hmj hcl hI hk hf K hK => ?_) ?_
        · have e3 : vs 3 = .slice (some ⟨p.gA, 0, none⟩) p.nv p.cA := hf 3 (by decide) (by kernel_rfl)
          obtain ⟨r7, e7, hr7⟩ := hf 7 (by decide) (by kernel_rfl)
          clear hf hcl
          obtain ⟨q, rfl⟩ := Int.eq_ofNat_of_zero_le hr7.1
          have hq : q < p.nv := by omega
          replace hK := hide hK
          replace hI := hide hI
          rw [e3, e7]
          replace e3 := hide e3
          replace e7 := hide e7
          go_wp2_with fail
          replace hK := hK.out (.pointer (some ⟨p.gA, q * 3, none⟩))
          simp only [Act.put, List.setIfInBounds_toArray, List.set_cons_zero, List.set_cons_succ, e3.out, e7.out, Nat.add_zero] at hK
          exact hK _ (hI.out) (Wrt.pure (World.grownBy.refl _ _)) (⟨q, rfl, hq⟩)
        refine MOpsF.op (fun vs wx m k hmj hcl hI hk hf K hK => ?_) ?_
        · obtain ⟨x17, y17, z17, e17⟩ := hf 17 (by decide) (by kernel_rfl)
          obtain ⟨j18, e18, hj18⟩ := hf 18 (by decide) (by kernel_rfl)
          clear hf hcl
          obtain ⟨f, q0, q1, q2⟩ := hI.vert hj18
          have fz0 := hI.fzA (j18 * 3)
          have fz1 := hI.fzA (j18 * 3 + 1)
          have fz2 := hI.fzA (j18 * 3 + 2)
          have hw3 := fun a1 a2 a3 => gr_set (gr_set (gr_set (World.grownBy.refl wx (some p.gA)) (p := ⟨p.gA, j18 * 3, none⟩) (.inl rfl) a1) (p := ⟨p.gA, j18 * 3 + 1, none⟩) (.inl rfl) a2) (p := ⟨p.gA, j18 * 3 + 2, none⟩) (.inl rfl) a3
          replace hw3 := hide hw3
          replace hK := hide hK
          replace hI := hide hI
          rw [e17, e18]
          replace e17 := hide e17
          replace e18 := hide e18
          go_wp2_with fail
          replace hK := hK.out (undef)
          simp only [Act.put, List.setIfInBounds_toArray, List.set_cons_zero, List.set_cons_succ, e17.out, e18.out, Nat.add_zero] at hK
          exact hK _ ((((hI.out.setV0 hp hj18 x17).setV hp hj18 (e := 1) (by decide) y17).setV hp hj18 (e := 2) (by decide) z17)) (Wrt.one (hw3.out _ _ _) (.inr (.inr (.inl rfl)))) (trivial)
        exact MOpsF.done
      case iv0 => exact fun m _ => (h.pure (gr_drew (World.grownBy.refl _ _))).mono (by simp)
      case iv3 =>
        intro vs w9 m hm' hI hf
        clear hf hm'
        go_wp2_with fail
        go_end0
        exact hI.out (by have := hNM.out; simp; omega)

end Go.Proofs.YtkcchcnljanloaaGreat

namespace Go.Proofs.YtkcchcnljanloaaGreat
open Go.RowKit Go.Bl

/-- the mesh that AMesh builds: its box gm, its rows from lo on; w0: the world with the result's box -/
def AMs (b gm lo : Nat) (w0 : World) (N : Int) (A : Option Addr) (c : Nat) (vs : List V3) (B : Option Addr) (d : Nat) (fs : List Fc) (w : World) : Prop :=
  SOut b N w0 w ∧ Cell w gm 0 (.slice A vs.length c) ∧ Cell w gm 1 (.slice B fs.length d) ∧ MOwn w lo A c vs B d fs ∧ (∀ f ∈ fs, inF vs.length f = true)

def AMc (b gm lo : Nat) (w0 : World) : Prop := b < w0.heap.size ∧ w0.heap.size ≤ gm ∧ gm < lo
/-- the mesh that is added: its box gn -/
def NMs (gn lo1 : Nat) (A : Option Addr) (c : Nat) (vs : List V3) (B : Option Addr) (d : Nat) (fs : List Fc) (w : World) : Prop :=
  Cell w gn 0 (.slice A vs.length c) ∧ Cell w gn 1 (.slice B fs.length d) ∧ MOwn w lo1 A c vs B d fs
/-- a row X stands apart from it -/
def Dis (gn : Nat) (A B X : Option Addr) : Prop := ∀ g, blk X = some g → g ≠ gn ∧ blk A ≠ some g ∧ blk B ≠ some g

section
variable {b gm lo : Nat} {w0 w w' : World} {N : Int} {A A' B B' : Option Addr} {c d c' d' : Nat} {vs vs' : List V3} {fs fs' : List Fc}

theorem AMs.pure (h : AMs b gm lo w0 N A c vs B d fs w) (hg : w.grownBy w' none) : AMs b gm lo w0 N A c vs B d fs w' :=
  ⟨h.1.pure hg, h.2.1.gr hg (by simp), h.2.2.1.gr hg (by simp), h.2.2.2.1.gr hg, h.2.2.2.2⟩

theorem AMs.st (h : AMs b gm lo w0 N A c vs B d fs w) (hc : AMc b gm lo w0) {N' : Int} (hs : SOut b N' w w') : AMs b gm lo w0 N' A c vs B d fs w' := by
  obtain ⟨h1, h2, h3, ⟨h4, h5, h6⟩, h7⟩ := h
  obtain ⟨p1, p2, p3⟩ := hc
  exact ⟨h1.trans hs, h2.gr hs.1 (fun e => by injection e; omega), h3.gr hs.1 (fun e => by injection e; omega), ⟨h4.s hs (by omega), h5.s hs (by omega), h6⟩, h7⟩

theorem AMs.oth (h : AMs b gm lo w0 N A c vs B d fs w) (hc : AMc b gm lo w0) {g : Nat} (hg : w.grownBy w' (some g)) (h1 : w0.heap.size ≤ g) (h2 : g ≠ gm) (h3 : blk A ≠ some g) (h4 : blk B ≠ some g) : AMs b gm lo w0 N A c vs B d fs w' := by
  obtain ⟨p1, p2, p3⟩ := hc
  exact ⟨h.1.new p1 hg (fun g' e => by injection e; omega), h.2.1.gr hg (fun e => by injection e; omega), h.2.2.1.gr hg (fun e => by injection e; omega), ⟨h.2.2.2.1.1.ne hg (fun g' e1 e2 => by injection e2 with e2; exact h3 (by rw [e1, e2])), h.2.2.2.1.2.1.ne hg (fun g' e1 e2 => by injection e2 with e2; exact h4 (by rw [e1, e2])), h.2.2.2.1.2.2⟩, h.2.2.2.2⟩

theorem AMs.dis (h : AMs b gm lo w0 N A c vs B d fs w) {gn : Nat} {A1 B1 : Option Addr} (hgn : w.heap.size ≤ gn) (h1 : ∀ g, blk A1 = some g → w.heap.size ≤ g) (h2 : ∀ g, blk B1 = some g → w.heap.size ≤ g) : Dis gn A1 B1 A ∧ Dis gn A1 B1 B :=
  ⟨fun g e => by have := (h.2.2.2.1.1.blk_lt e).2; exact ⟨by omega, fun e => by have := h1 g e; omega, fun e => by have := h2 g e; omega⟩, fun g e => by have := (h.2.2.2.1.2.1.blk_lt e).2; exact ⟨by omega, fun e => by have := h1 g e; omega, fun e => by have := h2 g e; omega⟩⟩

theorem AMs.mono (h : AMs b gm lo w0 N A c vs B d fs w) {N' : Int} (hN : N ≤ N') : AMs b gm lo w0 N' A c vs B d fs w := ⟨h.1.mono hN, h.2⟩

theorem AMs.setF (h : AMs b gm lo w0 N A c vs B d fs w) (hc : AMc b gm lo w0) (hG : Grew B B' w w') (ho : Own w' lo 58 B' d' fs') (hin : ∀ f ∈ fs', inF vs.length f = true) :
    AMs b gm lo w0 N A c vs B' d' fs' (w'.setCell ⟨gm, 1, none⟩ (.slice B' fs'.length d')) := by
  obtain ⟨h1, h2, h3, ⟨h4, h5, h6⟩, h7⟩ := h
  obtain ⟨p1, p2, p3⟩ := hc
  have hgs := gr_set (World.grownBy.refl w' (some gm)) (p := ⟨gm, 1, none⟩) (.inl rfl) (.slice B' fs'.length d')
  have h4' := h4.ne hG.1 (fun g e1 e2 => h6 g e1 e2)
  refine ⟨(h1.new p1 hG.1 (fun g e => by have := (h5.blk_lt e).1; omega)).set p1 p2 _, (h2.grew hG h5 p3).set_ne _ (by decide), (h3.grew hG h5 p3).set_ _, ⟨h4'.ne hgs (fun g e1 e2 => ?_), ho.ne hgs (fun g e1 e2 => ?_), fun g e1 e2 => ?_⟩, hin⟩
  · have := (h4'.blk_lt e1).1; injection e2; omega
  · have := (ho.blk_lt e1).1; injection e2; omega
  · rcases hG.2 with e | e
    · rw [e] at e2; exact h6 g e1 e2
    · rw [e] at e2; injection e2 with e2; have := (h4.blk_lt e1).2; omega

theorem inF_mono {n m : Nat} {f : Fc} (h : inF n f = true) (hn : n ≤ m) : inF m f = true := by
  simp only [inF, inI, Bool.and_eq_true, decide_eq_true_eq] at h ⊢
  omega

theorem AMs.setV (h : AMs b gm lo w0 N A c vs B d fs w) (hc : AMc b gm lo w0) (hG : Grew A A' w w') (ho : Own w' lo 38 A' c' vs') (hle : vs.length ≤ vs'.length) :
    AMs b gm lo w0 N A' c' vs' B d fs (w'.setCell ⟨gm, 0, none⟩ (.slice A' vs'.length c')) := by
  obtain ⟨h1, h2, h3, ⟨h4, h5, h6⟩, h7⟩ := h
  obtain ⟨p1, p2, p3⟩ := hc
  have hgs := gr_set (World.grownBy.refl w' (some gm)) (p := ⟨gm, 0, none⟩) (.inl rfl) (.slice A' vs'.length c')
  have h5' := h5.ne hG.1 (fun g e1 e2 => h6 g e2 e1)
  refine ⟨(h1.new p1 hG.1 (fun g e => by have := (h4.blk_lt e).1; omega)).set p1 p2 _, (h2.grew hG h4 p3).set_ _, (h3.grew hG h4 p3).set_ne _ (by decide), ⟨ho.ne hgs (fun g e1 e2 => ?_), h5'.ne hgs (fun g e1 e2 => ?_), fun g e1 e2 => ?_⟩, fun f hf => inF_mono (h7 f hf) hle⟩
  · have := (ho.blk_lt e1).1; injection e2; omega
  · have := (h5'.blk_lt e1).1; injection e2; omega
  · rcases hG.2 with e | e
    · rw [e] at e1; exact h6 g e1 e2
    · rw [e] at e1; injection e1 with e1; have := (h5.blk_lt e2).2; omega

theorem AMs.take_ (h : AMs b gm lo w0 N A c vs B d fs w) (hc : AMc b gm lo w0) (ho : MOwn w lo A' c' vs' B' d' fs') (hin : ∀ f ∈ fs', inF vs'.length f = true) :
    AMs b gm lo w0 N A' c' vs' B' d' fs' ((w.setCell ⟨gm, 0, none⟩ (.slice A' vs'.length c')).setCell ⟨gm, 1, none⟩ (.slice B' fs'.length d')) := by
  obtain ⟨h1, h2, h3, ⟨h4, h5, h6⟩, h7⟩ := h
  obtain ⟨p1, p2, p3⟩ := hc
  obtain ⟨o1, o2, o3⟩ := ho
  have hgs := gr_set (gr_set (World.grownBy.refl w (some gm)) (p := ⟨gm, 0, none⟩) (.inl rfl) (.slice A' vs'.length c')) (p := ⟨gm, 1, none⟩) (.inl rfl) (.slice B' fs'.length d')
  refine ⟨(h1.set p1 p2 _).set p1 p2 _, (h2.set_ _).set_ne _ (by decide), (h3.set_ne _ (by decide)).set_ _, ⟨o1.ne hgs (fun g e1 e2 => ?_), o2.ne hgs (fun g e1 e2 => ?_), o3⟩, hin⟩
  · have := (o1.blk_lt e1).1; injection e2; omega
  · have := (o2.blk_lt e1).1; injection e2; omega
end
section
variable {gn lo1 : Nat} {w w' : World} {A B X X' : Option Addr} {c d : Nat} {vs : List V3} {fs : List Fc}

theorem NMs.pure (h : NMs gn lo1 A c vs B d fs w) (hg : w.grownBy w' none) : NMs gn lo1 A c vs B d fs w' := ⟨h.1.gr hg (by simp), h.2.1.gr hg (by simp), h.2.2.gr hg⟩

theorem NMs.other (h : NMs gn lo1 A c vs B d fs w) {g : Nat} (hg : w.grownBy w' (some g)) (h1 : g ≠ gn) (h2 : blk A ≠ some g) (h3 : blk B ≠ some g) : NMs gn lo1 A c vs B d fs w' :=
  ⟨h.1.gr hg (fun e => by injection e; omega), h.2.1.gr hg (fun e => by injection e; omega), h.2.2.1.ne hg (fun g' e1 e2 => by injection e2 with e2; exact h2 (by rw [e1, e2])), h.2.2.2.1.ne hg (fun g' e1 e2 => by injection e2 with e2; exact h3 (by rw [e1, e2])), h.2.2.2.2⟩

theorem NMs.set (h : NMs gn lo1 A c vs B d fs w) {lo2 : Nat} {A2 B2 : Option Addr} {c2 d2 : Nat} {vs2 : List V3} {fs2 : List Fc} (ho : MOwn w lo2 A2 c2 vs2 B2 d2 fs2) (hlo : gn < lo2) : NMs gn lo2 A2 c2 vs2 B2 d2 fs2 ((w.setCell ⟨gn, 0, none⟩ (.slice A2 vs2.length c2)).setCell ⟨gn, 1, none⟩ (.slice B2 fs2.length d2)) := by
  have hgs := gr_set (gr_set (World.grownBy.refl w (some gn)) (p := ⟨gn, 0, none⟩) (.inl rfl) (.slice A2 vs2.length c2)) (p := ⟨gn, 1, none⟩) (.inl rfl) (.slice B2 fs2.length d2)
  exact ⟨(h.1.set_ _).set_ne _ (by decide), (h.2.1.set_ne _ (by decide)).set_ _, ho.1.ne hgs (fun g e1 e2 => by have := (ho.1.blk_lt e1).1; injection e2; omega), ho.2.1.ne hgs (fun g e1 e2 => by have := (ho.2.1.blk_lt e1).1; injection e2; omega), ho.2.2⟩

theorem NMs.st (h : NMs gn lo1 A c vs B d fs w) {b : Nat} {N : Int} (hs : SOut b N w w') (h1 : b < gn) (h2 : b < lo1) : NMs gn lo1 A c vs B d fs w' :=
  h.other hs.1 (by omega) (fun e => by have := (h.2.2.1.blk_lt e).1; omega) (fun e => by have := (h.2.2.2.1.blk_lt e).1; omega)

theorem NMs.grew (h : NMs gn lo1 A c vs B d fs w) (hG : Grew X X' w w') (hd : Dis gn A B X) : NMs gn lo1 A c vs B d fs w' := by
  have hg := hG.1
  cases hx : blk X with
  | none => rw [hx] at hg; exact h.pure hg
  | some g => rw [hx] at hg; exact h.other hg (hd g hx).1 (hd g hx).2.1 (hd g hx).2.2

theorem Dis.grew (hd : Dis gn A B X) (hG : Grew X X' w w') (h : NMs gn lo1 A c vs B d fs w) : Dis gn A B X' := by
  intro g hg
  rcases hG.2 with e | e
  · rw [e] at hg; exact hd g hg
  · rw [e] at hg
    injection hg with hg
    subst hg
    have := h.1.lt
    exact ⟨by omega, fun e => by have := (h.2.2.1.blk_lt e).2; omega, fun e => by have := (h.2.2.2.1.blk_lt e).2; omega⟩
end

end Go.Proofs.YtkcchcnljanloaaGreat

namespace Go.Proofs.YtkcchcnljanloaaGreat
open Go.RowKit Go.Bl

def SMesh (b : Nat) (N : Int) (w : World) (e : Ending) (w' : World) : Prop := ∃ (A : Option Addr) (c : Nat) (vs : List V3) (B : Option Addr) (d : Nat) (fs : List Fc), e = .returned (.agg #[.slice A vs.length c, .slice B fs.length d]) ∧ Sl w' (b + 1) A vs ∧ Sl w' (b + 1) B fs ∧ SOut b N w w' ∧ vs.length ≤ 100 ∧ fs.length ≤ 100
/-- the same, of memory that is new -/
def SMeshN (b : Nat) (N : Int) (w : World) (e : Ending) (w' : World) : Prop := ∃ (A : Option Addr) (c : Nat) (vs : List V3) (B : Option Addr) (d : Nat) (fs : List Fc), e = .returned (.agg #[.slice A vs.length c, .slice B fs.length d]) ∧ Sl w' w.heap.size A vs ∧ Sl w' w.heap.size B fs ∧ SOut b N w w' ∧ vs.length ≤ 100 ∧ fs.length ≤ 100

set_option maxHeartbeats 4000000 in
set_option maxRecDepth 100000 in
theorem aMeshN_any (b : Nat) (N : Int) (w : World) (hs : Strm w b N) (hN : N ≤ 100000000) :
    Calls Tryz.prog 4 #[.pointer (some ⟨b, 0, none⟩)] w (SMeshN b (N + 70) w) := by
  have hbw := hs.lt
  obtain ⟨W1, hW1⟩ : ∃ W1, W1 = w.alloc (.cells #[.slice none 0 0, .slice none 0 0] 29) := ⟨_, rfl⟩
  obtain ⟨W, hW⟩ : ∃ W, W = W1.alloc (.cells #[.slice none 0 0, .slice none 0 0] 29) := ⟨_, rfl⟩
  have ho1 : SOut b N w W1 := by rw [hW1]; exact (SOut.refl hs).al _
  have hs1 : W1.heap.size = w.heap.size + 1 := by rw [hW1]; simp
  have hs2 : W.heap.size = w.heap.size + 1 + 1 := by rw [hW]; simp [hs1]
  have r0 : Cell W1 w.heap.size 0 (.slice none 0 0) := by rw [hW1]; exact Cell.new w [.slice none 0 0, .slice none 0 0] 29 0 _ rfl _ rfl
  have r1 : Cell W1 w.heap.size 1 (.slice none 0 0) := by rw [hW1]; exact Cell.new w [.slice none 0 0, .slice none 0 0] 29 1 _ rfl _ rfl
  have m0 : Cell W (w.heap.size + 1) 0 (.slice none 0 0) := by rw [hW]; exact Cell.new W1 [.slice none 0 0, .slice none 0 0] 29 0 _ rfl _ hs1.symm
  have m1 : Cell W (w.heap.size + 1) 1 (.slice none 0 0) := by rw [hW]; exact Cell.new W1 [.slice none 0 0, .slice none 0 0] 29 1 _ rfl _ hs1.symm
  have hc : AMc b (w.heap.size + 1) W.heap.size W1 := ⟨by omega, by omega, by omega⟩
  have hA : AMs b (w.heap.size + 1) W.heap.size W1 N none 0 [] none 0 [] W := ⟨by rw [hW]; exact (SOut.refl ho1.2).al _, m0, m1, ⟨Own.nil _ _ _, Own.nil _ _ _, fun g e => by cases e⟩, by simp⟩
  rw [hW1] at hW
  replace hW := hide hW.symm
  replace hs1 := hide hs1
  replace hs2 := hide hs2
  replace r0 := hide r0
  replace r1 := hide r1
  clear hW1 m0 m1
  replace hA := hide hA
  go_enter Tryz.func4, Tryz.ntmps4
  go_wp2_with fail
  rw [hW.out]
  refine (range_any b N _ _ _ hA.out.1.2 (by omega) (by omega) (by omega) (by omega)).mono ?_
  rintro e w2 ⟨n, rfl, ⟨hn1, hn2⟩, ho2⟩
  have hA := hA.out.st hc ho2
  clear hW ho2
  go_wp2_with fail
  go_loopw [11] (fun i wr => ∃ (k : Nat) (A : Option Addr) (c : Nat) (vs : List V3) (B : Option Addr) (d : Nat) (fs : List Fc), (k : Int) ≤ n ∧ i = .int .i64 k ∧ AMs b (w.heap.size + 1) W.heap.size W1 (N + 1 + 17 * k) A c vs B d fs wr ∧ Hid (k = 0 → fs = []) ∧ Hid (1 ≤ k → 4 ≤ vs.length ∧ 4 ≤ fs.length) ∧ vs.length ≤ 8 * k ∧ fs.length ≤ 12 * k) (fun i _ => (n - intOf i).toNat)
  case atStart => exact ⟨0, none, 0, [], none, 0, [], by omega, rfl, hA.mono (by omega), fun _ => rfl, fun h => by omega, by simp, by simp⟩
  case round =>
    obtain ⟨k, A, c, vs, B, d, fs, hk, rfl, hA, h0, h1, hvl, hfl⟩ := hrel
    by_cases hlt : (k : Int) < n
    · have hA0 := hA
      go_wp2_with fail
      refine (aVec_any b (N + 1 + 17 * k) _ hA.1.2 (by omega)).mono ?_
      rintro e w3 ⟨v, rfl, hv, ho3⟩
      replace hA := hA.st hc ho3
      clear ho3
      replace hv := hide hv
      go_wp2_with fail
      refine (pick_any b (N + 1 + 17 * k + 6) _ _ _ [1, 6, 10] _ (hA.1.2.pure (gr_alloc (World.grownBy.refl _ _) _)) (by omega) (sl_intsAt _ _ _ _ _ (by first | rfl | simp) (by have := hA.1.2.lt; omega) (by simp [maxLen])) rfl (by simp)).mono ?_
      rintro e w4 ⟨r, rfl, hr, ho4⟩
      replace hA := (hA.pure (gr_alloc (World.grownBy.refl _ _) _)).st hc ho4
      have hr' : Hid (0 ≤ r ∧ r ≤ 1000) := by simp at hr; simp only [Hid]; omega
      clear ho4 hr
      go_wp2_with fail
      refine (tetra_any v r _ hv.out hr'.out).mono ?_
      rintro e w5 ⟨A1, c1, vs1, B1, d1, fs1, rfl, hl1, hl2, hM, hin1, hg5⟩
      have hll : Hid ((4 ≤ vs1.length ∧ vs1.length ≤ 8) ∧ 4 ≤ fs1.length ∧ fs1.length ≤ 12) := by simp only [Hid]; omega
      rw [← hl1] at hin1
      replace hin1 := hide hin1
      clear hl1 hl2 hv hr'
      obtain ⟨hDA, hDB⟩ := hA.dis (gn := w5.heap.size) hg5.size (fun g e => (hM.1.blk_lt e).1) (fun g e => (hM.2.1.blk_lt e).1)
      have hb4 := hA.1.2.lt
      have hlo1 : W.heap.size ≤ w4.heap.size := by have := hA.2.1.lt; have := hs2.out; omega
      have hg45 := hg5.size
      replace hA := hA.pure hg5
      have hb5 := hA.1.2.lt
      replace hDA := hide hDA
      replace hDB := hide hDB
      have hNm : NMs w5.heap.size w4.heap.size A1 c1 vs1 B1 d1 fs1 (w5.alloc (.cells #[.slice A1 vs1.length c1, .slice B1 fs1.length d1] 29)) :=
        ⟨Cell.new w5 [.slice A1 vs1.length c1, .slice B1 fs1.length d1] 29 0 _ rfl _ rfl, Cell.new w5 [.slice A1 vs1.length c1, .slice B1 fs1.length d1] 29 1 _ rfl _ rfl, hM.gr (gr_alloc (World.grownBy.refl _ _) _)⟩
      replace hNm := hide hNm
      clear hM hg5
      go_wp2_with fail
      refine (flip_any b (N + 1 + 17 * k + 6 + 1) _ _ (hA.1.2.pure (gr_alloc (World.grownBy.refl _ _) _)) (by omega) (by omega)).mono ?_
      rintro e w6 ⟨fl, rfl, ho6⟩
      replace hA := (hA.pure (gr_alloc (World.grownBy.refl _ _) _)).st hc ho6
      replace hNm := hNm.out.st ho6 hb5 hb4
      clear ho6
      cases fl with
      | false =>
        go_upto_region 7 with fail
        obtain ⟨wy, rfl⟩ : ∃ x, x = w6 := ⟨w6, rfl⟩
        replace hA := hA.mono (show _ ≤ N + 1 + 17 * k + 17 by omega)
        have hgmn : w.heap.size + 1 < w5.heap.size := by have := hs2.out; omega
        have hgmn2 : ¬ w5.heap.size = w.heap.size + 1 := by omega
        have hgmn3 : ¬ w.heap.size + 1 = w5.heap.size := by omega
        have hgml : w.heap.size + 1 < w4.heap.size := by have := hs2.out; omega
        rcases Nat.eq_zero_or_pos k with hk0 | hk0
        · have hf0 : fs = [] := h0.out hk0
          subst hf0
          obtain ⟨-, ⟨p0, g0⟩, ⟨p1, g1⟩, -⟩ := id hA
          obtain ⟨⟨n0, -⟩, ⟨n1, -⟩, -⟩ := id hNm
          have hA2 := hide ((hA.take_ hc ⟨hNm.2.2.1.lower hlo1, hNm.2.2.2.1.lower hlo1, hNm.2.2.2.2⟩ hin1.out).mono (show _ ≤ N + 1 + 17 * ((k + 1 : Nat) : Int) by omega))
          clear hA hNm
          go_wp2_with fail
          (go_roundw; (case rel => exact ⟨k + 1, A1, c1, vs1, B1, d1, fs1, by omega, by go_num, hA2.out, fun h => by omega, fun _ => ⟨hll.out.1.1, hll.out.2.1⟩, by have := hll.out; omega, by have := hll.out; omega⟩); (case measure => simp [intOf]; omega))
        · have hk1 := h1.out hk0
          have hll1 := hll.out
          obtain ⟨gA1, rfl, -⟩ := hNm.2.2.1.shape (by omega)
          obtain ⟨gB1, rfl, -⟩ := hNm.2.2.2.1.shape (by omega)
          obtain ⟨-, ⟨p0, g0⟩, ⟨p1, g1⟩, -⟩ := id hA
          obtain ⟨⟨n0, -⟩, ⟨n1, -⟩, -⟩ := id hNm
          have hV := hA.2.2.2.1.1
          have hV1 := hNm.2.2.1.sl.mono (Nat.zero_le _)
          have hlo2 := hA.2.2.1.lt
          have hWsz : W.heap.size ≤ wy.heap.size := by have := hs2.out; omega
          have hfs0 : ¬ fs.length = 0 := by omega
          have hfs1 : 0 < fs.length := by omega
          replace hA := hide hA
          replace hNm := hide hNm
          go_wp2_with (at_builtin; obtain ⟨i0, hi, hz, q1, q2⟩ := info_parts info_v3; refine wpList_pushAt (α := V3) _ rfl (.tmp 42) (.tmp 44) _ rfl W.heap.size 38 i0 _ 24 Tryz.underlying26 hi hz q1 q2 rfl _ _ _ vs rfl ?c1 (by exact hV) 0 ⟨gA1, 0, none⟩ (vs1).length c1 vs1 rfl ?c5 (by exact hV1) ?c2 ?c3 ?c4 ?_)
          case c1 => rfl
          case c5 => rfl
          case c2 => omega
          case c3 => unfold maxLen; omega
          case c4 => omega
          intro A5 c5 w8' hown5 hG5
          obtain ⟨V5, hV5⟩ : ∃ V5, V5 = vs ++ vs1 := ⟨_, rfl⟩
          have hV5l : V5.length = vs.length + (vs1).length := by rw [hV5, List.length_append]
          rw [← hV5] at hown5
          rw [← hV5l]
          clear hV5
          have hA := hA.out
          have hNm := hNm.out
          obtain ⟨p0, g0⟩ := hA.2.1.grew hG5 hV hc.2.2
          obtain ⟨p1, g1⟩ := hA.2.2.1.grew hG5 hV hc.2.2
          have hA5 := hide (hA.setV hc hG5 hown5 (by omega))
          have hN5 := hNm.grew hG5 hDA.out
          obtain ⟨⟨n0, -⟩, ⟨n1, -⟩, -⟩ := id hN5
          have hN6 := hide (hN5.other (gr_set (World.grownBy.refl w8' (some (w.heap.size + 1))) (p := ⟨w.heap.size + 1, 0, none⟩) (.inl rfl) (.slice A5 V5.length c5)) (by omega) (fun e => by have := (hNm.2.2.1.blk_lt e).1; omega) (fun e => by have := (hNm.2.2.2.1.blk_lt e).1; omega))
          replace hV5l := hide hV5l
          clear hA hNm hN5 hown5 hG5 hV hV1
          go_upto_region 11 with fail
          generalize (w8'.setCell ⟨w.heap.size + 1, 0, none⟩ (.slice A5 V5.length c5)) = wz at *
          clear p0 g0 p1 g1 n0 n1
          obtain ⟨⟨n0, -⟩, ⟨n1, -⟩, -⟩ := id hN6.out
          obtain ⟨wp, rfl⟩ : ∃ x, x = wr := ⟨wr, rfl⟩
          go_wp2_with fail
          go_loopw [50] (fun i wr => ∃ (j : Nat) (B' : Option Addr) (d' : Nat) (fs' : List Fc), j ≤ (fs1).length ∧ i = .int .i64 j ∧ AMs b (w.heap.size + 1) W.heap.size W1 (N + 1 + 17 * k + 17) A5 c5 V5 B' d' fs' wr ∧ NMs w5.heap.size w4.heap.size (some ⟨gA1, 0, none⟩) c1 vs1 (some ⟨gB1, 0, none⟩) d1 fs1 wr ∧ Hid (Dis w5.heap.size (some ⟨gA1, 0, none⟩) (some ⟨gB1, 0, none⟩) B') ∧ Hid (fs'.length = fs.length + j)) (fun i _ => (fs1).length - (intOf i).toNat)
          case atStart => exact ⟨0, B, d, fs, by omega, rfl, hA5.out, hN6.out, hDB, rfl⟩
          case round =>
            obtain ⟨j, B', d', fs', hj, rfl, hA, hNm, hDX, hfl'⟩ := hrel
            by_cases hlj : j < (fs1).length
            · obtain ⟨-, -, ⟨p1, g1⟩, -⟩ := id hA
              have hfin := hin1.out _ (List.getElem_mem hlj)
              obtain ⟨c9, rfl, hcell⟩ := hNm.2.2.2.1.cell_at (by decide) hlj
              have x0 : wr.cell? ⟨gB1, j * 3, none⟩ = some (.int .i64 (fs1)[j].a) := hcell 0 _ rfl
              have x1 : wr.cell? ⟨gB1, j * 3 + 1, none⟩ = some (.int .i64 (fs1)[j].b) := hcell 1 _ rfl
              have x2 : wr.cell? ⟨gB1, j * 3 + 2, none⟩ = some (.int .i64 (fs1)[j].c) := hcell 2 _ rfl
              clear hcell
              generalize (fs1)[j] = f at *
              obtain ⟨b1, b2, b3⟩ := inF_bd hfin
              have hnew : Hid (inF V5.length ⟨f.a + vs.length, f.b + vs.length, f.c + vs.length⟩ = true) := by
                have := hV5l.out
                simp only [Hid, inF, inI, Bool.and_eq_true, decide_eq_true_eq]
                omega
              have y1 : 0 ≤ f.a ∧ f.a ≤ 8 := by omega
              have y2 : 0 ≤ f.b ∧ f.b ≤ 8 := by omega
              have y3 : 0 ≤ f.c ∧ f.c ≤ 8 := by omega
              clear b1 b2 b3 hfin
              have hF := hA.2.2.2.1.2.1
              have hWsz2 : W.heap.size ≤ wr.heap.size := by have := hA.2.2.1.lt; have := hs2.out; omega
              have hfl2 : fs'.length ≤ 40 := by have := hfl'.out; omega
              have hgB1 : gB1 < wr.heap.size := (hNm.2.2.2.1.blk_lt rfl).2
              have hgmr : w.heap.size + 1 < wr.heap.size := hA.2.2.1.lt
              replace hA := hide hA
              replace hNm := hide hNm
              go_wp2_with (at_builtin; obtain ⟨i0, hi, hz, h1, h2⟩ := info_parts info_face; refine wpList_pushAt (α := Fc) _ rfl (.tmp 55) (.tmp 69) _ rfl W.heap.size 58 i0 _ 24 Tryz.underlying27 hi hz h1 h2 rfl _ _ _ fs' rfl ?c1 (by exact (hF.pure (by repeat (first | exact World.grownBy.refl _ _ | assumption | refine gr_alloc ?_ _ | refine gr_drewN ?_ _ | refine gr_drew ?_)))) 0 ⟨_, 0, none⟩ 1 1 [⟨f.a + vs.length, f.b + vs.length, f.c + vs.length⟩] rfl rfl (by exact (sl_oneAt _ 0 _ _ _ _ (by first | rfl | simp) (Nat.zero_le _) rfl)) ?c2 ?c3 ?c4 ?_)
              case c1 => rfl
              case c2 => first | omega | (simp; omega)
              case c3 => first | (simp [maxLen]; omega) | (unfold maxLen; omega)
              case c4 => first | omega | (simp; omega)
              intro B5 d5 w9 hown5 hG5
              obtain ⟨F5, hF5⟩ : ∃ F5, F5 = fs' ++ [(⟨f.a + vs.length, f.b + vs.length, f.c + vs.length⟩ : Fc)] := ⟨_, rfl⟩
              have hF5l : F5.length = fs'.length + 1 := by rw [hF5]; simp
              have hF5i : ∀ f ∈ F5, inF V5.length f = true := by
                rw [hF5]
                intro f' hf'
                rcases List.mem_append.1 hf' with hf' | hf'
                · exact hA.out.2.2.2.2 f' hf'
                · rw [List.mem_singleton.1 hf']; exact hnew.out
              rw [← hF5] at hown5
              rw [← hF5l]
              clear hF5 hnew
              have hgm := gr_alloc (gr_alloc (World.grownBy.refl wr none) (.cells #[.int .i64 f.a, .int .i64 f.b, .int .i64 f.c] 58)) (.cells #[.int .i64 (f.a + vs.length), .int .i64 (f.b + vs.length), .int .i64 (f.c + vs.length)] 58)
              have hA := hA.out.pure hgm
              have hNm := hNm.out.pure hgm
              obtain ⟨p1, g1⟩ := hA.2.2.1.grew hG5 hA.2.2.2.1.2.1 hc.2.2
              have hA2 := hide (hA.setF hc hG5 hown5 hF5i)
              have hN2 := hNm.grew hG5 hDX.out
              have hD2 := hide (hDX.out.grew hG5 hNm)
              have hN3 := hide (hN2.other (gr_set (World.grownBy.refl w9 (some (w.heap.size + 1))) (p := ⟨w.heap.size + 1, 1, none⟩) (.inl rfl) (.slice B5 F5.length d5)) (by omega) (fun e => by have := (hN2.2.2.1.blk_lt e).1; omega) (fun e => by have := (hN2.2.2.2.1.blk_lt e).1; omega))
              have hF5l' : Hid (F5.length = fs.length + (j + 1)) := by have := hfl'.out; simp only [Hid]; omega
              clear hA hNm hN2 hgm hown5 hG5 hF5i hF x0 x1 x2 y1 y2 y3 hF5l
              go_wp2_with fail
              (go_roundw; (case rel => exact ⟨j + 1, B5, d5, F5, by omega, by go_num, hA2.out, hN3.out, hD2, hF5l'⟩); (case measure => simp [intOf]; omega))
            · have hj2 : j = (fs1).length := by omega
              subst hj2
              clear hNm
              replace hA := hide hA
              go_wp2_with fail
              (go_roundw; (case rel => exact ⟨k + 1, A5, c5, V5, B', d', fs', by omega, by go_num, hA.out.mono (by omega), fun h => by omega, fun _ => ⟨by have := hV5l.out; omega, by have := hfl'.out; omega⟩, by have := hV5l.out; omega, by have := hfl'.out; omega⟩); (case measure => simp [intOf]; omega))
      | true =>
        go_wp2_with fail
        refine (aVec_any b (N + 1 + 17 * k + 6 + 1 + 1) _ hA.1.2 (by omega)).mono ?_
        rintro e w7 ⟨v2, rfl, hv2, ho7⟩
        replace hA := hA.st hc ho7
        replace hNm := hNm.st ho7 hb5 hb4
        clear ho7 hv2
        go_wp2_with fail
        refine (pick_any b (N + 1 + 17 * k + 6 + 1 + 1 + 6) _ _ _ [1, 5] _ (hA.1.2.pure (gr_alloc (World.grownBy.refl _ _) _)) (by omega) (sl_intsAt _ _ _ _ _ (by first | rfl | simp) (by have := hA.1.2.lt; omega) (by simp [maxLen])) rfl (by simp)).mono ?_
        rintro e w8 ⟨r2, rfl, hr, ho8⟩
        replace hA := (hA.pure (gr_alloc (World.grownBy.refl _ _) _)).st hc ho8
        replace hNm := (hNm.pure (gr_alloc (World.grownBy.refl _ _) _)).st ho8 hb5 hb4
        clear ho8 hr
        go_wp2_with fail
        refine (pick_any b (N + 1 + 17 * k + 6 + 1 + 1 + 6 + 1) _ _ _ [2, 10] _ (hA.1.2.pure (gr_alloc (World.grownBy.refl _ _) _)) (by omega) (sl_intsAt _ _ _ _ _ (by first | rfl | simp) (by have := hA.1.2.lt; omega) (by simp [maxLen])) rfl (by simp)).mono ?_
        rintro e w9 ⟨r3, rfl, hr, ho9⟩
        replace hA := (hA.pure (gr_alloc (World.grownBy.refl _ _) _)).st hc ho9
        replace hNm := (hNm.pure (gr_alloc (World.grownBy.refl _ _) _)).st ho9 hb5 hb4
        clear ho9 hr
        go_wp2_with fail
        refine (pick_any b (N + 1 + 17 * k + 6 + 1 + 1 + 6 + 1 + 1) _ _ _ [3, 8] _ (hA.1.2.pure (gr_alloc (World.grownBy.refl _ _) _)) (by omega) (sl_intsAt _ _ _ _ _ (by first | rfl | simp) (by have := hA.1.2.lt; omega) (by simp [maxLen])) rfl (by simp)).mono ?_
        rintro e w10 ⟨r4, rfl, hr, ho10⟩
        replace hA := (hA.pure (gr_alloc (World.grownBy.refl _ _) _)).st hc ho10
        replace hNm := (hNm.pure (gr_alloc (World.grownBy.refl _ _) _)).st ho10 hb5 hb4
        clear ho10 hr
        go_wp2_with fail
        refine (block_any v2 r2 r3 r4 _).mono ?_
        rintro e w11 ⟨A2, c2, vs2, B2, d2, fs2, rfl, hl1, hl2, hM, hin2, hg11⟩
        clear hll hin1
        have hll : Hid ((4 ≤ vs2.length ∧ vs2.length ≤ 8) ∧ 4 ≤ fs2.length ∧ fs2.length ≤ 12) := by simp only [Hid]; omega
        rw [← hl1] at hin2
        have hin1 := hide hin2
        clear hl1 hl2 hin2
        have hD2 := hA.dis (gn := w10.heap.size) (Nat.le_refl _) (fun g e => (hM.1.blk_lt e).1) (fun g e => (hM.2.1.blk_lt e).1)
        have hDA : Hid (Dis w5.heap.size A2 B2 A) := fun g e => ⟨(hDA.out g e).1, (hD2.1 g e).2⟩
        have hDB : Hid (Dis w5.heap.size A2 B2 B) := fun g e => ⟨(hDB.out g e).1, (hD2.2 g e).2⟩
        clear hD2
        have h510 := hNm.1.lt
        have hlo1 : W.heap.size ≤ w10.heap.size := by omega
        replace hA := hA.pure hg11
        replace hNm := hNm.pure hg11
        obtain ⟨⟨n0, f0⟩, ⟨n1, f1⟩, -⟩ := id hNm
        have hgm : w.heap.size + 1 < w5.heap.size := by have := hs2.out; omega
        replace hA := hA.oth hc (gr_set (gr_set (World.grownBy.refl w11 (some w5.heap.size)) (p := ⟨w5.heap.size, 0, none⟩) (.inl rfl) (.slice A2 vs2.length c2)) (p := ⟨w5.heap.size, 1, none⟩) (.inl rfl) (.slice B2 fs2.length d2)) (by have := hs1.out; omega) (by omega) (fun e => (hDA.out _ e).1 rfl) (fun e => (hDB.out _ e).1 rfl)
        replace hNm := hNm.set hM h510
        replace hA := hide hA
        replace hNm := hide hNm
        clear hM hg11
        go_upto_region 7 with fail
        replace hA := hA.out.mono (show _ ≤ N + 1 + 17 * k + 17 by omega)
        replace hNm := hNm.out
        clear n0 f0 n1 f1
        generalize ((w11.setCell ⟨w5.heap.size, 0, none⟩ (.slice A2 vs2.length c2)).setCell ⟨w5.heap.size, 1, none⟩ (.slice B2 fs2.length d2)) = wy at *
        have hgmn : w.heap.size + 1 < w5.heap.size := by have := hs2.out; omega
        have hgmn2 : ¬ w5.heap.size = w.heap.size + 1 := by omega
        have hgmn3 : ¬ w.heap.size + 1 = w5.heap.size := by omega
        have hgml : w.heap.size + 1 < w10.heap.size := by have := hs2.out; omega
        rcases Nat.eq_zero_or_pos k with hk0 | hk0
        · have hf0 : fs = [] := h0.out hk0
          subst hf0
          obtain ⟨-, ⟨p0, g0⟩, ⟨p1, g1⟩, -⟩ := id hA
          obtain ⟨⟨n0, -⟩, ⟨n1, -⟩, -⟩ := id hNm
          have hA2 := hide ((hA.take_ hc ⟨hNm.2.2.1.lower hlo1, hNm.2.2.2.1.lower hlo1, hNm.2.2.2.2⟩ hin1.out).mono (show _ ≤ N + 1 + 17 * ((k + 1 : Nat) : Int) by omega))
          clear hA hNm
          go_wp2_with fail
          (go_roundw; (case rel => exact ⟨k + 1, A2, c2, vs2, B2, d2, fs2, by omega, by go_num, hA2.out, fun h => by omega, fun _ => ⟨hll.out.1.1, hll.out.2.1⟩, by have := hll.out; omega, by have := hll.out; omega⟩); (case measure => simp [intOf]; omega))
        · have hk1 := h1.out hk0
          have hll1 := hll.out
          obtain ⟨gA1, rfl, -⟩ := hNm.2.2.1.shape (by omega)
          obtain ⟨gB1, rfl, -⟩ := hNm.2.2.2.1.shape (by omega)
          obtain ⟨-, ⟨p0, g0⟩, ⟨p1, g1⟩, -⟩ := id hA
          obtain ⟨⟨n0, -⟩, ⟨n1, -⟩, -⟩ := id hNm
          have hV := hA.2.2.2.1.1
          have hV1 := hNm.2.2.1.sl.mono (Nat.zero_le _)
          have hlo2 := hA.2.2.1.lt
          have hWsz : W.heap.size ≤ wy.heap.size := by have := hs2.out; omega
          have hfs0 : ¬ fs.length = 0 := by omega
          have hfs1 : 0 < fs.length := by omega
          replace hA := hide hA
          replace hNm := hide hNm
          go_wp2_with (at_builtin; obtain ⟨i0, hi, hz, q1, q2⟩ := info_parts info_v3; refine wpList_pushAt (α := V3) _ rfl (.tmp 42) (.tmp 44) _ rfl W.heap.size 38 i0 _ 24 Tryz.underlying26 hi hz q1 q2 rfl _ _ _ vs rfl ?c1 (by exact hV) 0 ⟨gA1, 0, none⟩ (vs2).length c2 vs2 rfl ?c5 (by exact hV1) ?c2 ?c3 ?c4 ?_)
          case c1 => rfl
          case c5 => rfl
          case c2 => omega
          case c3 => unfold maxLen; omega
          case c4 => omega
          intro A5 c5 w8' hown5 hG5
          obtain ⟨V5, hV5⟩ : ∃ V5, V5 = vs ++ vs2 := ⟨_, rfl⟩
          have hV5l : V5.length = vs.length + (vs2).length := by rw [hV5, List.length_append]
          rw [← hV5] at hown5
          rw [← hV5l]
          clear hV5
          have hA := hA.out
          have hNm := hNm.out
          obtain ⟨p0, g0⟩ := hA.2.1.grew hG5 hV hc.2.2
          obtain ⟨p1, g1⟩ := hA.2.2.1.grew hG5 hV hc.2.2
          have hA5 := hide (hA.setV hc hG5 hown5 (by omega))
          have hN5 := hNm.grew hG5 hDA.out
          obtain ⟨⟨n0, -⟩, ⟨n1, -⟩, -⟩ := id hN5
          have hN6 := hide (hN5.other (gr_set (World.grownBy.refl w8' (some (w.heap.size + 1))) (p := ⟨w.heap.size + 1, 0, none⟩) (.inl rfl) (.slice A5 V5.length c5)) (by omega) (fun e => by have := (hNm.2.2.1.blk_lt e).1; omega) (fun e => by have := (hNm.2.2.2.1.blk_lt e).1; omega))
          replace hV5l := hide hV5l
          clear hA hNm hN5 hown5 hG5 hV hV1
          go_upto_region 11 with fail
          generalize (w8'.setCell ⟨w.heap.size + 1, 0, none⟩ (.slice A5 V5.length c5)) = wz at *
          clear p0 g0 p1 g1 n0 n1
          obtain ⟨⟨n0, -⟩, ⟨n1, -⟩, -⟩ := id hN6.out
          obtain ⟨wp, rfl⟩ : ∃ x, x = wr := ⟨wr, rfl⟩
          go_wp2_with fail
          go_loopw [50] (fun i wr => ∃ (j : Nat) (B' : Option Addr) (d' : Nat) (fs' : List Fc), j ≤ (fs2).length ∧ i = .int .i64 j ∧ AMs b (w.heap.size + 1) W.heap.size W1 (N + 1 + 17 * k + 17) A5 c5 V5 B' d' fs' wr ∧ NMs w5.heap.size w10.heap.size (some ⟨gA1, 0, none⟩) c2 vs2 (some ⟨gB1, 0, none⟩) d2 fs2 wr ∧ Hid (Dis w5.heap.size (some ⟨gA1, 0, none⟩) (some ⟨gB1, 0, none⟩) B') ∧ Hid (fs'.length = fs.length + j)) (fun i _ => (fs2).length - (intOf i).toNat)
          case atStart => exact ⟨0, B, d, fs, by omega, rfl, hA5.out, hN6.out, hDB, rfl⟩
          case round =>
            obtain ⟨j, B', d', fs', hj, rfl, hA, hNm, hDX, hfl'⟩ := hrel
            by_cases hlj : j < (fs2).length
            · obtain ⟨-, -, ⟨p1, g1⟩, -⟩ := id hA
              have hfin := hin1.out _ (List.getElem_mem hlj)
              obtain ⟨c9, rfl, hcell⟩ := hNm.2.2.2.1.cell_at (by decide) hlj
              have x0 : wr.cell? ⟨gB1, j * 3, none⟩ = some (.int .i64 (fs2)[j].a) := hcell 0 _ rfl
              have x1 : wr.cell? ⟨gB1, j * 3 + 1, none⟩ = some (.int .i64 (fs2)[j].b) := hcell 1 _ rfl
              have x2 : wr.cell? ⟨gB1, j * 3 + 2, none⟩ = some (.int .i64 (fs2)[j].c) := hcell 2 _ rfl
              clear hcell
              generalize (fs2)[j] = f at *
              obtain ⟨b1, b2, b3⟩ := inF_bd hfin
              have hnew : Hid (inF V5.length ⟨f.a + vs.length, f.b + vs.length, f.c + vs.length⟩ = true) := by
                have := hV5l.out
                simp only [Hid, inF, inI, Bool.and_eq_true, decide_eq_true_eq]
                omega
              have y1 : 0 ≤ f.a ∧ f.a ≤ 8 := by omega
              have y2 : 0 ≤ f.b ∧ f.b ≤ 8 := by omega
              have y3 : 0 ≤ f.c ∧ f.c ≤ 8 := by omega
              clear b1 b2 b3 hfin
              have hF := hA.2.2.2.1.2.1
              have hWsz2 : W.heap.size ≤ wr.heap.size := by have := hA.2.2.1.lt; have := hs2.out; omega
              have hfl2 : fs'.length ≤ 40 := by have := hfl'.out; omega
              have hgB1 : gB1 < wr.heap.size := (hNm.2.2.2.1.blk_lt rfl).2
              have hgmr : w.heap.size + 1 < wr.heap.size := hA.2.2.1.lt
              replace hA := hide hA
              replace hNm := hide hNm
              go_wp2_with (at_builtin; obtain ⟨i0, hi, hz, h1, h2⟩ := info_parts info_face; refine wpList_pushAt (α := Fc) _ rfl (.tmp 55) (.tmp 69) _ rfl W.heap.size 58 i0 _ 24 Tryz.underlying27 hi hz h1 h2 rfl _ _ _ fs' rfl ?c1 (by exact (hF.pure (by repeat (first | exact World.grownBy.refl _ _ | assumption | refine gr_alloc ?_ _ | refine gr_drewN ?_ _ | refine gr_drew ?_)))) 0 ⟨_, 0, none⟩ 1 1 [⟨f.a + vs.length, f.b + vs.length, f.c + vs.length⟩] rfl rfl (by exact (sl_oneAt _ 0 _ _ _ _ (by first | rfl | simp) (Nat.zero_le _) rfl)) ?c2 ?c3 ?c4 ?_)
              case c1 => rfl
              case c2 => first | omega | (simp; omega)
              case c3 => first | (simp [maxLen]; omega) | (unfold maxLen; omega)
              case c4 => first | omega | (simp; omega)
              intro B5 d5 w9 hown5 hG5
              obtain ⟨F5, hF5⟩ : ∃ F5, F5 = fs' ++ [(⟨f.a + vs.length, f.b + vs.length, f.c + vs.length⟩ : Fc)] := ⟨_, rfl⟩
              have hF5l : F5.length = fs'.length + 1 := by rw [hF5]; simp
              have hF5i : ∀ f ∈ F5, inF V5.length f = true := by
                rw [hF5]
                intro f' hf'
                rcases List.mem_append.1 hf' with hf' | hf'
                · exact hA.out.2.2.2.2 f' hf'
                · rw [List.mem_singleton.1 hf']; exact hnew.out
              rw [← hF5] at hown5
              rw [← hF5l]
              clear hF5 hnew
              have hgm := gr_alloc (gr_alloc (World.grownBy.refl wr none) (.cells #[.int .i64 f.a, .int .i64 f.b, .int .i64 f.c] 58)) (.cells #[.int .i64 (f.a + vs.length), .int .i64 (f.b + vs.length), .int .i64 (f.c + vs.length)] 58)
              have hA := hA.out.pure hgm
              have hNm := hNm.out.pure hgm
              obtain ⟨p1, g1⟩ := hA.2.2.1.grew hG5 hA.2.2.2.1.2.1 hc.2.2
              have hA2 := hide (hA.setF hc hG5 hown5 hF5i)
              have hN2 := hNm.grew hG5 hDX.out
              have hD2 := hide (hDX.out.grew hG5 hNm)
              have hN3 := hide (hN2.other (gr_set (World.grownBy.refl w9 (some (w.heap.size + 1))) (p := ⟨w.heap.size + 1, 1, none⟩) (.inl rfl) (.slice B5 F5.length d5)) (by omega) (fun e => by have := (hN2.2.2.1.blk_lt e).1; omega) (fun e => by have := (hN2.2.2.2.1.blk_lt e).1; omega))
              have hF5l' : Hid (F5.length = fs.length + (j + 1)) := by have := hfl'.out; simp only [Hid]; omega
              clear hA hNm hN2 hgm hown5 hG5 hF5i hF x0 x1 x2 y1 y2 y3 hF5l
              go_wp2_with fail
              (go_roundw; (case rel => exact ⟨j + 1, B5, d5, F5, by omega, by go_num, hA2.out, hN3.out, hD2, hF5l'⟩); (case measure => simp [intOf]; omega))
            · have hj2 : j = (fs2).length := by omega
              subst hj2
              clear hNm
              replace hA := hide hA
              go_wp2_with fail
              (go_roundw; (case rel => exact ⟨k + 1, A5, c5, V5, B', d', fs', by omega, by go_num, hA.out.mono (by omega), fun h => by omega, fun _ => ⟨by have := hV5l.out; omega, by have := hfl'.out; omega⟩, by have := hV5l.out; omega, by have := hfl'.out; omega⟩); (case measure => simp [intOf]; omega))
    · have hk1 := h1.out (by omega)
      have hvl2 : vs.length ≤ 16 := by omega
      have hfl2 : fs.length ≤ 24 := by omega
      obtain ⟨gA, rfl, -⟩ := hA.2.2.2.1.1.shape (by omega)
      obtain ⟨gB, rfl, -⟩ := hA.2.2.2.1.2.1.shape (by omega)
      replace hA := hA.mono (show _ ≤ N + 40 by omega)
      obtain ⟨wp, rfl⟩ : ∃ x, x = wr := ⟨wr, rfl⟩
      go_wp2_with fail
      refine (flip_any b (N + 40) _ _ hA.1.2 (by omega) (by omega)).mono ?_
      rintro e w3 ⟨f1, rfl, ho3⟩
      replace hA := hA.st hc ho3
      cases f1 with
      | false =>
        go_wp2_with fail
        replace hA := hA.mono (show _ ≤ N + 50 by omega)
        refine (flip_any b (N + 50) _ _ hA.1.2 (by omega) (by omega)).mono ?_
        rintro e w6 ⟨f2, rfl, ho6⟩
        replace hA := hA.st hc ho6
        cases f2 with
        | false =>
          obtain ⟨ho, q0, q1, ⟨o1, o2, -⟩, -⟩ := hA
          obtain ⟨a0, -⟩ := q0
          obtain ⟨a1, -⟩ := q1
          obtain ⟨x0, y0⟩ := r0.out.gr ho.1 (fun e => by injection e; omega)
          obtain ⟨x1, y1⟩ := r1.out.gr ho.1 (fun e => by injection e; omega)
          have hne1 : ¬ w.heap.size + 1 = w.heap.size := by omega
          have hne2 : ¬ w.heap.size = w.heap.size + 1 := by omega
          go_wp2_with fail
          have hgs := fun (u : World) (v1 v2 : Value) => gr_set (gr_set (World.grownBy.refl u (some w.heap.size)) (p := ⟨w.heap.size, 0, none⟩) (.inl rfl) v1) (p := ⟨w.heap.size, 1, none⟩) (.inl rfl) v2
          have hWl := hs2.out
          refine bodyPost_ret (v := .agg #[.slice (some ⟨gA, 0, none⟩) (vs).length c, .slice (some ⟨gB, 0, none⟩) (fs).length d]) (by simp [results, Tryz.results4, go_sem, x0, x1, y0, y1]) rfl ⟨(some ⟨gA, 0, none⟩), c, vs, (some ⟨gB, 0, none⟩), d, fs, rfl, ?_, ?_, ?_, by omega, by omega⟩
          · exact (o1.ne (hgs _ _ _) (fun g e1 e2 => by have := (o1.blk_lt e1).1; injection e2; omega)).sl.mono (by omega)
          · exact (o2.ne (hgs _ _ _) (fun g e1 e2 => by have := (o2.blk_lt e1).1; injection e2; omega)).sl.mono (by omega)
          · exact (((ho1.trans ho).mono (by omega)).set hbw (Nat.le_refl _) _).set hbw (Nat.le_refl _) _
        | true =>
          obtain ⟨hoX, hq0, hq1, ⟨hv1, hv2, hv3⟩, hv4⟩ := hA
          have hgA2 := hv1.blk_lt (g := gA) rfl
          have hgB2 := hv2.blk_lt (g := gB) rfl
          have hgAB : gA ≠ gB := fun e => hv3 gA rfl (by rw [e]; rfl)
          have hWl := hs2.out
          have hW1l := hs1.out
          have hp : (⟨b, w.heap.size + 1, gA, gB, c, vs.length, d, (fs).length, W.heap.size, w6.heap.size⟩ : Pl).ok W1 := ⟨by simp only; omega, by simp only; omega, by simp only; omega, hgA2.1, hgB2.1, hgAB, hgA2.2, hgB2.2, by simp only; omega, by simp only; omega⟩
          have hS : SpI ⟨b, w.heap.size + 1, gA, gB, c, vs.length, d, (fs).length, W.heap.size, w6.heap.size⟩ (fun f => inF vs.length f = true) W1 (N + 50 + 1) w6 := ⟨hoX, Nat.le_refl _, hq0, hq1, ⟨vs, rfl, hv1⟩, fs, rfl, hv4, hv2⟩
          have hSP := hide (spoil_any ⟨b, w.heap.size + 1, gA, gB, c, vs.length, d, (fs).length, W.heap.size, w6.heap.size⟩ (N + 50 + 1) W1 w6 hp hS (by omega) (by simp only; omega) (by simp only; omega))
          clear hp hS hoX hv1 hv2 hv3 hv4
          obtain ⟨p1, g1⟩ := hq1
          clear hq0
          go_wp2_with fail
          refine hSP.out.mono ?_
          rintro e w7 ⟨rfl, A9, c9, vs9, B9, d9, fs9, q0, q1, o1, o2, ho, hl91, hl92⟩
          simp only at q0 q1 o1 o2 ho hl91 hl92
          replace hl91 := Nat.le_of_eq hl91
          clear hSP
          obtain ⟨a0, -⟩ := q0
          obtain ⟨a1, -⟩ := q1
          obtain ⟨x0, y0⟩ := r0.out.gr ho.1 (fun e => by injection e; omega)
          obtain ⟨x1, y1⟩ := r1.out.gr ho.1 (fun e => by injection e; omega)
          have hne1 : ¬ w.heap.size + 1 = w.heap.size := by omega
          have hne2 : ¬ w.heap.size = w.heap.size + 1 := by omega
          go_wp2_with fail
          have hgs := fun (u : World) (v1 v2 : Value) => gr_set (gr_set (World.grownBy.refl u (some w.heap.size)) (p := ⟨w.heap.size, 0, none⟩) (.inl rfl) v1) (p := ⟨w.heap.size, 1, none⟩) (.inl rfl) v2
          have hWl := hs2.out
          refine bodyPost_ret (v := .agg #[.slice A9 (vs9).length c9, .slice B9 (fs9).length d9]) (by simp [results, Tryz.results4, go_sem, x0, x1, y0, y1]) rfl ⟨A9, c9, vs9, B9, d9, fs9, rfl, ?_, ?_, ?_, by omega, by omega⟩
          · exact (o1.ne (hgs _ _ _) (fun g e1 e2 => by have := (o1.blk_lt e1).1; injection e2; omega)).sl.mono (by omega)
          · exact (o2.ne (hgs _ _ _) (fun g e1 e2 => by have := (o2.blk_lt e1).1; injection e2; omega)).sl.mono (by omega)
          · exact (((ho1.trans ho).mono (by omega)).set hbw (Nat.le_refl _) _).set hbw (Nat.le_refl _) _
      | true =>
        obtain ⟨-, -, ⟨p1, g1⟩, -⟩ := id hA
        go_wp2_with fail
        refine (next_any b (N + 40 + 1) _ _ hA.1.2 (by omega) (by omega)).mono ?_
        rintro e w4 ⟨r, rfl, ⟨hr0, hr1⟩, ho4⟩
        obtain ⟨r, rfl⟩ := Int.eq_ofNat_of_zero_le hr0
        replace hA := hA.st hc ho4
        clear p1 g1
        obtain ⟨-, -, ⟨p1, g1⟩, -⟩ := id hA
        have hrl : r < fs.length := by omega
        have hD := deleteF_any gB W.heap.size d r fs w4 hA.2.2.2.1.2.1 hrl (by omega)
        obtain ⟨F5, hF5⟩ : ∃ F5, F5 = fs.take r ++ fs.drop (r + 1) := ⟨_, rfl⟩
        have hF5l : 1 ≤ F5.length ∧ F5.length ≤ 24 := by rw [hF5, List.length_append, List.length_take, List.length_drop]; omega
        have hF5i : ∀ f ∈ F5, inF vs.length f = true := by
          rw [hF5]
          intro f' hf'
          rcases List.mem_append.1 hf' with hf' | hf'
          · exact hA.2.2.2.2 f' (List.mem_of_mem_take hf')
          · exact hA.2.2.2.2 f' (List.mem_of_mem_drop hf')
        rw [← hF5] at hD
        clear hF5 hr0 hr1
        replace hD := hide hD
        go_wp2_with fail
        refine hD.out.mono ?_
        rintro e w5 ⟨rfl, hownD, hgD⟩
        clear hD
        have hG : Grew (some ⟨gB, 0, none⟩) (some ⟨gB, 0, none⟩) w4 w5 := ⟨hgD, .inl rfl⟩
        obtain ⟨p1, g1⟩ := hA.2.2.1.grew hG hA.2.2.2.1.2.1 hc.2.2
        replace hA := hide ((hA.setF hc hG hownD hF5i).mono (show _ ≤ N + 50 by omega))
        clear hownD hgD hG hF5i
        go_upto_region 20 with fail
        generalize (w5.setCell ⟨w.heap.size + 1, 1, none⟩ (.slice (some ⟨gB, 0, none⟩) F5.length d)) = wz at *
        clear p1 g1
        replace hA := hA.out
        go_wp2_with fail
        refine (flip_any b (N + 50) _ _ hA.1.2 (by omega) (by omega)).mono ?_
        rintro e w6 ⟨f2, rfl, ho6⟩
        replace hA := hA.st hc ho6
        cases f2 with
        | false =>
          obtain ⟨ho, q0, q1, ⟨o1, o2, -⟩, -⟩ := hA
          obtain ⟨a0, -⟩ := q0
          obtain ⟨a1, -⟩ := q1
          obtain ⟨x0, y0⟩ := r0.out.gr ho.1 (fun e => by injection e; omega)
          obtain ⟨x1, y1⟩ := r1.out.gr ho.1 (fun e => by injection e; omega)
          have hne1 : ¬ w.heap.size + 1 = w.heap.size := by omega
          have hne2 : ¬ w.heap.size = w.heap.size + 1 := by omega
          go_wp2_with fail
          have hgs := fun (u : World) (v1 v2 : Value) => gr_set (gr_set (World.grownBy.refl u (some w.heap.size)) (p := ⟨w.heap.size, 0, none⟩) (.inl rfl) v1) (p := ⟨w.heap.size, 1, none⟩) (.inl rfl) v2
          have hWl := hs2.out
          refine bodyPost_ret (v := .agg #[.slice (some ⟨gA, 0, none⟩) (vs).length c, .slice (some ⟨gB, 0, none⟩) (F5).length d]) (by simp [results, Tryz.results4, go_sem, x0, x1, y0, y1]) rfl ⟨(some ⟨gA, 0, none⟩), c, vs, (some ⟨gB, 0, none⟩), d, F5, rfl, ?_, ?_, ?_, by omega, by omega⟩
          · exact (o1.ne (hgs _ _ _) (fun g e1 e2 => by have := (o1.blk_lt e1).1; injection e2; omega)).sl.mono (by omega)
          · exact (o2.ne (hgs _ _ _) (fun g e1 e2 => by have := (o2.blk_lt e1).1; injection e2; omega)).sl.mono (by omega)
          · exact (((ho1.trans ho).mono (by omega)).set hbw (Nat.le_refl _) _).set hbw (Nat.le_refl _) _
        | true =>
          obtain ⟨hoX, hq0, hq1, ⟨hv1, hv2, hv3⟩, hv4⟩ := hA
          have hgA2 := hv1.blk_lt (g := gA) rfl
          have hgB2 := hv2.blk_lt (g := gB) rfl
          have hgAB : gA ≠ gB := fun e => hv3 gA rfl (by rw [e]; rfl)
          have hWl := hs2.out
          have hW1l := hs1.out
          have hp : (⟨b, w.heap.size + 1, gA, gB, c, vs.length, d, (F5).length, W.heap.size, w6.heap.size⟩ : Pl).ok W1 := ⟨by simp only; omega, by simp only; omega, by simp only; omega, hgA2.1, hgB2.1, hgAB, hgA2.2, hgB2.2, by simp only; omega, by simp only; omega⟩
          have hS : SpI ⟨b, w.heap.size + 1, gA, gB, c, vs.length, d, (F5).length, W.heap.size, w6.heap.size⟩ (fun f => inF vs.length f = true) W1 (N + 50 + 1) w6 := ⟨hoX, Nat.le_refl _, hq0, hq1, ⟨vs, rfl, hv1⟩, F5, rfl, hv4, hv2⟩
          have hSP := hide (spoil_any ⟨b, w.heap.size + 1, gA, gB, c, vs.length, d, (F5).length, W.heap.size, w6.heap.size⟩ (N + 50 + 1) W1 w6 hp hS (by omega) (by simp only; omega) (by simp only; omega))
          clear hp hS hoX hv1 hv2 hv3 hv4
          obtain ⟨p1, g1⟩ := hq1
          clear hq0
          go_wp2_with fail
          refine hSP.out.mono ?_
          rintro e w7 ⟨rfl, A9, c9, vs9, B9, d9, fs9, q0, q1, o1, o2, ho, hl91, hl92⟩
          simp only at q0 q1 o1 o2 ho hl91 hl92
          replace hl91 := Nat.le_of_eq hl91
          clear hSP
          obtain ⟨a0, -⟩ := q0
          obtain ⟨a1, -⟩ := q1
          obtain ⟨x0, y0⟩ := r0.out.gr ho.1 (fun e => by injection e; omega)
          obtain ⟨x1, y1⟩ := r1.out.gr ho.1 (fun e => by injection e; omega)
          have hne1 : ¬ w.heap.size + 1 = w.heap.size := by omega
          have hne2 : ¬ w.heap.size = w.heap.size + 1 := by omega
          go_wp2_with fail
          have hgs := fun (u : World) (v1 v2 : Value) => gr_set (gr_set (World.grownBy.refl u (some w.heap.size)) (p := ⟨w.heap.size, 0, none⟩) (.inl rfl) v1) (p := ⟨w.heap.size, 1, none⟩) (.inl rfl) v2
          have hWl := hs2.out
          refine bodyPost_ret (v := .agg #[.slice A9 (vs9).length c9, .slice B9 (fs9).length d9]) (by simp [results, Tryz.results4, go_sem, x0, x1, y0, y1]) rfl ⟨A9, c9, vs9, B9, d9, fs9, rfl, ?_, ?_, ?_, by omega, by omega⟩
          · exact (o1.ne (hgs _ _ _) (fun g e1 e2 => by have := (o1.blk_lt e1).1; injection e2; omega)).sl.mono (by omega)
          · exact (o2.ne (hgs _ _ _) (fun g e1 e2 => by have := (o2.blk_lt e1).1; injection e2; omega)).sl.mono (by omega)
          · exact (((ho1.trans ho).mono (by omega)).set hbw (Nat.le_refl _) _).set hbw (Nat.le_refl _) _

theorem aMesh_any (b : Nat) (N : Int) (w : World) (hs : Strm w b N) (hN : N ≤ 100000000) :
    Calls Tryz.prog 4 #[.pointer (some ⟨b, 0, none⟩)] w (SMesh b (N + 70) w) :=
  (aMeshN_any b N w hs hN).mono fun _ _ ⟨A, c, vs, B, d, fs, h1, h2, h3, h4⟩ => ⟨A, c, vs, B, d, fs, h1, h2.mono hs.lt, h3.mono hs.lt, h4⟩

end Go.Proofs.YtkcchcnljanloaaGreat

namespace Go.Proofs.YtkcchcnljanloaaGreat
open Go.RowKit Go.Bl

def SInts (b : Nat) (N : Int) (n : Nat) (w : World) (e : Ending) (w' : World) : Prop := ∃ (l : List Int) (A : Option Addr) (c : Nat), e = .returned (.slice A l.length c) ∧ Own w' w.heap.size 3 A c l ∧ l.length = n ∧ SOut b N w w'

/-- a list of numbers in memory, made by the stream -/
def SList (b : Nat) (N : Int) (M : Nat) (w : World) (e : Ending) (w' : World) : Prop := ∃ (l : List Int) (A : Option Addr) (c : Nat), e = .returned (.slice A l.length c) ∧ Sl w' (b + 1) A l ∧ l.length ≤ M ∧ l.length ≤ c ∧ SOut b N w w'

end Go.Proofs.YtkcchcnljanloaaGreat

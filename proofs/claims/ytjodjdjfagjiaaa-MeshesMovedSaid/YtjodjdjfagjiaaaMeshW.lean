/- Contracts of functions that this seat's laws reach, each: what one call returns and what it leaves in memory; no condition beyond each theorem's own hypotheses. -/
import Derived.Test.YtjodjdjfagjiaaaMeshV
import Derived.Deep.DeepAppendRoom
set_option linter.unusedVariables false
set_option linter.unusedSimpArgs false
namespace Go.Proofs.Ytjodjdjfagjiaaa
open Go.RowKit Go.Bl

theorem _root_.Go.Bl.Own.take {α : Type} [Enc α] {w : World} {lo : Nat} {e : TypeId} {A : Option Addr} {c : Nat} {l : List α} (h : Own w lo e A c l) (k : Nat) (hk : k ≤ l.length) : Own w lo e A c (l.take k) := by
  obtain ⟨hm, cs, hr, ho⟩ := h
  have hl : (l.take k).length = k := by rw [List.length_take]; omega
  have hrl := (hr.take k).len
  rw [hl] at hrl
  refine ⟨by omega, cs.take (k * Enc.sz α), hr.take k, by rw [hl]; exact hrl, ?_⟩
  rw [hl]
  rcases ho.2 with ⟨h1, h2⟩ | ⟨g, cap, cur, hv, hb, hh, hn, hc, hs, ht⟩
  · injection h1 with a b d
    exact .inl ⟨by rw [a, d, show k = 0 by omega], by omega⟩
  · injection hv with a b d
    refine .inr ⟨g, cap, cur, by rw [a, d], hb, hh, by omega, hc, hs, ?_⟩
    rw [← ht, List.take_take]
    congr 1
    exact (Nat.min_eq_left (Nat.mul_le_mul_right _ hk)).symm
theorem _root_.Go.Bl.Sl.drop {α : Type} [Enc α] {w : World} {lo : Nat} {g o : Nat} {l : List α} (h : Sl w lo (some ⟨g, o, none⟩) l) (k : Nat) : Sl w lo (some ⟨g, o + k * Enc.sz α, none⟩) (l.drop k) := by
  obtain ⟨hm, cs, hr, hl⟩ := h
  refine ⟨by rw [List.length_drop]; omega, _, hr.drop k, fun hne => ?_⟩
  obtain ⟨ad, e, hb, hc⟩ := hl (by rintro rfl; simp at hne)
  injection e with e
  subst e
  refine ⟨_, rfl, hb, fun j u hu => ?_⟩
  rw [List.getElem?_drop] at hu
  have := hc _ u hu
  rw [Addr.add_lit] at this ⊢
  rwa [Nat.add_assoc]

theorem _root_.Go.Bl.Own.spare {α : Type} [Enc α] {w : World} {lo : Nat} {e : TypeId} {g c : Nat} {l : List α} (h : Own w lo e (some ⟨g, 0, none⟩) c l) {j : Nat} (hj : j < c * Enc.sz α) : (w.cell? ⟨g, j, none⟩).isSome = true := by
  obtain ⟨hm, cs, hr, h1, h2⟩ := h
  rcases h2 with ⟨h2, _⟩ | ⟨g', cap, cur, hv, _, hh, _, _, hs, _⟩
  · simp at h2
  · injection hv with a b d
    injection a with a
    injection a with a
    subst a
    subst d
    rw [cell_of_row _ _ _ _ _ _ hh, Array.getElem?_eq_getElem (by omega)]
    rfl
theorem _root_.Go.Bl.Own.past {α : Type} [Enc α] [Flat α] {w : World} {lo : Nat} {e : TypeId} {g c : Nat} {l : List α} (h : Own w lo e (some ⟨g, 0, none⟩) c l) {j : Nat} (hj : l.length * Enc.sz α ≤ j) (u : Value) : Own (w.setCell ⟨g, j, none⟩ u) lo e (some ⟨g, 0, none⟩) c l ∧ w.grownBy (w.setCell ⟨g, j, none⟩ u) (some g) := by
  obtain ⟨hm, cs, hr, ho⟩ := h
  have hl := hr.len
  obtain ⟨h1, h2⟩ := ho.stored j u
  rw [List.set_eq_of_length_le (by omega)] at h1
  exact ⟨⟨hm, cs, hr.flat, h1⟩, h2⟩
theorem run_clearF (w : World) (ty : TypeId) (g o c : Nat) (hc : ∀ j, j < 3 → (w.cell? ⟨g, o + j, none⟩).isSome = true) (hf : ∀ j, j < 3 → w.frozen? ⟨g, o + j, none⟩ = false) :
    (Builtin.clear_ #[27] ty #[.slice (some ⟨g, o, none⟩) 1 c]).run Try.prog w = .ok (.tuple #[]) (((w.setCell ⟨g, o, none⟩ (.int .i64 0)).setCell ⟨g, o + 1, none⟩ (.int .i64 0)).setCell ⟨g, o + 2, none⟩ (.int .i64 0)) := by
  have hst := run_storeCells_cells (P := Try.prog) g o [.int .i64 0, .int .i64 0, .int .i64 0] 0 w (by simpa using hc) (by simpa using hf) (by intro v hv; simp at hv; subst hv; rfl)
  simp only [Nat.add_zero] at hst
  have hv : ∀ w, (zeroValue 67).run Try.prog w = .ok (.agg #[.int .i64 0, .int .i64 0, .int .i64 0]) w := Try.zeroValue67
  have hz : (Builtin.zeroCells (Value.agg #[.int .i64 0, .int .i64 0, .int .i64 0]).cells 1).toList = [.int .i64 0, .int .i64 0, .int .i64 0] := by kernel_rfl
  simp [Builtin.clear_, run_underlying Try.underlying27, hv, hz, hst, World.setCells]

set_option maxHeartbeats 2000000 in
set_option maxRecDepth 100000 in
theorem deleteF_any (g lo c i : Nat) (fs : List Fc) (w : World) (h : Own w lo 67 (some ⟨g, 0, none⟩) c fs) (hi : i < fs.length) (hn : fs.length ≤ 1000) :
    Calls Try.prog 41 #[.slice (some ⟨g, 0, none⟩) fs.length c, .int .i64 i, .int .i64 (i + 1)] w fun e w' =>
      e = .returned (.slice (some ⟨g, 0, none⟩) (fs.take i ++ fs.drop (i + 1)).length c) ∧ Own w' lo 67 (some ⟨g, 0, none⟩) c (fs.take i ++ fs.drop (i + 1)) ∧ w.grownBy w' (some g) := by
  have hcap := h.cap
  obtain ⟨r, hr⟩ : ∃ r, fs.length = i + 1 + r := ⟨fs.length - (i + 1), by omega⟩
  have hlen : (fs.take i ++ fs.drop (i + 1)).length = i + r := by rw [List.length_append, List.length_take, List.length_drop]; omega
  have hdl : (fs.drop (i + 1)).length = r := by rw [List.length_drop]; omega
  rw [hr] at hcap
  rw [hr, hlen]
  obtain ⟨i0, hi', hz, h1, h2⟩ := info_parts info_face
  by_cases hc1 : i + 1 < c
  · replace hi' := hide hi'
    replace hz := hide hz
    replace h1 := hide h1
    replace h2 := hide h2
    replace hr := hide hr
    replace hlen := hide hlen
    replace hdl := hide hdl
    go_enter Try.func41, Try.ntmps41
    go_wp2_with fail
    rw [show (((i : Nat) : Int) == (i : Int) + 1) = false from beq_eq_false_iff_ne.2 (by omega)]
    refine wp_region_fix 6 ((fun wx => w.grownBy wx none)) (by kernel_rfl) (by kernel_rfl) (gr_drew (World.grownBy.refl _ _)) ?_
    simp only [List.take_succ_cons, List.take_zero, List.drop_succ_cons, List.drop_zero]
    iterate 6 ((refine fix_b (fun K hK => ?_); apply Exists.intro; refine ⟨fun wx hC K' hK' => ?_, ?_⟩; (focus (replace hK' := hide hK'; skip; go_wp2_with fail; exact hK'.out _ hC)); go_simp; refine hK _ ?_; clear hK K))
    refine fix_nil ?_
    intro wz hC
    obtain ⟨cs, hrow, hown⟩ : ∃ cs, Row wz lo (fs.take i) cs ∧ wz.ownsRow lo 67 3 (.slice (some ⟨g, 0, none⟩) (fs.take i).length c) (fs.take i).length cs := by
      obtain ⟨_, cs, hr, ho⟩ := (h.pure hC).take i (Nat.le_of_lt hi)
      exact ⟨cs, hr, ho⟩
    rw [show (fs.take i).length = i by rw [List.length_take]; omega] at hown
    obtain ⟨hd1, ds, hd2, hd3⟩ := (h.pure hC).sl.drop (i + 1)
    have hdl2 := hd2.len
    rw [hdl.out] at hdl2
    go_wp2_with (at_builtin; refine wpList_append_own_spare _ rfl (.tmp 22) (.tmp 25) _ rfl lo 67 i0 3 Try.underlying27 hi'.out h1.out g i c cs rfl hown ⟨g, (i + 1) * 3, none⟩ r _ ds rfl ?c1 ?c2 ?c3 ?c4 ?_)
    case c1 => exact hdl2
    case c2 =>
      intro j u hu
      obtain ⟨ad, e, _, hc⟩ := hd3 (by rintro rfl; simp at hu)
      injection e with e
      subst e
      rw [← hc j u hu, show (0 : Nat) + (i + 1) * Enc.sz Fc = (i + 1) * 3 from Nat.zero_add _]
    case c3 => exact hd2.one
    case c4 => omega
    intro w1 hown1 hg1
    have hO : Own w1 lo 67 (some ⟨g, 0, none⟩) c (fs.take i ++ fs.drop (i + 1)) := by
      refine ⟨by rw [hlen.out]; unfold maxLen; have := hr.out; omega, cs ++ ds, hrow.flat.append hd2.flat, ?_⟩
      rw [hlen.out]
      exact hown1
    have hwg : w.grownBy w1 (some g) := gr_trans (gr_any hC) hg1
    clear hown1 hown hd2 hd3 hrow hd1 hdl2 hC hg1
    have hcl : ∀ ty, (Builtin.clear_ #[27] ty #[.slice (some ⟨g, (i + r) * 3, none⟩) (i + 1 + r - (i + r)) (c - (i + r))]).run Try.prog w1 = .ok (.tuple #[]) (((w1.setCell ⟨g, (i + r) * 3, none⟩ (.int .i64 0)).setCell ⟨g, (i + r) * 3 + 1, none⟩ (.int .i64 0)).setCell ⟨g, (i + r) * 3 + 2, none⟩ (.int .i64 0)) := fun ty => by
      rw [show i + 1 + r - (i + r) = 1 by omega]
      exact run_clearF w1 ty g ((i + r) * 3) (c - (i + r)) (fun j hj => hO.spare (by rw [show Enc.sz Fc = 3 from rfl]; omega)) (fun j _ => hO.frozen _)
    have hp : (fs.take i ++ fs.drop (i + 1)).length * Enc.sz Fc ≤ (i + r) * 3 := by rw [hlen.out, show Enc.sz Fc = 3 from rfl]; exact Nat.le_refl _
    have p1 := hO.past hp (.int .i64 0)
    have p2 := p1.1.past (Nat.le_trans hp (Nat.le_add_right _ 1)) (.int .i64 0)
    have p3 := p2.1.past (Nat.le_trans hp (Nat.le_add_right _ 2)) (.int .i64 0)
    have hgz := gr_trans (gr_trans (gr_trans hwg p1.2) p2.2) p3.2
    have hO3 := p3.1
    clear p1 p2 p3 hO hp hwg
    go_wp2
    go_ret
    exact ⟨rfl, hO3, hgz⟩
  · have hc2 : c = i + 1 := by omega
    have hr0 : r = 0 := by omega
    subst hr0
    subst hc2
    have hd0 : fs.drop (i + 1) = [] := List.drop_eq_nil_of_le (by omega)
    rw [hd0, List.append_nil]
    rw [hd0, List.append_nil] at hlen
    clear hd0 hdl
    replace hr := hide hr
    replace hlen := hide hlen
    rw [Nat.add_zero, Nat.add_zero]
    go_enter Try.func41, Try.ntmps41
    go_wp2_with fail
    rw [show (((i : Nat) : Int) == (i : Int) + 1) = false from beq_eq_false_iff_ne.2 (by omega)]
    refine wp_region_fix 6 ((fun wx => w.grownBy wx none)) (by kernel_rfl) (by kernel_rfl) (gr_drew (World.grownBy.refl _ _)) ?_
    simp only [List.take_succ_cons, List.take_zero, List.drop_succ_cons, List.drop_zero]
    iterate 6 ((refine fix_b (fun K hK => ?_); apply Exists.intro; refine ⟨fun wx hC K' hK' => ?_, ?_⟩; (focus (replace hK' := hide hK'; skip; go_wp2_with fail; exact hK'.out _ hC)); go_simp; refine hK _ ?_; clear hK K))
    refine fix_nil ?_
    intro wz hC
    have hO := (h.pure hC).take i (Nat.le_of_lt hi)
    have hcl : ∀ ty, (Builtin.clear_ #[27] ty #[.slice (some ⟨g, i * 3, none⟩) 1 1]).run Try.prog wz = .ok (.tuple #[]) (((wz.setCell ⟨g, i * 3, none⟩ (.int .i64 0)).setCell ⟨g, i * 3 + 1, none⟩ (.int .i64 0)).setCell ⟨g, i * 3 + 2, none⟩ (.int .i64 0)) := fun ty =>
      run_clearF wz ty g (i * 3) 1 (fun j hj => hO.spare (by rw [show Enc.sz Fc = 3 from rfl]; omega)) (fun j _ => hO.frozen _)
    have hp : (fs.take i).length * Enc.sz Fc ≤ i * 3 := by rw [hlen.out, show Enc.sz Fc = 3 from rfl]; exact Nat.le_refl _
    have p1 := hO.past hp (.int .i64 0)
    have p2 := p1.1.past (Nat.le_trans hp (Nat.le_add_right _ 1)) (.int .i64 0)
    have p3 := p2.1.past (Nat.le_trans hp (Nat.le_add_right _ 2)) (.int .i64 0)
    have hgz := gr_trans (gr_trans (gr_trans (gr_any hC) p1.2) p2.2) p3.2
    have hO3 := p3.1
    clear p1 p2 p3 hO hp
    go_wp2
    go_ret
    exact ⟨rfl, hO3, hgz⟩

end Go.Proofs.Ytjodjdjfagjiaaa

/- Contracts of functions that this seat's laws reach, each: what one call returns and what it leaves in memory; no condition beyond each theorem's own hypotheses. -/
import Derived.Test.YtejmbaiioblfeaaGreatDoorZqHulX
import Derived.Test.YtejmbaiioblfeaaGreatDoorZqPtCl
import Derived.Test.YtejmbaiioblfeaaGreatDoorSortPt
import Derived.Test.YtejmbaiioblfeaaGreatDoorSortRing
import Derived.Shelf.SlSortCmp.Whole1
import Derived.Test.YtejmbaiioblfeaaGreatDoorZqRegB
set_option linter.unusedVariables false
set_option linter.unusedSimpArgs false
namespace Go.Bl
open Go

theorem Own.takeH {α : Type} [Enc α] {w : World} {lo : Nat} {e : TypeId} {A : Option Addr} {c : Nat} {l : List α} (h : Own w lo e A c l) (k : Nat) (hk : k ≤ l.length) : Own w lo e A c (l.take k) := by
  obtain ⟨hm, cs, hr, ho⟩ := h
  have hl : (l.take k).length = k := by rw [List.length_take]; omega
  have hrl := (hr.take k).len
  rw [hl] at hrl
  refine ⟨by omega, cs.take (k * Enc.sz α), hr.take k, by rw [hl]; exact hrl, ?_⟩
  rw [hl]
  rcases ho.2 with ⟨h1, h2⟩ | ⟨g, cap, cur, hv, hb, hh, hn, hc, hs, ht⟩
  · injection h1 with a b d
    exact .inl ⟨by rw [a, d, show k = 0 by omega], by omega⟩
  · injection hv with a b d
    refine .inr ⟨g, cap, cur, by rw [a, d], hb, hh, by omega, hc, hs, ?_⟩
    rw [← ht, List.take_take]
    congr 1
    exact (Nat.min_eq_left (Nat.mul_le_mul_right _ hk)).symm

theorem Own.spareH {α : Type} [Enc α] {w : World} {lo : Nat} {e : TypeId} {g c : Nat} {l : List α} (h : Own w lo e (some ⟨g, 0, none⟩) c l) {j : Nat} (hj : j < c * Enc.sz α) : (w.cell? ⟨g, j, none⟩).isSome = true := by
  obtain ⟨hm, cs, hr, h1, h2⟩ := h
  rcases h2 with ⟨h2, _⟩ | ⟨g', cap, cur, hv, _, hh, _, _, hs, _⟩
  · simp at h2
  · injection hv with a b d
    injection a with a
    injection a with a
    subst a
    subst d
    rw [cell_of_row _ _ _ _ _ _ hh, Array.getElem?_eq_getElem (by omega)]
    rfl

theorem Own.pastH {α : Type} [Enc α] [Flat α] {w : World} {lo : Nat} {e : TypeId} {g c : Nat} {l : List α} (h : Own w lo e (some ⟨g, 0, none⟩) c l) {j : Nat} (hj : l.length * Enc.sz α ≤ j) (u : Value) : Own (w.setCell ⟨g, j, none⟩ u) lo e (some ⟨g, 0, none⟩) c l ∧ w.grownBy (w.setCell ⟨g, j, none⟩ u) (some g) := by
  obtain ⟨hm, cs, hr, ho⟩ := h
  have hl := hr.len
  obtain ⟨h1, h2⟩ := ho.stored j u
  rw [List.set_eq_of_length_le (by omega)] at h1
  exact ⟨⟨hm, cs, hr.flat, h1⟩, h2⟩

theorem Own.pastN {α : Type} [Enc α] [Flat α] {lo : Nat} {e : TypeId} {g c : Nat} {l : List α} : ∀ (vs : List Value) {w : World} {j : Nat}, Own w lo e (some ⟨g, 0, none⟩) c l → l.length * Enc.sz α ≤ j → Own (w.setCells g j vs) lo e (some ⟨g, 0, none⟩) c l ∧ w.grownBy (w.setCells g j vs) (some g)
  | [], w, _, h, _ => ⟨h, World.grownBy.refl _ _⟩
  | v :: r, w, j, h, hj => by
    have h1 := h.pastH hj v
    have h2 := Own.pastN r h1.1 (j := j + 1) (by omega)
    exact ⟨h2.1, gr_trans h1.2 h2.2⟩

end Go.Bl
namespace Go.Proofs.YtejmbaiioblfeaaGreatDoor
open Go Go.RowKit Go.Bl Go.Sort Go.Lib

set_option maxRecDepth 100000 in
theorem insNilPt (w : World) (f : Value) : Calls Tryz.prog 109 #[.slice none 0 0, .int .i64 0, .int .i64 0, f] w fun e w' => e = .returned (.tuple #[]) ∧ w = w' := by
  go_enter Tryz.func109, Tryz.ntmps109
  go_wp2_with fail
  refine wp_loop_once ?_
  go_wp2_with fail
  go_end0
  exact ⟨rfl, rfl⟩

set_option maxRecDepth 100000 in
theorem pdqNilPt (w : World) (f : Value) : Calls Tryz.prog 87 #[.slice none 0 0, .int .i64 0, .int .i64 0, .int .i64 0, f] w fun e w' => e = .returned (.tuple #[]) ∧ w = w' := by
  go_enter Tryz.func87, Tryz.ntmps87
  go_wp2_with fail
  refine wp_loop_once ?_
  go_wp2_with (go_at_call 109; refine (insNilPt _ _).mono ?_; rintro e w' ⟨rfl, rfl⟩)
  first
    | (go_ret; exact ⟨rfl, rfl⟩)
    | exact bodyPost_ret (v := .tuple #[]) rfl rfl ⟨rfl, rfl⟩
    | exact bodyPost_ret (v := .tuple #[]) (by simp [results, Tryz.results87]) rfl ⟨rfl, rfl⟩

set_option maxRecDepth 100000 in
theorem sortNilPt (w : World) (f : Value) : Calls Tryz.prog 55 #[.slice none 0 0, f] w fun e w' => e = .returned (.tuple #[]) ∧ w = w' := by
  go_enter Tryz.func55, Tryz.ntmps55
  go_wp2_with fail
  refine (lenBitsS_any _).mono ?_
  rintro e w' ⟨rfl, rfl⟩
  go_wp2_with fail
  refine (pdqNilPt _ _).mono ?_
  rintro e w' ⟨rfl, rfl⟩
  go_wp2_with fail
  go_end0
  exact ⟨rfl, rfl⟩

theorem isAgg_pt (w : World) : (isAgg 29).run Tryz.prog w = .ok true w := Tryz.isAgg29 w

theorem sizeOf_pt (w : World) : (Go.sizeOf 29).run Tryz.prog w = .ok 2 w := Tryz.sizeOf29 w

set_option maxHeartbeats 1000000 in
theorem sortPt_any (A : Option Addr) (c : Nat) (lo : Nat) (l : List Pt) (w : World) (ho : Own w lo 29 A c l) (hl : l.length ≤ 1000000) :
    Calls Tryz.prog 55 #[.slice A l.length c, .func (.func 36) #[] #[]] w fun e w' => e = .returned (.tuple #[]) ∧ ∃ l' : List Pt, l'.Perm l ∧ (∀ i j (hi : i < l'.length) (hj : j < l'.length), i < j → ¬ (l'[j].y < l'[i].y ∨ l'[j].y = l'[i].y ∧ l'[j].x < l'[i].x)) ∧ Own w' lo 29 A c l' ∧ w.grownBy w' (blk A) := by
  rcases Own.cases ho with ⟨rfl, rfl, rfl⟩ | ⟨g, rfl⟩
  · refine (sortNilPt w _).mono ?_
    rintro e w' ⟨rfl, rfl⟩
    exact ⟨rfl, [], List.Perm.refl _, fun i j hi => by simp at hi, ho, World.grownBy.refl _ _⟩
  · have eg : ∀ args w, (callFunc 36 args).run Tryz.prog w = .ok (.enter 36 args) w := enters_of Tryz.func36 (by kernel_rfl) rfl
    have hsz : l.toArray.size < 4611686018427387904 := by
      simp only [List.size_toArray]; omega
    have hcon := AnyQ.slices_SortFunc Tryz.sortPt 2 isAgg_pt sizeOf_pt EncL.e (fun x => EncL.len x) (fun x v hv => EncL.one x v hv) cmpPt swoPt 36 #[] g 0 c l.toArray w eg (fun m os dk _ x y => (comparePoints_any x y _).mono fun _ _ h => ⟨h.1, h.2.eq⟩) ho.holds (ho.blk_lt rfl).2 hsz
    change Calls Tryz.prog 55 _ _ _ at hcon
    refine hcon.mono ?_
    rintro e w' ⟨rfl, d', n, os, hp, hs, rfl⟩
    obtain ⟨h1, h2, h3⟩ := ho.sorted (n := n) (os := os) hp
    refine ⟨rfl, d'.toList, h1, fun i j hi hj hij => ?_, h2, h3⟩
    have hsz2 : d'.size = l.length := by simpa using (permIn_all hp).2
    have := hs i j (Nat.zero_le _) hij (by simpa [hsz2] using hj)
    rw [ltPt] at this
    simp only [Array.length_toList] at hi hj
    rw [getElem!_pos d' i hi, getElem!_pos d' j hj] at this
    simpa using this

theorem run_clearP (w : World) (ty : TypeId) (g o m c : Nat) (hm : 0 < m) (hc : ∀ j, j < m * 2 → (w.cell? ⟨g, o + j, none⟩).isSome = true) (hf : ∀ j, j < m * 2 → w.frozen? ⟨g, o + j, none⟩ = false) :
    (Builtin.clear_ #[35] ty #[.slice (some ⟨g, o, none⟩) m c]).run Tryz.prog w = .ok (.tuple #[]) (w.setCells g o (List.replicate (m * 2) (.int .i64 0))) := by
  have hv : ∀ w, (zeroValue 29).run Tryz.prog w = .ok (.agg #[.int .i64 0, .int .i64 0]) w := Tryz.zeroValue29
  have hzc : (Builtin.zeroCells (Value.agg #[.int .i64 0, .int .i64 0]).cells m).toList = List.replicate (m * 2) (.int .i64 0) := by
    have e : (Value.agg #[.int .i64 0, .int .i64 0]).cells = #[.int .i64 0, .int .i64 0] := by kernel_rfl
    rw [e]
    simp only [Builtin.zeroCells]
    apply List.ext_getElem
    · simp
    · intro i h1 h2
      have h3 : i % 2 = 0 ∨ i % 2 = 1 := by omega
      rcases h3 with h3 | h3 <;> simp [h3]
  have hst := run_storeCells_cells (P := Tryz.prog) g o (List.replicate (m * 2) (.int .i64 0)) 0 w (by simpa using hc) (by simpa using hf) (by intro v hv'; rw [List.eq_of_mem_replicate hv']; rfl)
  simp only [Nat.add_zero] at hst
  obtain ⟨k, rfl⟩ : ∃ k, m = k + 1 := ⟨m - 1, by omega⟩
  simp [Builtin.clear_, run_underlying Tryz.underlying35, hv, hzc, hst]

end Go.Proofs.YtejmbaiioblfeaaGreatDoor

namespace Go.Proofs.YtejmbaiioblfeaaGreatDoor
open Go Go.RowKit Go.Bl

end Go.Proofs.YtejmbaiioblfeaaGreatDoor

namespace Go.Proofs.YtejmbaiioblfeaaGreatDoor
open Go Go.RowKit Go.Bl

def lenV : Value → Nat
  | .slice _ n _ => n
  | _ => 0

end Go.Proofs.YtejmbaiioblfeaaGreatDoor

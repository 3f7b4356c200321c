/- Contracts of functions that this seat's laws reach, each: what one call returns and what it leaves in memory; no condition beyond each theorem's own hypotheses. -/
import Derived.Test.YtphkcafmbbeodaaGreatDoorZqCelAE
import Derived.Test.YtphkcafmbbeodaaGreatDoorZqPartsB
import Derived.Test.YtphkcafmbbeodaaGreatDoorZqClosA
set_option linter.unusedVariables false
set_option linter.unusedSimpArgs false
namespace Go.Bl
open Go

theorem memL_cons (p : Pt) (l : List Pt) (x y : Int) : memL (p :: l) x y = (memL l x y || decide (x = p.x ∧ y = p.y)) := by
  cases p with | mk a b =>
  unfold memL
  rw [Bool.eq_iff_iff]
  simp [or_comm]

theorem box_list : ∀ (l : List Pt), l ≠ [] → ∃ x0 y0 x1 y1, Box4 (memL l) x0 y0 x1 y1
  | [], h => absurd rfl h
  | p :: l, _ => by
    rcases l with _ | ⟨q, l⟩
    · exact ⟨_, _, _, _, Box4.one (a := p.x) (b := p.y) fun x y => by rw [memL_cons, memL_nil, Bool.false_or]⟩
    · obtain ⟨x0, y0, x1, y1, hb⟩ := box_list (q :: l) (by simp)
      exact ⟨_, _, _, _, hb.more (a := p.x) (b := p.y) fun x y => memL_cons p (q :: l) x y⟩
/-- the cells of a set near the origin -/
def nearL (M : Nat) (S : Int → Int → Bool) : List Pt := ((List.range M).filter fun k => S ((k % 100 : Nat) - 50) ((k / 100 : Nat) - 50)).map fun k => ⟨((k % 100 : Nat) : Int) - 50, ((k / 100 : Nat) : Int) - 50⟩

theorem nearL_mem {M : Nat} (hM : M = 10000) {S : Int → Int → Bool} (hn : NearS S) (x y : Int) : memL (nearL M S) x y = S x y := by
  unfold memL nearL
  rw [Bool.eq_iff_iff, decide_eq_true_eq, List.mem_map]
  constructor
  · rintro ⟨k, hk, e⟩
    rw [List.mem_filter] at hk
    injection e with e1 e2
    rw [e1, e2] at hk
    exact hk.2
  · intro h
    have hb := hn x y h
    have e1 : ((((y + 50).toNat * 100 + (x + 50).toNat) % 100 : Nat) : Int) - 50 = x := by omega
    have e2 : ((((y + 50).toNat * 100 + (x + 50).toNat) / 100 : Nat) : Int) - 50 = y := by omega
    refine ⟨(y + 50).toNat * 100 + (x + 50).toNat, ?_, by rw [e1, e2]⟩
    rw [List.mem_filter, List.mem_range, e1, e2]
    exact ⟨by omega, h⟩

theorem near_is {step : Int} {S : Int → Int → Bool} (hn : NearS S) : ∃ c e, IsCells step S c e := by
  obtain ⟨M, hM⟩ : ∃ M, M = 10000 := ⟨_, rfl⟩
  have hm := nearL_mem hM hn
  by_cases hl : nearL M S = []
  · refine ⟨⟨step, 0, 0, []⟩, 0, .inl ⟨fun x y => ?_, rfl, rfl⟩⟩
    rw [← hm, hl]; rfl
  · obtain ⟨x0, y0, x1, y1, hb⟩ := box_list _ hl
    have hb2 : Box4 S x0 y0 x1 y1 := hb.congr hm
    by_cases h1 : 199 < x1 - x0 ∨ 199 < y1 - y0
    · exact ⟨_, _, .inr ⟨x0, y0, x1, y1, hb2, .inl ⟨h1, rfl, rfl⟩⟩⟩
    · by_cases h2 : cellsF (mkC step S x0 y0 x1 y1) = 0
      · exact ⟨_, _, .inr ⟨x0, y0, x1, y1, hb2, .inr ⟨h1, .inl ⟨h2, rfl, rfl⟩⟩⟩⟩
      · exact ⟨_, _, .inr ⟨x0, y0, x1, y1, hb2, .inr ⟨h1, .inr ⟨h2, rfl, rfl⟩⟩⟩⟩

theorem celOf_near {step : Int} {S : Int → Int → Bool} (hs : stepB step = false) (hn : NearS S) : CellsOk (celOf step S) ∧ (celOf step S).step = step ∧ ∀ x y, onC (celOf step S) x y = S x y := by
  obtain ⟨c, e, h⟩ := near_is (step := step) hn
  obtain rfl := h.zero hs hn
  rw [celOf_eq h]
  exact h.back hs

theorem cntS_pos {S : Int → Int → Bool} (hn : NearS S) {x y : Int} (h : S x y = true) : 1 ≤ cntS S := by
  unfold cntS
  obtain ⟨M, hM⟩ : ∃ M, M = 10000 := ⟨_, rfl⟩
  rw [← hM]
  unfold cntM
  have hb := hn x y h
  have e1 : ((((y + 50).toNat * 100 + (x + 50).toNat) % 100 : Nat) : Int) - 50 = x := by omega
  have e2 : ((((y + 50).toNat * 100 + (x + 50).toNat) / 100 : Nat) : Int) - 50 = y := by omega
  exact List.countP_pos_iff.2 ⟨(y + 50).toNat * 100 + (x + 50).toNat, List.mem_range.2 (by omega), by rw [e1, e2]; exact h⟩

theorem cntS_none {S : Int → Int → Bool} (h : ∀ x y, S x y = false) : cntS S = 0 := by
  unfold cntS
  obtain ⟨M, hM⟩ : ∃ M, M = 10000 := ⟨_, rfl⟩
  rw [← hM]
  unfold cntM
  rw [List.countP_eq_zero]
  intro k _
  rw [h]; simp
/-! the parts -/
section
variable {c : Cel}

noncomputable def repsC (c : Cel) : List Pt := repsL (onC c) (cellsG (gridOf c) (gridOf c).on.length)

theorem at_on (h : CellsOk c) : (gridOf c).at = onC c := funext fun x => funext fun y => gridOf_at h

theorem partsC_eq (h : CellsOk c) : partsC c = (repsC c).map fun r => celOf c.step (compB (onC c) r) := by
  unfold partsC partsG repsC
  rw [at_on h]

theorem enum_on (h : CellsOk c) (p : Pt) : p ∈ cellsG (gridOf c) (gridOf c).on.length ↔ onC c p.x p.y = true := by
  rw [cellsG_all (gridOf_ok h), at_on h]

theorem repsC_on (h : CellsOk c) {r : Pt} (hr : r ∈ repsC c) : onC c r.x r.y = true := (enum_on h r).1 (reps_sub _ _ r hr)

theorem comp_near (h : CellsOk c) (hn : NearS (onC c)) {r : Pt} (hr : r ∈ repsC c) : NearS (compB (onC c) r) := fun x y hxy => hn x y (comp_sub (repsC_on h hr) hxy)

theorem partC_len (h : CellsOk c) : (partsC c).length = (repsC c).length := by rw [partsC_eq h, List.length_map]

theorem partC_at (h : CellsOk c) (hn : NearS (onC c)) {i : Nat} (hi : i < (partsC c).length) (hi2 : i < (repsC c).length) :
    CellsOk (partsC c)[i] ∧ (partsC c)[i].step = c.step ∧ (∀ x y, onC (partsC c)[i] x y = compB (onC c) (repsC c)[i] x y) := by
  have e : (partsC c)[i] = celOf c.step (compB (onC c) (repsC c)[i]) := by
    have := partsC_eq h
    simp only [this, List.getElem_map]
  rw [e]
  exact celOf_near h.step (comp_near h hn (List.getElem_mem hi2))
/-- a part has one part -/
theorem part_one {d : Cel} (h : CellsOk c) (hd : CellsOk d) {r : Pt} (hr : r ∈ repsC c) (hon : ∀ x y, onC d x y = compB (onC c) r x y) : (partsV d).length = 1 := by
  have e1 : onC d = compB (onC c) r := funext fun x => funext fun y => hon x y
  have : partsV d = partsC d := by unfold partsV; rw [if_pos (cells_ok.2 hd)]
  rw [this, partC_len hd]
  unfold repsC
  rw [e1]
  refine reps_one (repsC_on h hr) (fun p => ?_)
  rw [enum_on hd, e1]
/-- the first i parts together -/
noncomputable def unC (c : Cel) (i : Nat) : Int → Int → Bool := unB (onC c) ((repsC c).take i)

theorem unC_zero (x y : Int) : unC c 0 x y = false := rfl

theorem unC_next {i : Nat} (hi : i < (repsC c).length) (x y : Int) : unC c (i + 1) x y = (unC c i x y || compB (onC c) (repsC c)[i] x y) := un_take hi x y

theorem unC_all (h : CellsOk c) (x y : Int) : unC c (repsC c).length x y = onC c x y := by
  unfold unC
  rw [List.take_length]
  exact un_all (enum_on h) x y

theorem unC_sub (h : CellsOk c) {i : Nat} {x y : Int} (hu : unC c i x y = true) : onC c x y = true :=
  un_sub (fun r hr => repsC_on h (List.mem_of_mem_take hr)) hu

theorem unC_near (h : CellsOk c) (hn : NearS (onC c)) (i : Nat) : NearS (unC c i) := fun x y hu => hn x y (unC_sub h hu)

theorem unC_cnt (h : CellsOk c) {i : Nat} (hi : i < (repsC c).length) : cntS (unC c (i + 1)) = cntS (unC c i) + cntS (compB (onC c) (repsC c)[i]) := by
  have h1 := cntS_or (unC c i) (compB (onC c) (repsC c)[i])
  have h2 : cntS (fun x y => unC c i x y && compB (onC c) (repsC c)[i] x y) = 0 := cntS_none fun x y => un_apart (fun p hp => (enum_on h p).1 hp) hi x y
  have h3 : unC c (i + 1) = fun x y => unC c i x y || compB (onC c) (repsC c)[i] x y := funext fun x => funext fun y => unC_next hi x y
  rw [h3]
  omega
end
/-! what is closed -/

theorem wide_posC {c : Cel} (h : CellsOk c) (hr : c.rows.length ≠ 0) : 0 < wideR c.rows := by
  have ht := h.tight hr
  unfold tightB at ht
  simp only [Bool.and_eq_true, List.any_eq_true, List.mem_range] at ht
  obtain ⟨⟨⟨i0, hi0, b0⟩, -⟩, -⟩ := ht
  omega

theorem right_boxC {c : Cel} (h : CellsOk c) (hr : c.rows.length ≠ 0) : Box4 (onC c) (c.x / c.step) (c.y / c.step) (c.x / c.step + wideR c.rows - 1) (c.y / c.step + c.rows.length - 1) := by
  have h1 := right_box h hr
  have h2 := wide_posC h hr
  have e1 : c.x / c.step + ((wideR c.rows - 1 : Nat) : Int) = c.x / c.step + wideR c.rows - 1 := by omega
  have e2 : c.y / c.step + ((c.rows.length - 1 : Nat) : Int) = c.y / c.step + c.rows.length - 1 := by omega
  rw [e1, e2] at h1
  exact h1

theorem closC_none {c : Cel} (hr : c.rows.length = 0) (x y : Int) : closC c x y = false := by unfold closC; rw [decide_eq_false (by simp [hr])]; rfl

theorem closC_some {c : Cel} (hr : c.rows.length ≠ 0) (x y : Int) : closC c x y = closB (onC c) (c.x / c.step) (c.y / c.step) (c.x / c.step + wideR c.rows - 1) (c.y / c.step + c.rows.length - 1) x y := by unfold closC; rw [decide_eq_true hr]; rfl

theorem on_none {c : Cel} (hr : c.rows.length = 0) (x y : Int) : onC c x y = false := by
  have hb : bit c.rows (y - c.y / c.step).toNat (x - c.x / c.step).toNat = false := bit_row (by rw [hr]; exact Nat.zero_le _)
  rw [onC, hb, Bool.and_false]

theorem closC_sup {c : Cel} (h : CellsOk c) {x y : Int} (hx : onC c x y = true) : closC c x y = true := by
  by_cases hr : c.rows.length = 0
  · rw [on_none hr] at hx; cases hx
  · have hb := right_boxC h hr
    have hl := hb.le
    rw [closC_some hr]
    exact clos_sup hb.in_ hl.1 hl.2 hx

theorem closC_near {c : Cel} (h : CellsOk c) (hn : NearS (onC c)) : NearS (closC c) := by
  intro x y hx
  by_cases hr : c.rows.length = 0
  · rw [closC_none hr] at hx; cases hx
  · have hb := right_boxC h hr
    rw [closC_some hr] at hx
    have h1 := (clos_iff.1 hx).1
    obtain ⟨a1, k1⟩ := hb.l; obtain ⟨a2, k2⟩ := hb.r; obtain ⟨a3, k3⟩ := hb.b; obtain ⟨a4, k4⟩ := hb.t
    have := hn _ _ k1; have := hn _ _ k2; have := hn _ _ k3; have := hn _ _ k4
    omega

theorem closC_closC {c d : Cel} (h : CellsOk c) (hd : CellsOk d) (hon : ∀ x y, onC d x y = closC c x y) (x y : Int) : closC d x y = closC c x y := by
  by_cases hr : c.rows.length = 0
  · have hdr : d.rows.length = 0 := by
      apply Nat.eq_zero_of_not_pos
      intro hp
      obtain ⟨v, hv⟩ := (right_boxC hd (by omega)).l
      rw [hon, closC_none hr] at hv; cases hv
    rw [closC_none hr, closC_none hdr]
  · have hb := right_boxC h hr
    have hS : onC d = closB (onC c) (c.x / c.step) (c.y / c.step) (c.x / c.step + wideR c.rows - 1) (c.y / c.step + c.rows.length - 1) := funext fun x => funext fun y => by rw [hon, closC_some hr]
    have hb2 := clos_box hb
    have hdr : d.rows.length ≠ 0 := by
      intro hp
      obtain ⟨v, hv⟩ := hb2.l
      rw [← hS, on_none hp] at hv; cases hv
    have hb3 := right_boxC hd hdr
    rw [hS] at hb3
    obtain ⟨e1, e2, e3, e4⟩ := hb3.uniq hb2
    rw [closC_some hr, closC_some hdr, hS, e3, e4, e1, e2]
    exact clos_clos hb x y

theorem clos_res {c d : Cel} {er : Int} (h : CellsOk c) (hn : NearS (onC c)) (hR : ResC (cellsF c) c.step (closC c) d er) : er = 0 ∧ CellsOk d ∧ d.step = c.step ∧ ∀ x y, onC d x y = closC c x y := by
  rcases hR with ⟨h1, -⟩ | ⟨-, hI⟩
  · exact absurd (cells_ok.2 h) h1
  · obtain rfl := hI.zero h.step (closC_near h hn)
    exact ⟨rfl, hI.back h.step⟩

theorem res_none {a b c : Cel} {S : Int → Int → Bool} {er : Int} (h : ResC (pairF a b) a.step S c er) (ha : CellsOk a) (hb : CellsOk b) (hs : a.step = b.step) (hn : ∀ x y, S x y = false) : er = 0 ∧ c.rows = [] := by
  rcases h with ⟨h, -⟩ | ⟨-, ⟨-, rfl, h⟩ | ⟨_, _, _, _, hB, -⟩⟩
  · exact absurd (pair_zero ha hb hs) h
  · exact ⟨h, rfl⟩
  · exact (hB.no hn).elim

theorem CellsOk.smallP {c : Cel} (h : CellsOk c) : ∀ s ∈ c.rows, s.size ≤ 4611686018427387904 := fun s hs => by
  obtain ⟨j, hj, rfl⟩ := List.mem_iff_getElem.1 hs
  have h1 := (h.row j hj).1
  have h2 := h.wide
  rw [getD_of hj] at h1
  omega

end Go.Bl

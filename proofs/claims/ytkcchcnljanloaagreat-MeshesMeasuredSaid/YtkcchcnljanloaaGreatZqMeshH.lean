/- Contracts of functions that this seat's laws reach, each: what one call returns and what it leaves in memory; no condition beyond each theorem's own hypotheses. -/
import Derived.Test.YtkcchcnljanloaaGreatZqMeshE
import Derived.Test.YtkcchcnljanloaaGreatZqMapLib
import Derived.Test.YtkcchcnljanloaaGreatZqGpLib
set_option linter.unusedVariables false
set_option linter.unusedSimpArgs false
namespace Go.Proofs.YtkcchcnljanloaaGreat
open Go.RowKit Go.Bl Go.Maps Go.WideShapes

theorem laidOut : laidOutB Tryz.prog = true := by kernel_rfl

theorem size_pos : 0 < Tryz.prog.types.size := of_decide_eq_true (by kernel_rfl)

theorem side_row : 63 < Tryz.prog.types.size := of_decide_eq_true (by kernel_rfl)

theorem side_wide : (match Tryz.prog.underlying 63 with | some (.array _ _) | some (.struct _) => true | _ => false) = true := by rw [Tryz.underlying63]

theorem side_type : Tryz.prog.keyType 63 = true := by kernel_rfl

theorem side_cells : Tryz.prog.cellsOf 63 = 2 := by kernel_rfl

theorem int_cells : Tryz.prog.cellsOf 3 = 1 := by kernel_rfl

theorem side_at : Tryz.prog.keyTypeAt 2 63 = true := by kernel_rfl

set_option maxRecDepth 20000 in
theorem side_law : Keyed Tryz.prog 63 := Keyed.of_law (deep_law_laid laidOut (m := 2) (by omega) side_row side_at side_wide)

def okS (s : Sd) : Prop := (Lit.int .i64 s.u).wf = true ∧ (Lit.int .i64 s.v).wf = true

def sdV (s : Sd) : Value := .agg #[.int .i64 s.u, .int .i64 s.v]

def sdK (s : Sd) : Lit := .string (keyBytes [.int .i64 s.u, .int .i64 s.v])

theorem side_keyLits (d : Nat) (c0 c1 : Value) : Tryz.prog.keyLits (d + 2) 63 [c0, c1] = ((Tryz.prog.keyLits (d + 1) 3 [c0]).bind fun a => (Tryz.prog.keyLits (d + 1) 3 [c1]).map fun b => a ++ b) := by
  conv => lhs; unfold Program.keyLits
  simp only [Tryz.underlying63]
  simp [side_cells, int_cells]
  generalize Tryz.prog.keyLits (d + 1) 3 [c0] = x
  generalize Tryz.prog.keyLits (d + 1) 3 [c1] = y
  cases x <;> cases y <;> simp

theorem int_keyLits (d : Nat) (c : Value) (ls : List Lit) (h : Tryz.prog.keyLits (d + 1) 3 [c] = some ls) : ∃ n, c = .int .i64 n ∧ (Lit.int .i64 n).wf = true ∧ ls = [.int .i64 n] := by
  unfold Program.keyLits at h
  simp only [Tryz.underlying3] at h
  cases c <;> simp at h
  obtain ⟨⟨rfl, h1⟩, rfl⟩ := h
  exact ⟨_, rfl, h1, rfl⟩

theorem int_keyLits_mk (d : Nat) (n : Int) (h : (Lit.int .i64 n).wf = true) : Tryz.prog.keyLits (d + 1) 3 [.int .i64 n] = some [.int .i64 n] := by
  unfold Program.keyLits
  simp only [Tryz.underlying3]
  simp [h]

theorem size_two : ∃ d, Tryz.prog.types.size + 1 = d + 2 := ⟨Tryz.prog.types.size - 1, by have := size_pos; omega⟩

theorem side_key (s : Sd) (h : okS s) : keyOf Tryz.prog 63 (sdV s) = some (sdK s) := by
  obtain ⟨d, hd⟩ := size_two
  unfold keyOf
  simp only [Tryz.underlying63]
  rw [side_type, hd, show (sdV s).formed Tryz.prog 63 = true by simp [sdV, Value.formed, Tryz.underlying63, side_cells]]
  rw [show (sdV s).cells.toList = [.int .i64 s.u, .int .i64 s.v] from rfl, side_keyLits, int_keyLits_mk _ _ h.1, int_keyLits_mk _ _ h.2]
  rfl

theorem arr_two : ∀ (cs : Array Value), cs.size = 2 → ∃ c0 c1, cs = #[c0, c1]
  | ⟨[a, b]⟩, _ => ⟨a, b, rfl⟩

theorem side_inv (v : Value) (l : Lit) (h : keyOf Tryz.prog 63 v = some l) : ∃ s, v = sdV s ∧ okS s := by
  obtain ⟨d, hd⟩ := size_two
  unfold keyOf at h
  simp only [Tryz.underlying63] at h
  rw [side_type, hd] at h
  cases v with
  | agg cs =>
    by_cases hf : (Value.agg cs).formed Tryz.prog 63 = true
    · have hs : cs.size = 2 := by simpa [Value.formed, Tryz.underlying63, side_cells] using hf
      obtain ⟨c0, c1, rfl⟩ := arr_two cs hs
      simp only [hf, Bool.and_self, if_true] at h
      rw [show (Value.agg #[c0, c1]).cells.toList = [c0, c1] from rfl, side_keyLits] at h
      cases h0 : Tryz.prog.keyLits (d + 1) 3 [c0] with
      | none => rw [h0] at h; simp at h
      | some a =>
        cases h1 : Tryz.prog.keyLits (d + 1) 3 [c1] with
        | none => rw [h0, h1] at h; simp at h
        | some b =>
          obtain ⟨n, rfl, hn, _⟩ := int_keyLits _ _ _ h0
          obtain ⟨k, rfl, hk, _⟩ := int_keyLits _ _ _ h1
          exact ⟨⟨n, k⟩, rfl, hn, hk⟩
    · simp [hf] at h
  | _ => simp [Value.formed, Tryz.underlying63] at h

/-- sets of sides: map[api.Side]bool -/
noncomputable def sideM : MapTy Tryz.prog Sd Bool where
  k := 63
  e := 4
  kv := sdV
  ok := okS
  kl := sdK
  keyed := side_law
  key := side_key
  kinj := fun x y h => by cases x; cases y; simp [sdV] at h; simp [h]
  inv := side_inv
  ev := .bool
  okE := fun _ => True
  el := fun b => .lit (.bool b)
  zero := false
  okZ := trivial
  plain := fun b _ => plainElem_bool Tryz.underlying4 b
  einv := fun v z h => by
    unfold plainElem at h
    simp only [Tryz.underlying4] at h
    cases v <;> simp at h
    subst h
    exact ⟨_, rfl, trivial, rfl⟩
  einj := fun a b h => by simpa using h

/-- the set of sides that are there -/
def setS (l : List Sd) : Sd → Option Bool := fun s => if s ∈ l then some true else none

theorem setS_get (l : List Sd) (s : Sd) : (setS l s).getD false = decide (s ∈ l) := by unfold setS; by_cases h : s ∈ l <;> simp [h]

theorem setS_put (l : List Sd) (s : Sd) : (fun z => if z = s then some true else setS l z) = setS (l ++ [s]) := by
  funext z
  unfold setS
  by_cases h : z = s <;> simp [h]

theorem zero_bool (w : World) : (zeroValue 4).run Tryz.prog w = .ok (.bool false) w := by kernel_rfl

theorem wpList_lookup_S (w : World) {ops : Array Oper} {rest : List Oper} {o : Oper} {a : Act} {Q : Exit → Act → World → Prop} (hg : o.guard = none) (mo x : Operand) (hop : o.op = Op.lookup 96 mo x false)
    (b n : Nat) (L : List Sd) (hm : a.eval mo = .map (some b)) (hown : MapOf sideM w b n (setS L)) (key : Sd) (hx : a.eval x = .agg #[.int .i64 key.u, .int .i64 key.v]) (hok : okS key)
    (bb : Bool) (hb : decide (key ∈ L) = bb) (hK : wpList Tryz.prog ops Q rest (a.put o.dst (.bool bb)) w) :
    wpList Tryz.prog ops Q (o :: rest) a w := by
  refine wpList_lookup_M w sideM hg mo x _ hop Tryz.underlying96 (zero_bool w) b n (setS L) hm hown key hx hok ?_
  rw [← hb, ← setS_get] at hK
  exact hK

theorem wpList_store_S (w : World) {ops : Array Oper} {rest : List Oper} {o : Oper} {a : Act} {Q : Exit → Act → World → Prop} (hg : o.guard = none) (mo x v : Operand) (hop : o.op = Op.mapUpdate 96 mo x v)
    (b n : Nat) (L : List Sd) (hm : a.eval mo = .map (some b)) (hown : MapOf sideM w b n (setS L)) (hn : n < maxLen) (key : Sd) (hx : a.eval x = .agg #[.int .i64 key.u, .int .i64 key.v]) (hv : a.eval v = .bool true) (hok : okS key)
    (hK : ∀ w', MapOf sideM w' b (n + 1) (setS (L ++ [key])) → w.grownBy w' (some b) → wpList Tryz.prog ops Q rest (a.put o.dst undef) w') :
    wpList Tryz.prog ops Q (o :: rest) a w := by
  refine wpList_store_M w sideM hg mo x v _ hop Tryz.underlying96 b n (setS L) hm hown hn key true hx hv hok trivial fun w' h1 h2 => ?_
  rw [setS_put] at h1
  exact hK w' h1 h2

end Go.Proofs.YtkcchcnljanloaaGreat

namespace Go.Proofs.YtkcchcnljanloaaGreat
open Go.RowKit Go.Bl

theorem meshF_none {vs : List V3} {fs : List Fc} (h : fs = []) : meshF ⟨vs, fs⟩ = 8 := by unfold meshF; rw [if_pos h]

theorem meshF_large {vs : List V3} {fs : List Fc} (h : fs ≠ []) (h2 : 1000 < vs.length ∨ 1000 < fs.length) : meshF ⟨vs, fs⟩ = 2 := by unfold meshF; rw [if_neg h, if_pos h2]

theorem meshF_far {vs : List V3} {fs : List Fc} (h : fs ≠ []) (h2 : ¬ (1000 < vs.length ∨ 1000 < fs.length)) (h3 : vs.any farV = true) : meshF ⟨vs, fs⟩ = 1 := by unfold meshF; rw [if_neg h, if_neg h2, if_pos h3]

theorem meshF_face {vs : List V3} {fs : List Fc} (h : fs ≠ []) (h2 : ¬ (1000 < vs.length ∨ 1000 < fs.length)) (h3 : vs.any farV = false) (h4 : facesF vs fs ≠ 0) : meshF ⟨vs, fs⟩ = facesF vs fs := by unfold meshF; rw [if_neg h, if_neg h2, if_neg (by simp only [h3]; simp), if_neg h4]

theorem meshF_twice {vs : List V3} {fs : List Fc} (h : fs ≠ []) (h2 : ¬ (1000 < vs.length ∨ 1000 < fs.length)) (h3 : vs.any farV = false) (h4 : facesF vs fs = 0) (h5 : ¬ (allS fs).Nodup) : meshF ⟨vs, fs⟩ = 6 := by unfold meshF; rw [if_neg h, if_neg h2, if_neg (by simp only [h3]; simp), if_pos h4, if_neg h5]

theorem meshF_ok {vs : List V3} {fs : List Fc} (h : fs ≠ []) (h2 : ¬ (1000 < vs.length ∨ 1000 < fs.length)) (h3 : vs.any farV = false) (h4 : facesF vs fs = 0) (h5 : (allS fs).Nodup) : meshF ⟨vs, fs⟩ = 0 := by unfold meshF; rw [if_neg h, if_neg h2, if_neg (by simp only [h3]; simp), if_pos h4, if_pos h5]

theorem facesF_drop {vs : List V3} {fs : List Fc} {k : Nat} (h : k < fs.length) : facesF vs (fs.drop k) = if faceF vs fs[k] = 0 then facesF vs (fs.drop (k + 1)) else faceF vs fs[k] := by
  rw [List.drop_eq_getElem_cons h]; rfl

theorem facesF_mem {vs : List V3} : ∀ {fs : List Fc}, facesF vs fs = 0 → ∀ f ∈ fs, faceF vs f = 0
  | [], _, f, hf => by simp at hf
  | g :: r, h, f, hf => by
    unfold facesF at h
    by_cases hg : faceF vs g = 0
    · rw [if_pos hg] at h
      rcases List.mem_cons.1 hf with rfl | hf
      · exact hg
      · exact facesF_mem h f hf
    · rw [if_neg hg] at h; exact absurd h hg

theorem faceF_in {vs : List V3} {f : Fc} (h : faceF vs f = 0) : inF vs.length f = true := by
  cases hh : inF vs.length f with
  | true => rfl
  | false => rw [faceF_out hh] at h; cases h

theorem sd_cell {f : Fc} {n : Nat} (hn : n ≤ 1000) (h : inF n f = true) : ∀ s ∈ sdsOf f, okS s := by
  obtain ⟨a, b, c⟩ := f
  simp only [inF, inI, Bool.and_eq_true, decide_eq_true_eq] at h
  intro s hs
  simp only [sdsOf, List.mem_cons, List.not_mem_nil, or_false] at hs
  rcases hs with rfl | rfl | rfl <;> exact ⟨WalkArith.wf_i64 (by simp only; omega), WalkArith.wf_i64 (by simp only; omega)⟩

theorem allS_snoc {fs : List Fc} {k : Nat} (h : k < fs.length) : allS (fs.take (k + 1)) = allS (fs.take k) ++ sdsOf fs[k] := by
  rw [take_snoc h]
  unfold allS
  rw [List.flatMap_append, List.flatMap_cons, List.flatMap_nil, List.append_nil]

theorem allS_len (fs : List Fc) : (allS fs).length = 3 * fs.length := by
  induction fs with
  | nil => rfl
  | cons f r ih => simp only [allS, List.flatMap_cons, List.length_append, List.length_cons] at *; rw [ih]; simp [sdsOf]; omega

theorem nodup_snoc {l : List Sd} {s : Sd} (h : l.Nodup) (hs : s ∉ l) : (l ++ [s]).Nodup := by
  rw [List.nodup_append]
  exact ⟨h, by simp, fun a ha b hb => by rw [List.mem_singleton.1 hb]; rintro rfl; exact hs ha⟩

theorem not_nodup {fs : List Fc} {k j : Nat} (hk : k < fs.length) (hj : j < (sdsOf fs[k]).length) (h : (sdsOf fs[k])[j] ∈ allS (fs.take k) ++ (sdsOf fs[k]).take j) : ¬ (allS fs).Nodup := by
  intro hn
  have e : allS fs = allS (fs.take (k + 1)) ++ allS (fs.drop (k + 1)) := by
    simp only [allS]
    rw [← List.flatMap_append, List.take_append_drop]
  rw [e, allS_snoc hk, ← List.take_append_drop j (sdsOf fs[k]), ← List.append_assoc] at hn
  have h2 := (List.nodup_append.1 (List.nodup_append.1 hn).1).2.2
  refine h2 _ h _ ?_ rfl
  rw [List.drop_eq_getElem_cons hj]
  exact List.mem_cons_self ..

theorem index3_0 (w : World) (a b c d e g : Int) : (Instr.index 97 (.agg #[.int .i64 a, .int .i64 b, .int .i64 c, .int .i64 d, .int .i64 e, .int .i64 g]) (.int .i64 0)).run Tryz.prog w = .ok (.agg #[.int .i64 a, .int .i64 b]) w := by kernel_rfl

theorem index3_1 (w : World) (a b c d e g : Int) : (Instr.index 97 (.agg #[.int .i64 a, .int .i64 b, .int .i64 c, .int .i64 d, .int .i64 e, .int .i64 g]) (.int .i64 1)).run Tryz.prog w = .ok (.agg #[.int .i64 c, .int .i64 d]) w := by kernel_rfl

theorem index3_2 (w : World) (a b c d e g : Int) : (Instr.index 97 (.agg #[.int .i64 a, .int .i64 b, .int .i64 c, .int .i64 d, .int .i64 e, .int .i64 g]) (.int .i64 2)).run Tryz.prog w = .ok (.agg #[.int .i64 e, .int .i64 g]) w := by kernel_rfl

set_option maxHeartbeats 4000000 in
set_option maxRecDepth 100000 in
theorem checkMesh_any (A : Option Addr) (c : Nat) (vs : List V3) (B : Option Addr) (d : Nat) (fs : List Fc) (w : World) (hl : Sl w 0 A vs) (hfs : Sl w 0 B fs) :
    Calls Tryz.prog 37 #[.agg #[.slice A vs.length c, .slice B fs.length d]] w fun e w' => e = .returned (.int .i64 (meshF ⟨vs, fs⟩)) ∧ w.grownBy w' none := by
  have hm := hl.1
  unfold maxLen at hm
  have hm2 := hfs.1
  unfold maxLen at hm2
  by_cases h0 : fs = []
  · have HE : Hid (meshF ⟨vs, fs⟩ = 8) := meshF_none h0
    have hz : fs.length = 0 := by simp [h0]
    have hzb : ((fs.length : Int) == 0) = true := by simp [hz]
    clear h0
    go_enter Tryz.func37, Tryz.ntmps37
    go_wp2
    go_ret
    exact ⟨ret_int HE.out.symm, (by repeat (first | exact World.grownBy.refl _ _ | assumption | refine gr_alloc ?_ _ | (apply gr_tail; assumption) | refine gr_drewN ?_ _ | refine gr_drew ?_))⟩
  · by_cases h1 : 1000 < vs.length ∨ 1000 < fs.length
    · have HE : Hid (meshF ⟨vs, fs⟩ = 2) := meshF_large h0 h1
      have hz : fs.length ≠ 0 := by simpa using h0
      clear h0
      by_cases h2 : 1000 < vs.length
      · clear h1
        go_enter Tryz.func37, Tryz.ntmps37
        go_wp2
        go_ret
        exact ⟨ret_int HE.out.symm, (by repeat (first | exact World.grownBy.refl _ _ | assumption | refine gr_alloc ?_ _ | (apply gr_tail; assumption) | refine gr_drewN ?_ _ | refine gr_drew ?_))⟩
      · have h3 : 1000 < fs.length := by omega
        clear h1
        go_enter Tryz.func37, Tryz.ntmps37
        go_wp2
        go_ret
        exact ⟨ret_int HE.out.symm, (by repeat (first | exact World.grownBy.refl _ _ | assumption | refine gr_alloc ?_ _ | (apply gr_tail; assumption) | refine gr_drewN ?_ _ | refine gr_drew ?_))⟩
    · have HF : Hid (vs.any farV = true → meshF ⟨vs, fs⟩ = 1) := meshF_far h0 h1
      have HG : Hid (vs.any farV = false → facesF vs fs ≠ 0 → meshF ⟨vs, fs⟩ = facesF vs fs) := meshF_face h0 h1
      have HT : Hid (vs.any farV = false → facesF vs fs = 0 → ¬ (allS fs).Nodup → meshF ⟨vs, fs⟩ = 6) := meshF_twice h0 h1
      have HO : Hid (vs.any farV = false → facesF vs fs = 0 → (allS fs).Nodup → meshF ⟨vs, fs⟩ = 0) := meshF_ok h0 h1
      have hz : fs.length ≠ 0 := by simpa using h0
      have hv1 : vs.length ≤ 1000 := by omega
      have hf1 : fs.length ≤ 1000 := by omega
      clear h0 h1
      have hg0 := gr_alloc (World.grownBy.refl w none) (.cells #[.slice A vs.length c, .slice B fs.length d] 29)
      have b0 := (Cell.new w [.slice A vs.length c, .slice B fs.length d] 29 0 _ rfl _ rfl).1
      have b1 := (Cell.new w [.slice A vs.length c, .slice B fs.length d] 29 1 _ rfl _ rfl).1
      replace b0 := hide b0
      replace b1 := hide b1
      go_enter Tryz.func37, Tryz.ntmps37
      go_wp2_with fail
      generalize w.alloc (.cells #[.slice A vs.length c, .slice B fs.length d] 29) = W at *
      have hWW := World.grownBy.refl W none
      go_loopw [30] (fun i wr => ∃ k : Nat, k ≤ vs.length ∧ i = .int .i64 k ∧ w.grownBy wr none ∧ W.grownBy wr none ∧ Hid ((vs.take k).any farV = false)) (fun i _ => vs.length - (intOf i).toNat)
      case atStart => exact ⟨0, Nat.zero_le _, rfl, hg0, hWW, by simp [Hid]⟩
      case round =>
        obtain ⟨k, hk, rfl, hg, hgW, hall⟩ := hrel
        by_cases hlt : k < vs.length
        · obtain ⟨g, o, cx, rfl, hb0, hb1, rfl, hc⟩ := (hl.pure hg).at_ (by decide) hlt
          have v0 : wr.cell? ⟨g, o + k * 3, none⟩ = some (.int .i64 vs[k].x) := hc 0 _ rfl
          have v1 : wr.cell? ⟨g, o + k * 3 + 1, none⟩ = some (.int .i64 vs[k].y) := hc 1 _ rfl
          have v2 : wr.cell? ⟨g, o + k * 3 + 2, none⟩ = some (.int .i64 vs[k].z) := hc 2 _ rfl
          clear hc
          have HS := hide (anyV_snoc hlt)
          have HA : Hid (farV vs[k] = true → vs.any farV = true) := anyV_at hlt
          have HV : Hid (farV vs[k] = (farZ vs[k].x || farZ vs[k].y || farZ vs[k].z)) := rfl
          generalize vs[k] = v at *
          clear HG HT HO
          go_wp2_with (go_at_call 60; refine (isFarM_any _ _).mono ?_; rintro e w' ⟨rfl, rfl⟩)
          all_goals first
            | (go_ret; exact ⟨ret_int (HF.out (HA.out (by rw [HV.out]; simp [*]))).symm, (by repeat (first | exact World.grownBy.refl _ _ | assumption | refine gr_alloc ?_ _ | (apply gr_tail; assumption) | refine gr_drewN ?_ _ | refine gr_drew ?_))⟩)
            | (go_roundw; (case rel => exact ⟨k + 1, by omega, by go_num, (by repeat (first | exact World.grownBy.refl _ _ | assumption | refine gr_alloc ?_ _ | (apply gr_tail; assumption) | refine gr_drewN ?_ _ | refine gr_drew ?_)), (by repeat (first | exact World.grownBy.refl _ _ | assumption | refine gr_alloc ?_ _ | (apply gr_tail; assumption) | refine gr_drewN ?_ _ | refine gr_drew ?_)), by simp only [Hid]; rw [HS.out, hall.out, HV.out]; simp [*]⟩); (case measure => simp [intOf]; omega))
        · have hfar : Hid (vs.any farV = false) := by have := hall.out; rwa [List.take_of_length_le (by omega)] at this
          replace HG := hide (HG.out hfar.out)
          replace HT := hide (HT.out hfar.out)
          replace HO := hide (HO.out hfar.out)
          clear HF hall
          obtain ⟨X, hX⟩ : ∃ X : Int, X = facesF vs fs := ⟨_, rfl⟩
          rw [← hX] at HG HT HO
          replace hX := hide hX
          replace b1 := hide (hgW.k b1.out)
          have b1 := b1.out
          replace b0 := hide (hgW.k b0.out)
          go_wp2_with fail
          generalize hWc : wr = W2 at *
          clear hWc
          have hgW2 := World.grownBy.refl W2 none
          have hgA := hg
          clear hg hgW
          go_loopw [51] (fun i wr => ∃ k : Nat, k ≤ fs.length ∧ i = .int .i64 k ∧ w.grownBy wr none ∧ W2.grownBy wr none ∧ Hid (facesF vs (fs.drop k) = X)) (fun i _ => fs.length - (intOf i).toNat)
          case atStart => exact ⟨0, Nat.zero_le _, rfl, hgA, hgW2, by rw [Hid, hX.out]; rfl⟩
          case round =>
            obtain ⟨k, hk, rfl, hg, hgW, hdr⟩ := hrel
            by_cases hlt : k < fs.length
            · replace b0 := hgW.k b0.out
              replace b1 := hgW.k b1
              obtain ⟨g, o, cx, rfl, hb0, hb1, rfl, hc⟩ := (hfs.pure hg).at_ (by decide) hlt
              have v0 : wr.cell? ⟨g, o + k * 3, none⟩ = some (.int .i64 fs[k].a) := hc 0 _ rfl
              have v1 : wr.cell? ⟨g, o + k * 3 + 1, none⟩ = some (.int .i64 fs[k].b) := hc 1 _ rfl
              have v2 : wr.cell? ⟨g, o + k * 3 + 2, none⟩ = some (.int .i64 fs[k].c) := hc 2 _ rfl
              clear hc
              have HS := facesF_drop (vs := vs) hlt
              generalize hff : fs[k] = f at *
              rw [hdr.out] at HS
              replace hff := hide hff
              have HZ : Hid (faceF vs f = 0 → facesF vs (fs.drop (k + 1)) = X) := fun h => by rw [if_pos h] at HS; exact HS.symm
              have HN : Hid (faceF vs f ≠ 0 → faceF vs f = X) := fun h => by rw [if_neg h] at HS; exact HS.symm
              clear HS HT HO
              have hlt0 : w.heap.size < wr.heap.size := cell_lt b0
              by_cases hy : faceF vs f = 0
              · have hb : (faceF vs f != 0) = false := by simp [hy]
                replace HZ := hide (HZ.out hy)
                clear hy HN
                go_wp2_with fail
                refine (faceFault_any A c vs _ _ _ f _ (hl.pure (gr_alloc hg _)) hfar.out).mono ?_
                rintro e w' ⟨rfl, hg'⟩
                go_wp2_with fail
                (go_roundw; (case rel => exact ⟨k + 1, by omega, by go_num, (by repeat (first | exact World.grownBy.refl _ _ | assumption | refine gr_alloc ?_ _ | (apply gr_tail; assumption) | refine gr_drewN ?_ _ | refine gr_drew ?_)), (by repeat (first | exact World.grownBy.refl _ _ | assumption | refine gr_alloc ?_ _ | (apply gr_tail; assumption) | refine gr_drewN ?_ _ | refine gr_drew ?_)), HZ⟩); (case measure => simp [intOf]; omega))
              · have hb : (faceF vs f != 0) = true := by simp [hy]
                have HX : Hid (faceF vs f = meshF ⟨vs, fs⟩) := by have e := HN.out hy; rw [Hid, HG.out (by rw [← e]; exact hy), e]
                clear hy HN HZ
                go_wp2_with fail
                refine (faceFault_any A c vs _ _ _ f _ (hl.pure (gr_alloc hg _)) hfar.out).mono ?_
                rintro e w' ⟨rfl, hg'⟩
                go_wp2_with fail
                go_ret
                exact ⟨ret_int HX.out, (by repeat (first | exact World.grownBy.refl _ _ | assumption | refine gr_alloc ?_ _ | (apply gr_tail; assumption) | refine gr_drewN ?_ _ | refine gr_drew ?_))⟩
            · have HX : X = 0 := by rw [← hdr.out, List.drop_of_length_le (by omega)]; rfl
              replace HT := hide (HT.out HX)
              replace HO := hide (HO.out HX)
              have HA : Hid (∀ f ∈ fs, faceF vs f = 0) := facesF_mem (hX.out.symm.trans HX)
              clear HG hdr
              replace b0 := hgW.k b0.out
              replace b1 := hgW.k b1
              have hmk := run_makeMap (P := Tryz.prog) 96 wr
              have hM0 := MapOf.made sideM wr
              have hge := gr_alloc (World.grownBy.refl wr none) (.map #[] 0)
              rw [show (fun _ : Sd => (none : Option Bool)) = setS (allS (fs.take 0)) by funext z; simp [setS, allS]] at hM0
              replace hM0 := hide hM0
              have b2 := hge.k b0
              have b3 := hge.k b1
              have hlt0 : w.heap.size < wr.heap.size := cell_lt b0
              go_wp2_with fail
              clear hmk b0 b1
              have hgC := gr_trans hg hge
              generalize hWm : wr.alloc (.map #[] 0) = W3 at *
              generalize hbm : wr.heap.size = bm at *
              have hgW3 := World.grownBy.refl W3 (some bm)
              clear hWm hbm hg hgW hgA hgW2 hge
              go_loopw [66] (fun i wr => ∃ k : Nat, k ≤ fs.length ∧ i = .int .i64 k ∧ w.grownBy wr none ∧ W3.grownBy wr (some bm) ∧ MapOf sideM wr bm (3 * k) (setS (allS (fs.take k))) ∧ Hid ((allS (fs.take k)).Nodup)) (fun i _ => fs.length - (intOf i).toNat)
              case atStart => exact ⟨0, Nat.zero_le _, rfl, hgC, hgW3, hM0.out, by simp [Hid, allS]⟩
              case round =>
                obtain ⟨k, hk, rfl, hg, hgW, hM, hnd⟩ := hrel
                by_cases hlt : k < fs.length
                · have hin := faceF_in (HA.out fs[k] (List.getElem_mem hlt))
                  have hok := hide (sd_cell hv1 hin)
                  have HD := hide (fun j hj h => HT.out (not_nodup (j := j) hlt hj h))
                  have HS := hide (allS_snoc hlt)
                  obtain ⟨g, o, cx, rfl, hb0, hb1, rfl, hc⟩ := (hfs.pure hg).at_ (by decide) hlt
                  have v0 : wr.cell? ⟨g, o + k * 3, none⟩ = some (.int .i64 fs[k].a) := hc 0 _ rfl
                  have v1 : wr.cell? ⟨g, o + k * 3 + 1, none⟩ = some (.int .i64 fs[k].b) := hc 1 _ rfl
                  have v2 : wr.cell? ⟨g, o + k * 3 + 2, none⟩ = some (.int .i64 fs[k].c) := hc 2 _ rfl
                  clear hc
                  generalize fs[k] = f at *
                  clear hin HT HO
                  replace hM := hide hM
                  go_wp2_with fail
                  refine (sides_any f _).mono ?_
                  rintro e w2 ⟨rfl, hg2⟩
                  have hM2 := (hM.out.kept (gr_alloc (World.grownBy.refl wr none) (.cells #[.int .i64 f.a, .int .i64 f.b, .int .i64 f.c] 58)) (by simp)).kept hg2 (by simp)
                  have hgw2 := gr_trans (gr_alloc hg (.cells #[.int .i64 f.a, .int .i64 f.b, .int .i64 f.c] 58)) hg2
                  have hgW2 := gr_trans (gr_alloc hgW (.cells #[.int .i64 f.a, .int .i64 f.b, .int .i64 f.c] 58)) (gr_any hg2)
                  clear hM v0 v1 v2 hg2
                  replace hM2 := hide hM2
                  go_wp2_with fail
                  replace HD := hide HD
                  generalize hL0 : allS (fs.take k) = L0 at *
                  clear hL0
                  have hnd2 := hnd
                  clear hnd hg hgW hM0 hb0 hb1
                  go_loopw [72] (fun i wr => ∃ j : Nat, j ≤ 3 ∧ i = .int .i64 j ∧ w.grownBy wr none ∧ W3.grownBy wr (some bm) ∧ MapOf sideM wr bm (3 * k + j) (setS (L0 ++ (sdsOf f).take j)) ∧ Hid ((L0 ++ (sdsOf f).take j).Nodup)) (fun i _ => 3 - (intOf i).toNat)
                  case atStart => exact ⟨0, by omega, rfl, hgw2, hgW2, by simpa using hM2.out, by simpa using hnd2⟩
                  case round =>
                    obtain ⟨j, hj, rfl, hg, hgW, hM, hnd⟩ := hrel
                    by_cases hjt : j < 3
                    · obtain rfl | rfl | rfl : j = 0 ∨ j = 1 ∨ j = 2 := by omega
                      · have hix := index3_0 wr f.a f.b f.b f.c f.c f.a
                        have hok1 : okS ⟨f.a, f.b⟩ := hok.out _ (by simp [sdsOf])
                        have hMa := hM.kept (gr_alloc (World.grownBy.refl wr none) (.cells #[.int .i64 (f.a), .int .i64 (f.b)] 63)) (by simp)
                        have hga := gr_alloc hg (.cells #[.int .i64 (f.a), .int .i64 (f.b)] 63)
                        have hgWa := gr_alloc hgW (.cells #[.int .i64 (f.a), .int .i64 (f.b)] 63)
                        have HD1 : Hid ((⟨f.a, f.b⟩ : Sd) ∈ L0 ++ (sdsOf f).take 0 → meshF ⟨vs, fs⟩ = 6) := fun h => HD.out 0 (by simp [sdsOf]) h
                        have HL : L0 ++ (sdsOf f).take (0 + 1) = (L0 ++ (sdsOf f).take 0) ++ [⟨f.a, f.b⟩] := by simp [sdsOf]
                        replace HL := hide HL
                        generalize L0 ++ (sdsOf f).take 0 = L at *
                        clear hM hg hgW HD HS
                        replace hMa := hide hMa
                        replace hok1 := hide hok1
                        by_cases hin : (⟨f.a, f.b⟩ : Sd) ∈ L
                        · have hb : Hid (decide ((⟨f.a, f.b⟩ : Sd) ∈ L) = true) := decide_eq_true hin
                          replace HD1 := hide (HD1.out hin)
                          clear hin
                          go_wp2_with (at_lookup; refine wpList_lookup_S _ rfl _ _ rfl bm _ L rfl hMa.out ⟨f.a, f.b⟩ rfl hok1.out true hb.out ?_)
                          go_ret
                          exact ⟨ret_int HD1.out.symm, hga⟩
                        · have hb : Hid (decide ((⟨f.a, f.b⟩ : Sd) ∈ L) = false) := decide_eq_false hin
                          have hnd1 := hide (nodup_snoc hnd.out hin)
                          clear hin HD1 hnd
                          go_wp2_with (first | (at_lookup; refine wpList_lookup_S _ rfl _ _ rfl bm _ L rfl hMa.out ⟨f.a, f.b⟩ rfl hok1.out false hb.out ?_) | (at_mapUpdate; refine wpList_store_S _ rfl _ _ _ rfl bm _ L rfl hMa.out (by simp [maxLen]; omega) ⟨f.a, f.b⟩ rfl rfl hok1.out ?_; intro w4 hM4 hg4))
                          have hM5 := hide (show MapOf sideM w4 bm (3 * k + (0 + 1)) (setS (L0 ++ (sdsOf f).take (0 + 1))) by rw [HL.out]; exact hM4.mono (by omega))
                          have hnd5 := hide (show (L0 ++ (sdsOf f).take (0 + 1)).Nodup by rw [HL.out]; exact hnd1.out)
                          have hg5 := gr_new hga hg4 (by omega)
                          have hg6 := gr_trans hgWa hg4
                          clear hM4 hnd1 HL
                          go_roundw
                          case rel => exact ⟨0 + 1, by omega, by go_num, hg5, hg6, hM5.out, hnd5.out⟩
                          case measure => simp [intOf]
                      · have hix := index3_1 wr f.a f.b f.b f.c f.c f.a
                        have hok1 : okS ⟨f.b, f.c⟩ := hok.out _ (by simp [sdsOf])
                        have hMa := hM.kept (gr_alloc (World.grownBy.refl wr none) (.cells #[.int .i64 (f.b), .int .i64 (f.c)] 63)) (by simp)
                        have hga := gr_alloc hg (.cells #[.int .i64 (f.b), .int .i64 (f.c)] 63)
                        have hgWa := gr_alloc hgW (.cells #[.int .i64 (f.b), .int .i64 (f.c)] 63)
                        have HD1 : Hid ((⟨f.b, f.c⟩ : Sd) ∈ L0 ++ (sdsOf f).take 1 → meshF ⟨vs, fs⟩ = 6) := fun h => HD.out 1 (by simp [sdsOf]) h
                        have HL : L0 ++ (sdsOf f).take (1 + 1) = (L0 ++ (sdsOf f).take 1) ++ [⟨f.b, f.c⟩] := by simp [sdsOf]
                        replace HL := hide HL
                        generalize L0 ++ (sdsOf f).take 1 = L at *
                        clear hM hg hgW HD HS
                        replace hMa := hide hMa
                        replace hok1 := hide hok1
                        by_cases hin : (⟨f.b, f.c⟩ : Sd) ∈ L
                        · have hb : Hid (decide ((⟨f.b, f.c⟩ : Sd) ∈ L) = true) := decide_eq_true hin
                          replace HD1 := hide (HD1.out hin)
                          clear hin
                          go_wp2_with (at_lookup; refine wpList_lookup_S _ rfl _ _ rfl bm _ L rfl hMa.out ⟨f.b, f.c⟩ rfl hok1.out true hb.out ?_)
                          go_ret
                          exact ⟨ret_int HD1.out.symm, hga⟩
                        · have hb : Hid (decide ((⟨f.b, f.c⟩ : Sd) ∈ L) = false) := decide_eq_false hin
                          have hnd1 := hide (nodup_snoc hnd.out hin)
                          clear hin HD1 hnd
                          go_wp2_with (first | (at_lookup; refine wpList_lookup_S _ rfl _ _ rfl bm _ L rfl hMa.out ⟨f.b, f.c⟩ rfl hok1.out false hb.out ?_) | (at_mapUpdate; refine wpList_store_S _ rfl _ _ _ rfl bm _ L rfl hMa.out (by simp [maxLen]; omega) ⟨f.b, f.c⟩ rfl rfl hok1.out ?_; intro w4 hM4 hg4))
                          have hM5 := hide (show MapOf sideM w4 bm (3 * k + (1 + 1)) (setS (L0 ++ (sdsOf f).take (1 + 1))) by rw [HL.out]; exact hM4.mono (by omega))
                          have hnd5 := hide (show (L0 ++ (sdsOf f).take (1 + 1)).Nodup by rw [HL.out]; exact hnd1.out)
                          have hg5 := gr_new hga hg4 (by omega)
                          have hg6 := gr_trans hgWa hg4
                          clear hM4 hnd1 HL
                          go_roundw
                          case rel => exact ⟨1 + 1, by omega, by go_num, hg5, hg6, hM5.out, hnd5.out⟩
                          case measure => simp [intOf]
                      · have hix := index3_2 wr f.a f.b f.b f.c f.c f.a
                        have hok1 : okS ⟨f.c, f.a⟩ := hok.out _ (by simp [sdsOf])
                        have hMa := hM.kept (gr_alloc (World.grownBy.refl wr none) (.cells #[.int .i64 (f.c), .int .i64 (f.a)] 63)) (by simp)
                        have hga := gr_alloc hg (.cells #[.int .i64 (f.c), .int .i64 (f.a)] 63)
                        have hgWa := gr_alloc hgW (.cells #[.int .i64 (f.c), .int .i64 (f.a)] 63)
                        have HD1 : Hid ((⟨f.c, f.a⟩ : Sd) ∈ L0 ++ (sdsOf f).take 2 → meshF ⟨vs, fs⟩ = 6) := fun h => HD.out 2 (by simp [sdsOf]) h
                        have HL : L0 ++ (sdsOf f).take (2 + 1) = (L0 ++ (sdsOf f).take 2) ++ [⟨f.c, f.a⟩] := by simp [sdsOf]
                        replace HL := hide HL
                        generalize L0 ++ (sdsOf f).take 2 = L at *
                        clear hM hg hgW HD HS
                        replace hMa := hide hMa
                        replace hok1 := hide hok1
                        by_cases hin : (⟨f.c, f.a⟩ : Sd) ∈ L
                        · have hb : Hid (decide ((⟨f.c, f.a⟩ : Sd) ∈ L) = true) := decide_eq_true hin
                          replace HD1 := hide (HD1.out hin)
                          clear hin
                          go_wp2_with (at_lookup; refine wpList_lookup_S _ rfl _ _ rfl bm _ L rfl hMa.out ⟨f.c, f.a⟩ rfl hok1.out true hb.out ?_)
                          go_ret
                          exact ⟨ret_int HD1.out.symm, hga⟩
                        · have hb : Hid (decide ((⟨f.c, f.a⟩ : Sd) ∈ L) = false) := decide_eq_false hin
                          have hnd1 := hide (nodup_snoc hnd.out hin)
                          clear hin HD1 hnd
                          go_wp2_with (first | (at_lookup; refine wpList_lookup_S _ rfl _ _ rfl bm _ L rfl hMa.out ⟨f.c, f.a⟩ rfl hok1.out false hb.out ?_) | (at_mapUpdate; refine wpList_store_S _ rfl _ _ _ rfl bm _ L rfl hMa.out (by simp [maxLen]; omega) ⟨f.c, f.a⟩ rfl rfl hok1.out ?_; intro w4 hM4 hg4))
                          have hM5 := hide (show MapOf sideM w4 bm (3 * k + (2 + 1)) (setS (L0 ++ (sdsOf f).take (2 + 1))) by rw [HL.out]; exact hM4.mono (by omega))
                          have hnd5 := hide (show (L0 ++ (sdsOf f).take (2 + 1)).Nodup by rw [HL.out]; exact hnd1.out)
                          have hg5 := gr_new hga hg4 (by omega)
                          have hg6 := gr_trans hgWa hg4
                          clear hM4 hnd1 HL
                          go_roundw
                          case rel => exact ⟨2 + 1, by omega, by go_num, hg5, hg6, hM5.out, hnd5.out⟩
                          case measure => simp [intOf]
                    · have hj3 : j = 3 := by omega
                      subst hj3
                      have e3 : (sdsOf f).take 3 = sdsOf f := rfl
                      rw [e3, ← HS.out] at hM hnd
                      replace hM := hide hM
                      go_wp2
                      (go_roundw; (case rel => exact ⟨k + 1, by omega, by go_num, hg, hgW, hM.out.mono (by omega), hnd⟩); (case measure => simp [intOf]; omega))
                · have HE : Hid (0 = meshF ⟨vs, fs⟩) := (HO.out (by have := hnd.out; rwa [List.take_of_length_le (by omega)] at this)).symm
                  clear HT HO
                  replace hM := hide hM
                  go_wp2
                  go_ret
                  exact ⟨ret_int HE.out, hg⟩

end Go.Proofs.YtkcchcnljanloaaGreat

namespace Go.Proofs.YtkcchcnljanloaaGreat
open Go.RowKit Go.Bl

theorem inI_in (n : Nat) (x : Int) : inI n x = inB x 0 ((n : Int) - 1) := by
  unfold inI inB
  congr 1
  simp only [decide_eq_decide]; omega

theorem _root_.Go.Bl.Sl.sd_at {w : World} {lo g o : Nat} {l : List Sd} (h : Sl w lo (some ⟨g, o, none⟩) l) {k : Nat} (hk : k < l.length) : w.cell? ⟨g, o + k * 2, none⟩ = some (.int .i64 l[k].u) ∧ w.cell? ⟨g, o + k * 2 + 1, none⟩ = some (.int .i64 l[k].v) := by
  obtain ⟨g', o', c, e, _, _, rfl, hc⟩ := h.at_ (by decide) hk
  cases e
  exact ⟨hc 0 _ rfl, hc 1 _ rfl⟩

set_option maxHeartbeats 4000000 in
set_option maxRecDepth 100000 in
theorem meshFault_any (A : Option Addr) (c : Nat) (vs : List V3) (B : Option Addr) (d : Nat) (fs : List Fc) (w : World) (hl : Sl w 0 A vs) (hfs : Sl w 0 B fs) :
    Calls Tryz.prog 6 #[.agg #[.slice A vs.length c, .slice B fs.length d]] w fun e w' => e = .returned (.int .i64 (meshF ⟨vs, fs⟩)) ∧ w.grownBy w' none := by
  have hm := hl.1
  unfold maxLen at hm
  have hm2 := hfs.1
  unfold maxLen at hm2
  by_cases h0 : fs = []
  · have HE : Hid (meshF ⟨vs, fs⟩ = 8) := meshF_none h0
    have hz : fs.length = 0 := by simp [h0]
    have hzb : ((fs.length : Int) == 0) = true := by simp [hz]
    clear h0
    go_enter Tryz.func6, Tryz.ntmps6
    go_wp2
    go_ret
    exact ⟨ret_int HE.out.symm, (by repeat (first | exact World.grownBy.refl _ _ | assumption | refine gr_alloc ?_ _ | (apply gr_tail; assumption) | refine gr_drewN ?_ _ | refine gr_drew ?_))⟩
  · by_cases h1 : 1000 < vs.length ∨ 1000 < fs.length
    · have HE : Hid (meshF ⟨vs, fs⟩ = 2) := meshF_large h0 h1
      have hz : fs.length ≠ 0 := by simpa using h0
      clear h0
      by_cases h2 : 1000 < vs.length
      · clear h1
        go_enter Tryz.func6, Tryz.ntmps6
        go_wp2
        go_ret
        exact ⟨ret_int HE.out.symm, (by repeat (first | exact World.grownBy.refl _ _ | assumption | refine gr_alloc ?_ _ | (apply gr_tail; assumption) | refine gr_drewN ?_ _ | refine gr_drew ?_))⟩
      · have h3 : 1000 < fs.length := by omega
        clear h1
        go_enter Tryz.func6, Tryz.ntmps6
        go_wp2
        go_ret
        exact ⟨ret_int HE.out.symm, (by repeat (first | exact World.grownBy.refl _ _ | assumption | refine gr_alloc ?_ _ | (apply gr_tail; assumption) | refine gr_drewN ?_ _ | refine gr_drew ?_))⟩
    · have HF : Hid (vs.any farV = true → meshF ⟨vs, fs⟩ = 1) := meshF_far h0 h1
      have HG : Hid (vs.any farV = false → facesF vs fs ≠ 0 → meshF ⟨vs, fs⟩ = facesF vs fs) := meshF_face h0 h1
      have HT : Hid (vs.any farV = false → facesF vs fs = 0 → ¬ (allS fs).Nodup → meshF ⟨vs, fs⟩ = 6) := meshF_twice h0 h1
      have HO : Hid (vs.any farV = false → facesF vs fs = 0 → (allS fs).Nodup → meshF ⟨vs, fs⟩ = 0) := meshF_ok h0 h1
      have hz : fs.length ≠ 0 := by simpa using h0
      have hv1 : vs.length ≤ 1000 := by omega
      have hf1 : fs.length ≤ 1000 := by omega
      clear h0 h1
      have hg0 := gr_alloc (World.grownBy.refl w none) (.cells #[.slice A vs.length c, .slice B fs.length d] 29)
      have b0 := (Cell.new w [.slice A vs.length c, .slice B fs.length d] 29 0 _ rfl _ rfl).1
      have b1 := (Cell.new w [.slice A vs.length c, .slice B fs.length d] 29 1 _ rfl _ rfl).1
      replace b0 := hide b0
      replace b1 := hide b1
      by_cases hfar : vs.any farV = true
      · have HE := hide (HF.out hfar)
        have hv : vecsF vs = 1 := vecsF_yes hfar
        clear hfar HF HG HT HO
        go_enter Tryz.func6, Tryz.ntmps6
        go_wp2_with fail
        refine (vecFault_any A c vs _ (hl.pure hg0)).mono ?_
        rintro e w1 ⟨rfl, hg1⟩
        rw [hv]
        go_wp2_with fail
        go_ret
        exact ⟨ret_int HE.out.symm, gr_trans hg0 hg1⟩
      · have hfar : vs.any farV = false := by simpa using hfar
        have hv : vecsF vs = 0 := vecsF_no hfar
        replace HG := hide (HG.out hfar)
        replace HT := hide (HT.out hfar)
        replace HO := hide (HO.out hfar)
        replace hfar := hide hfar
        clear HF
        obtain ⟨X, hX⟩ : ∃ X : Int, X = facesF vs fs := ⟨_, rfl⟩
        rw [← hX] at HG HT HO
        replace hX := hide hX
        go_enter Tryz.func6, Tryz.ntmps6
        go_wp2_with fail
        refine (vecFault_any A c vs _ (hl.pure hg0)).mono ?_
        rintro e W2 ⟨rfl, hg1⟩
        rw [hv]
        clear hv
        replace b0 := hg1.k b0.out
        replace b1 := hg1.k b1.out
        have hgA := gr_trans hg0 hg1
        have hgW2 := World.grownBy.refl W2 none
        clear hg0 hg1
        go_wp2_with fail
        replace b0 := hide b0
        go_loopw [38] (fun i wr => ∃ k : Nat, k ≤ fs.length ∧ i = .int .i64 k ∧ w.grownBy wr none ∧ W2.grownBy wr none ∧ Hid (facesF vs (fs.drop k) = X)) (fun i _ => fs.length - (intOf i).toNat)
        case atStart => exact ⟨0, Nat.zero_le _, rfl, hgA, hgW2, by rw [Hid, hX.out]; rfl⟩
        case round =>
          obtain ⟨k, hk, rfl, hg, hgW, hdr⟩ := hrel
          have d0 := hgW.k b0.out
          have d1 := hgW.k b1
          have hlt0 : w.heap.size < wr.heap.size := cell_lt d0
          by_cases hlt : k < fs.length
          · obtain ⟨g, o, cx, rfl, hb0, hb1, rfl, hc⟩ := (hfs.pure hg).at_ (by decide) hlt
            have v0 : wr.cell? ⟨g, o + k * 3, none⟩ = some (.int .i64 fs[k].a) := hc 0 _ rfl
            have v1 : wr.cell? ⟨g, o + k * 3 + 1, none⟩ = some (.int .i64 fs[k].b) := hc 1 _ rfl
            have v2 : wr.cell? ⟨g, o + k * 3 + 2, none⟩ = some (.int .i64 fs[k].c) := hc 2 _ rfl
            clear hc
            have HS := facesF_drop (vs := vs) hlt
            generalize hff : fs[k] = f at *
            rw [hdr.out] at HS
            replace hff := hide hff
            have HZ : Hid (faceF vs f = 0 → facesF vs (fs.drop (k + 1)) = X) := fun h => by rw [if_pos h] at HS; exact HS.symm
            have HX : Hid (faceF vs f ≠ 0 → faceF vs f = meshF ⟨vs, fs⟩) := fun hy => by
              rw [if_neg hy] at HS
              rw [HG.out (by rw [HS]; exact hy), HS]
            clear HS HT HO HG
            have hx : Hid (abc f = [f.a, f.b, f.c]) := rfl
            have hF := hide (inF_abc vs.length f)
            go_wp2_with fail
            have hq : Sl ((wr.alloc (.cells #[.int .i64 f.a, .int .i64 f.b, .int .i64 f.c] 58)).alloc (.cells #[.int .i64 f.a, .int .i64 f.b, .int .i64 f.c] 3)) 0 (some ⟨wr.heap.size + 1, 0, none⟩) (abc f) := by
              rw [hx.out]; exact sl_intsAt _ _ _ _ _ (by simp) (Nat.zero_le _) (by simp [maxLen])
            have hgx := gr_alloc (gr_alloc (World.grownBy.refl wr none) (.cells #[.int .i64 f.a, .int .i64 f.b, .int .i64 f.c] 58)) (.cells #[.int .i64 f.a, .int .i64 f.b, .int .i64 f.c] 3)
            have c0 : ((wr.alloc (.cells #[.int .i64 f.a, .int .i64 f.b, .int .i64 f.c] 58)).alloc (.cells #[.int .i64 f.a, .int .i64 f.b, .int .i64 f.c] 3)).cell? ⟨wr.heap.size, 0, none⟩ = some (.int .i64 f.a) := by go_simp
            have c1 : ((wr.alloc (.cells #[.int .i64 f.a, .int .i64 f.b, .int .i64 f.c] 58)).alloc (.cells #[.int .i64 f.a, .int .i64 f.b, .int .i64 f.c] 3)).cell? ⟨wr.heap.size, 1, none⟩ = some (.int .i64 f.b) := by go_simp
            have c2 : ((wr.alloc (.cells #[.int .i64 f.a, .int .i64 f.b, .int .i64 f.c] 58)).alloc (.cells #[.int .i64 f.a, .int .i64 f.b, .int .i64 f.c] 3)).cell? ⟨wr.heap.size, 2, none⟩ = some (.int .i64 f.c) := by go_simp
            replace d0 := hgx.k d0
            replace d1 := hgx.k d1
            have hgB := gr_trans hg hgx
            have hgW2' := gr_trans hgW hgx
            have hl3 : (abc f).length = 3 := rfl
            clear hx v0 v1 v2 hg hgW
            generalize hqq : abc f = q at *
            clear hqq
            generalize (wr.alloc (.cells #[.int .i64 f.a, .int .i64 f.b, .int .i64 f.c] 58)).alloc (.cells #[.int .i64 f.a, .int .i64 f.b, .int .i64 f.c] 3) = W4 at *
            generalize wr.heap.size = sz at *
            have hWW := World.grownBy.refl W4 none
            go_loopw [50] (fun i wr => ∃ j : Nat, j ≤ 3 ∧ i = .int .i64 j ∧ w.grownBy wr none ∧ W2.grownBy wr none ∧ W4.grownBy wr none ∧ Hid ((q.take j).all (inI vs.length) = true)) (fun i _ => 3 - (intOf i).toNat)
            case atStart => exact ⟨0, by omega, rfl, hgB, hgW2', hWW, by simp [Hid]⟩
            case round =>
              obtain ⟨j, hj, rfl, hgr, hgr2, hgr4, hall⟩ := hrel
              replace d0 := hgr4.k d0
              replace d1 := hgr4.k d1
              replace c0 := hgr4.k c0
              replace c1 := hgr4.k c1
              replace c2 := hgr4.k c2
              by_cases hjt : j < 3
              · have e0 := (hq.pure hgr4).int_at (show j < q.length by omega)
                rw [Nat.zero_add] at e0
                have HS := hide (allI_snoc (n := vs.length) (show j < q.length by omega))
                have HA : Hid (inI vs.length (q[j]'(by omega)) = false → q.all (inI vs.length) = false) := allI_not (show j < q.length by omega)
                have HI : Hid (inI vs.length (q[j]'(by omega)) = inB (q[j]'(by omega)) 0 ((vs.length : Int) - 1)) := inI_in _ _
                have hFo : Hid (inF vs.length f = false → faceF vs f = 8) := faceF_out
                have HX8 : Hid (faceF vs f = 8 → 8 = meshF ⟨vs, fs⟩) := fun e => by rw [← e]; exact HX.out (by rw [e]; decide)
                go_wp2_with (go_at_call 34; refine (in_any _ _ _ _).mono ?_; rintro e w' ⟨rfl, rfl⟩)
                all_goals first
                  | (go_ret; exact ⟨ret_int (HX8.out (hFo.out (by rw [hF.out]; exact HA.out (by rw [HI.out]; rename_i h; simpa using h)))), (by repeat (first | exact World.grownBy.refl _ _ | assumption | refine gr_alloc ?_ _ | (apply gr_tail; assumption) | refine gr_drewN ?_ _ | refine gr_drew ?_))⟩)
                  | (go_roundw; (case rel => exact ⟨j + 1, by omega, by go_num, (by repeat (first | exact World.grownBy.refl _ _ | assumption | refine gr_alloc ?_ _ | (apply gr_tail; assumption) | refine gr_drewN ?_ _ | refine gr_drew ?_)), (by repeat (first | exact World.grownBy.refl _ _ | assumption | refine gr_alloc ?_ _ | (apply gr_tail; assumption) | refine gr_drewN ?_ _ | refine gr_drew ?_)), (by repeat (first | exact World.grownBy.refl _ _ | assumption | refine gr_alloc ?_ _ | (apply gr_tail; assumption) | refine gr_drewN ?_ _ | refine gr_drew ?_)), by simp only [Hid]; rw [HS.out, hall.out, HI.out]; rename_i h; simpa using h⟩); (case measure => simp [intOf]; omega))
              · have hin : inF vs.length f = true := by rw [hF.out]; have := hall.out; rwa [List.take_of_length_le (by omega)] at this
                have hin2 := hide hin
                have HE3 : Hid ((normV vs f).x = 0 ∧ (normV vs f).y = 0 ∧ (normV vs f).z = 0 → 3 = meshF ⟨vs, fs⟩) := fun h => by
                  have e := faceF_flat hin ((v3_zero _).2 h)
                  rw [← e]; exact HX.out (by rw [e]; decide)
                have HE0 : Hid (¬ ((normV vs f).x = 0 ∧ (normV vs f).y = 0 ∧ (normV vs f).z = 0) → facesF vs (fs.drop (k + 1)) = X) := fun h => HZ.out (faceF_ok hin (fun e => h ((v3_zero _).1 e)))
                clear hin HX HZ
                have hj3 : j = 3 := by omega
                subst hj3
                go_wp2_with (go_at_call 18; refine (normalRef_any A c vs (some ⟨g, o, none⟩) fs.length d f _ (hl.pure (by repeat (first | exact World.grownBy.refl _ _ | assumption | refine gr_alloc ?_ _ | (apply gr_tail; assumption) | refine gr_drewN ?_ _ | refine gr_drew ?_))) hfar.out hin2.out).mono ?_; rintro e w' ⟨rfl, hg'⟩; generalize normV vs f = N at *)
                all_goals first
                  | (go_ret; exact ⟨ret_int (HE3.out (by omega)), (by repeat (first | exact World.grownBy.refl _ _ | assumption | refine gr_alloc ?_ _ | (apply gr_tail; assumption) | refine gr_drewN ?_ _ | refine gr_drew ?_))⟩)
                  | (go_roundw; (case rel => exact ⟨k + 1, by omega, by go_num, (by repeat (first | exact World.grownBy.refl _ _ | assumption | refine gr_alloc ?_ _ | (apply gr_tail; assumption) | refine gr_drewN ?_ _ | refine gr_drew ?_)), (by repeat (first | exact World.grownBy.refl _ _ | assumption | refine gr_alloc ?_ _ | (apply gr_tail; assumption) | refine gr_drewN ?_ _ | refine gr_drew ?_)), HE0.out (by omega)⟩); (case measure => simp [intOf]; omega))
                  | trace_state
          · have HX : X = 0 := by rw [← hdr.out, List.drop_of_length_le (by omega)]; rfl
            replace HT := hide (HT.out HX)
            replace HO := hide (HO.out HX)
            clear HG hdr
            go_wp2_with fail
            have hgR := hg
            clear d0 d1 hg hgW hgA hgW2 b0 b1
            go_loopw [8, 71] (fun o i wr => ∃ (k : Nat) (out : List Sd) (A' : Option Addr) (c' : Nat), k ≤ fs.length ∧ i = .int .i64 k ∧ o = .slice A' out.length c' ∧ Hid (out = allS (fs.take k)) ∧ Own wr w.heap.size 63 A' c' out ∧ w.grownBy wr none ∧ Hid out.Nodup) (fun _ i _ => fs.length - (intOf i).toNat)
            case atStart => exact ⟨0, [], none, 0, Nat.zero_le _, rfl, rfl, by simp [Hid, allS], Own.nil _ _ _, hgR, by simp [Hid]⟩
            case round =>
              obtain ⟨k, out, A', c', hk, rfl, rfl, hout, hown, hg, hnd⟩ := hrel
              by_cases hlt : k < fs.length
              · have HD := hide (fun j hj h => (HT.out (not_nodup (j := j) hlt hj h)).symm)
                have HS := hide (allS_snoc hlt)
                have hol : out.length ≤ 3000 := by rw [hout.out, allS_len]; simp; omega
                obtain ⟨g, o, cx, rfl, hb0, hb1, rfl, hc⟩ := (hfs.pure hg).at_ (by decide) hlt
                have v0 : wr.cell? ⟨g, o + k * 3, none⟩ = some (.int .i64 fs[k].a) := hc 0 _ rfl
                have v1 : wr.cell? ⟨g, o + k * 3 + 1, none⟩ = some (.int .i64 fs[k].b) := hc 1 _ rfl
                have v2 : wr.cell? ⟨g, o + k * 3 + 2, none⟩ = some (.int .i64 fs[k].c) := hc 2 _ rfl
                clear hc
                generalize fs[k] = f at *
                clear HT HO
                rw [← hout.out] at HD HS
                go_wp2_with fail
                refine (sidesOf_any f _).mono ?_
                rintro e w2 ⟨As, rfl, hsd, hg2⟩
                obtain ⟨gs, os, _, rfl, hgs1, hgs2, _, _⟩ := hsd.at_ (by decide) (show 0 < (sdsOf f).length by simp [sdsOf])
                simp at hgs1
                have hgA := gr_trans (gr_alloc hg (.cells #[.int .i64 f.a, .int .i64 f.b, .int .i64 f.c] 58)) hg2
                have hownA := (hown.pure (gr_alloc (World.grownBy.refl _ _) (.cells #[.int .i64 f.a, .int .i64 f.b, .int .i64 f.c] 58))).pure hg2
                have hA' : ∀ g, blk A' = some g → g ≠ gs := fun g hb => by have := (hown.blk_lt hb).2; omega
                have hsd0 := hsd.mono (Nat.zero_le _)
                have hownA := hide hownA
                have hA' := hide hA'
                clear hown hsd hg hg2 v0 v1 v2
                go_wp2_with fail
                go_loopw [8, 78] (fun o i wr => ∃ (j : Nat) (out2 : List Sd) (A2 : Option Addr) (c2 : Nat), j ≤ 3 ∧ i = .int .i64 j ∧ o = .slice A2 out2.length c2 ∧ Hid (out2 = out ++ (sdsOf f).take j) ∧ Own wr w.heap.size 63 A2 c2 out2 ∧ w.grownBy wr none ∧ Sl wr 0 (some ⟨gs, os, none⟩) (sdsOf f) ∧ (gs < wr.heap.size ∧ ∀ g, blk A2 = some g → g ≠ gs) ∧ Hid out2.Nodup) (fun _ i _ => 3 - (intOf i).toNat)
                case atStart => exact ⟨0, out, A', c', by omega, rfl, rfl, by simp [Hid], hownA.out, hgA, hsd0, ⟨hgs2, hA'.out⟩, hnd⟩
                case round =>
                  obtain ⟨j, out2, A2, c2, hj, rfl, rfl, hout2, hown2, hg, hsd, ⟨hgs3, hA2⟩, hnd2⟩ := hrel
                  by_cases hjt : j < 3
                  · have hjl : j < (sdsOf f).length := by simp [sdsOf]; omega
                    have hlen2 : out2.length ≤ 3003 := by rw [hout2.out]; simp; omega
                    obtain ⟨e0, e1⟩ := hsd.sd_at hjl
                    have HDj := hide (HD.out j hjl)
                    have HT2 : Hid (out ++ (sdsOf f).take (j + 1) = out2 ++ [(sdsOf f)[j]]) := by rw [Hid, hout2.out, take_snoc hjl, List.append_assoc]
                    rw [← hout2.out] at HDj
                    generalize (sdsOf f)[j] = s at *
                    have hz1 := hg.size
                    have hownB := hown2.pure (gr_alloc (World.grownBy.refl wr none) (.cells #[.int .i64 s.u, .int .i64 s.v] 63))
                    have hsdB := hsd.pure (gr_alloc (World.grownBy.refl wr none) (.cells #[.int .i64 s.u, .int .i64 s.v] 63))
                    have b0 := Cell.new wr [.int .i64 s.u, .int .i64 s.v] 63 0 _ rfl _ rfl
                    have b1 := Cell.new wr [.int .i64 s.u, .int .i64 s.v] 63 1 _ rfl _ rfl
                    have hgB := gr_alloc hg (.cells #[.int .i64 s.u, .int .i64 s.v] 63)
                    clear HD HS hsd hown2 hg
                    replace hA2 := hide hA2
                    by_cases hin : s ∈ out2
                    · have hb : decide (s ∈ out2) = true := decide_eq_true hin
                      have HE := hide (HDj.out hin)
                      clear hin HDj
                      go_wp2_with fail
                      refine (containsSide_any A2 _ c2 out2 s _ (hownB.sl.mono (Nat.zero_le _)) rfl).mono ?_
                      rintro e w5 ⟨rfl, hg5⟩
                      rw [hb]
                      clear hb
                      go_wp2_with fail
                      go_ret
                      exact ⟨ret_int HE.out, gr_trans hgB hg5⟩
                    · have hb : decide (s ∈ out2) = false := decide_eq_false hin
                      have hnd5 := hide (nodup_snoc hnd2.out hin)
                      clear hin HDj hnd2
                      go_wp2_with fail
                      refine (containsSide_any A2 _ c2 out2 s _ (hownB.sl.mono (Nat.zero_le _)) rfl).mono ?_
                      rintro e w5 ⟨rfl, hg5⟩
                      rw [hb]
                      clear hb
                      have b0 := (b0.gr hg5 (by simp)).1
                      have b1 := (b1.gr hg5 (by simp)).1
                      have hownC := hownB.pure hg5
                      have hsdC := hsdB.pure hg5
                      have hgC := gr_trans hgB hg5
                      have hz5 := hg5.size
                      simp at hz5
                      clear hownB hsdB hgB hg5
                      obtain ⟨i0, hi, hz, h1, h2⟩ := info_parts info_side
                      go_wp2_with (at_builtin; refine wpList_pushAt (α := Sd) _ rfl (.tmp 85) (.tmp 87) _ rfl w.heap.size 63 i0 _ 16 Tryz.underlying34 hi hz h1 h2 rfl A2 _ c2 out2 rfl rfl (by exact hownC.pure (by repeat (first | exact World.grownBy.refl _ _ | assumption | refine gr_alloc ?_ _ | refine gr_drewN ?_ _ | refine gr_drew ?_))) 0 ⟨_, 0, none⟩ 1 1 [s] rfl rfl (by exact sl_oneAt _ 0 [.int .i64 s.u, .int .i64 s.v] _ _ _ (by first | rfl | simp) (Nat.zero_le _) rfl) ?c2 ?c3 ?c4 ?_)
                      case c2 => simp; omega
                      case c3 => simp [maxLen]; omega
                      case c4 => simp; omega
                      intro A9 c9 w9 hO9 hG9
                      have hgD := gr_row (gr_alloc hgC (.cells #[.int .i64 s.u, .int .i64 s.v] 63)) hG9.1 (fun g e => (hownC.blk_lt e).1)
                      have hsdD := (hsdC.pure (gr_alloc (World.grownBy.refl w5 none) (.cells #[.int .i64 s.u, .int .i64 s.v] 63))).ne hG9.1 (fun g hb e => hA2.out g e (by simpa [blk] using hb.symm))
                      have hgs4 : gs < w9.heap.size := by have := hG9.1.size; simp at this; omega
                      have hA9 : ∀ g, blk A9 = some g → g ≠ gs := fun g e => by
                        rcases hG9.2 with h | h
                        · exact hA2.out g (by rw [← h]; exact e)
                        · rw [h] at e; simp at e; omega
                      replace hA9 := hide hA9
                      have hout9 : Hid (out2 ++ [s] = out ++ (sdsOf f).take (j + 1)) := HT2.out.symm
                      clear hG9 hA2 HT2 hownC hsdC
                      go_wp2
                      (go_roundw; (case rel => exact ⟨j + 1, out2 ++ [s], A9, c9, by omega, by go_num, by simp, hout9, hO9, hgD, hsdD, ⟨hgs4, hA9.out⟩, hnd5⟩); (case measure => simp [intOf]; omega))
                  · have hj3 : j = 3 := by omega
                    subst hj3
                    have e3 : (sdsOf f).take 3 = sdsOf f := rfl
                    have hout3 : Hid (out2 = allS (fs.take (k + 1))) := by rw [Hid, HS.out, hout2.out, e3]
                    replace hown2 := hide hown2
                    clear hA2 hsd
                    go_wp2
                    (go_roundw; (case rel => exact ⟨k + 1, out2, A2, c2, by omega, by go_num, rfl, hout3, hown2.out, hg, hnd2⟩); (case measure => simp [intOf]; omega))
              · have HE : Hid (0 = meshF ⟨vs, fs⟩) := (HO.out (by have := hnd.out; rw [hout.out] at this; rwa [List.take_of_length_le (by omega)] at this)).symm
                clear HT HO
                go_wp2
                go_ret
                exact ⟨ret_int HE.out, hg⟩

end Go.Proofs.YtkcchcnljanloaaGreat

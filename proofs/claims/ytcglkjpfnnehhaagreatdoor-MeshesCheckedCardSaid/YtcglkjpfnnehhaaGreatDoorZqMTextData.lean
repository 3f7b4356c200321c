/- Contracts of functions that this seat's laws reach, each: what one call returns and what it leaves in memory; no condition beyond each theorem's own hypotheses. -/
import Derived.Test.YtcglkjpfnnehhaaGreatDoorZqTextData
import Derived.Test.YtcglkjpfnnehhaaGreatDoorZqMeshData
import Derived.Lib.ItoaLen
set_option linter.unusedVariables false
set_option linter.unusedSimpArgs false
namespace Go.Proofs.YtcglkjpfnnehhaaGreatDoor
open Go Go.RowKit Go.Bl

def vLine (v : V3) : List UInt8 := joined [[118], Lib.itoa v.x, Lib.itoa v.y, Lib.itoa v.z]

def fLine (f : Fc) : List UInt8 := joined [[102], Lib.itoa f.a, Lib.itoa f.b, Lib.itoa f.c]

def meshText (m : MeshV) : List UInt8 := ended (m.vs.map vLine ++ m.fs.map fLine)
/-- a mesh with one more row, out of words -/
def wordsM (st : MeshV) : List (List UInt8) → Option MeshV
  | [t, a, b, c] => match numsK [a, b, c] with
    | some [x, y, z] => if t = [118] ∧ st.fs = [] then some ⟨st.vs ++ [⟨x, y, z⟩], st.fs⟩ else if t = [102] then some ⟨st.vs, st.fs ++ [⟨x, y, z⟩]⟩ else none
    | _ => none
  | _ => none

def stepM (st : MeshV) (x : List UInt8) : Option MeshV := wordsM st (pieces 32 x)

def noM : MeshV := ⟨[], []⟩

def finM (st : MeshV) : MeshV × Int × Int := if meshF st = 0 then (st, 0, 0) else (noM, 0, meshF st)

def endM (r : MeshV × Option Nat) : MeshV × Int × Int := match r with
  | (_, some i) => (noM, (i : Int), 9)
  | (st, none) => finM st

def readM (s : List UInt8) : MeshV × Int × Int := if 200000 < s.length then ((noM, 0, 2) : MeshV × Int × Int) else endM (readL stepM noM 0 (linesK s).1 (linesK s).2)

theorem numsK_three {a b c : List UInt8} {x y z : Int} : numsK [a, b, c] = some [x, y, z] ↔ numK a = some x ∧ numK b = some y ∧ numK c = some z := by
  simp only [numsK]
  cases numK a <;> cases numK b <;> cases numK c <;> simp

theorem numsK_3 (a b c : List UInt8) : numsK [a, b, c] = none ∨ ∃ x y z, numsK [a, b, c] = some [x, y, z] := by
  simp only [numsK]
  cases numK a <;> cases numK b <;> cases numK c <;> simp
/-- all numbers of a mesh are short -/
structure MOk (m : MeshV) : Prop where
  v : ∀ v ∈ m.vs, Bd 200000 v
  f : ∀ f ∈ m.fs, Bd 200000 ⟨f.a, f.b, f.c⟩
  nv : m.vs.length ≤ 1000
  nf : m.fs.length ≤ 1000

theorem facesF_in {vs : List V3} : ∀ {fs : List Fc}, facesF vs fs = 0 → ∀ f ∈ fs, inF vs.length f = true
  | [], _, f, hf => by simp at hf
  | g :: r, h, f, hf => by
    unfold facesF at h
    by_cases h0 : faceF vs g = 0
    · rw [if_pos h0] at h
      rcases List.mem_cons.1 hf with rfl | hf
      · unfold faceF at h0
        by_cases hi : inF vs.length f = true
        · exact hi
        · rw [if_neg hi] at h0; cases h0
      · exact facesF_in h f hf
    · rw [if_neg h0] at h; exact absurd h h0

theorem meshF_ok0 {m : MeshV} (h : meshF m = 0) : MOk m := by
  unfold meshF at h
  by_cases h0 : m.fs = []
  · rw [if_pos h0] at h; cases h
  · rw [if_neg h0] at h
    by_cases h1 : 1000 < m.vs.length ∨ 1000 < m.fs.length
    · rw [if_pos h1] at h; cases h
    · rw [if_neg h1] at h
      by_cases h2 : m.vs.any farV = true
      · rw [if_pos h2] at h; cases h
      · rw [if_neg h2] at h
        by_cases h3 : facesF m.vs m.fs = 0
        · refine ⟨fun v hv => ?_, fun f hf => ?_, by omega, by omega⟩
          · have := List.any_eq_false.1 (by simpa using h2) v hv
            have := farV_no (by simpa using this)
            unfold Bd at this ⊢
            omega
          · have := facesF_in h3 f hf
            unfold inF inI at this
            simp only [Bool.and_eq_true, decide_eq_true_eq] at this
            unfold Bd
            simp only
            omega
        · rw [if_neg h3] at h; exact absurd h h3

theorem row_no (t : List UInt8) (a b c : Int) (u : UInt8) (ht : u ∉ t) (hu : u = 10) : u ∉ joined [t, Lib.itoa a, Lib.itoa b, Lib.itoa c] := by
  subst hu
  simp only [joined, List.mem_append, List.mem_cons, not_or]
  exact ⟨ht, by decide, itoa_no _ (.inl rfl), by decide, itoa_no _ (.inl rfl), by decide, itoa_no _ (.inl rfl)⟩

theorem vLine_no (v : V3) : (10 : UInt8) ∉ vLine v := row_no _ _ _ _ _ (by decide) rfl

theorem fLine_no (f : Fc) : (10 : UInt8) ∉ fLine f := row_no _ _ _ _ _ (by decide) rfl

theorem row_pieces (t : UInt8) (a b c : Int) (ht : t ≠ 32) : pieces 32 (joined [[t], Lib.itoa a, Lib.itoa b, Lib.itoa c]) = [[t], Lib.itoa a, Lib.itoa b, Lib.itoa c] :=
  pieces_joined (by simp) (fun x hx => by
    simp only [List.mem_cons, List.not_mem_nil, or_false] at hx
    rcases hx with rfl | rfl | rfl | rfl
    · simp only [List.mem_singleton]; exact fun e => ht e.symm
    · exact itoa_no _ (.inr rfl)
    · exact itoa_no _ (.inr rfl)
    · exact itoa_no _ (.inr rfl))

theorem nums_row {a b c : Int} (h : Bd 200000 ⟨a, b, c⟩) : numsK [Lib.itoa a, Lib.itoa b, Lib.itoa c] = some [a, b, c] := by
  unfold Bd at h
  simp only at h
  exact numsK_three.2 ⟨num_itoa (by omega), num_itoa (by omega), num_itoa (by omega)⟩

theorem stepM_v (vs : List V3) {v : V3} (h : Bd 200000 v) : stepM ⟨vs, []⟩ (vLine v) = some ⟨vs ++ [v], []⟩ := by
  unfold stepM vLine
  rw [row_pieces 118 _ _ _ (by decide)]
  have e := nums_row (a := v.x) (b := v.y) (c := v.z) h
  unfold wordsM
  simp only [e]
  simp

theorem stepM_f (vs : List V3) (fs : List Fc) {f : Fc} (h : Bd 200000 ⟨f.a, f.b, f.c⟩) : stepM ⟨vs, fs⟩ (fLine f) = some ⟨vs, fs ++ [f]⟩ := by
  unfold stepM fLine
  rw [row_pieces 102 _ _ _ (by decide)]
  have e := nums_row h
  unfold wordsM
  simp only [e]
  simp

theorem readL_fs {fs : List Fc} (h : ∀ f ∈ fs, Bd 200000 ⟨f.a, f.b, f.c⟩) (vs : List V3) (gs : List Fc) (i : Nat) : readL stepM ⟨vs, gs⟩ i (fs.map fLine) true = (⟨vs, gs ++ fs⟩, none) := by
  induction fs generalizing gs i with
  | nil => simp [readL_nil]
  | cons d l ih =>
    rw [List.map_cons, readL_good i _ _ (stepM_f vs gs (h d (by simp))) (.inr rfl), ih (fun x hx => h x (List.mem_cons_of_mem _ hx))]
    simp

theorem readL_vs {vs : List V3} (h : ∀ v ∈ vs, Bd 200000 v) {fs : List Fc} (hf : ∀ f ∈ fs, Bd 200000 ⟨f.a, f.b, f.c⟩) (us : List V3) (i : Nat) : readL stepM ⟨us, []⟩ i (vs.map vLine ++ fs.map fLine) true = (⟨us ++ vs, fs⟩, none) := by
  induction vs generalizing us i with
  | nil => simp [readL_fs hf]
  | cons d l ih =>
    rw [List.map_cons, List.cons_append, readL_good i _ _ (stepM_v us (h d (by simp))) (.inr rfl), ih (fun x hx => h x (List.mem_cons_of_mem _ hx))]
    simp

theorem readM_text {m : MeshV} (hp : meshF m = 0) (hl : (meshText m).length ≤ 200000) : readM (meshText m) = (m, 0, 0) := by
  unfold readM
  rw [if_neg (by omega)]
  have h1 := meshF_ok0 hp
  unfold meshText
  rw [linesK_ended (fun x hx => by
    rcases List.mem_append.1 hx with hx | hx
    · obtain ⟨d, hd, rfl⟩ := List.mem_map.1 hx; exact vLine_no d
    · obtain ⟨d, hd, rfl⟩ := List.mem_map.1 hx; exact fLine_no d)]
  simp only [noM]
  rw [readL_vs h1.v h1.f [] 0]
  simp [endM, finM, hp]

theorem row_back {t a b c x : List UInt8} {n m k : Int} (hp : pieces 32 x = [t, a, b, c]) (hn : numsK [a, b, c] = some [n, m, k]) : joined [t, Lib.itoa n, Lib.itoa m, Lib.itoa k] = x := by
  have e2 := joined_pieces _ x (Nat.le_refl _)
  rw [hp] at e2
  obtain ⟨h1, h2, h3⟩ := numsK_three.1 hn
  rw [← (numK_iff.1 h1).1, ← (numK_iff.1 h2).1, ← (numK_iff.1 h3).1] at e2
  exact e2

theorem stepM_back {st st' : MeshV} {x : List UInt8} (h : stepM st x = some st') : st'.vs.map vLine ++ st'.fs.map fLine = (st.vs.map vLine ++ st.fs.map fLine) ++ [x] := by
  unfold stepM wordsM at h
  split at h
  · rename_i t a b c hp
    split at h
    · rename_i n m k hn
      have hb := row_back hp hn
      split at h
      · rename_i ht
        injection h with h
        subst h
        rw [ht.1] at hb
        simp only [ht.2, List.map_nil, List.append_nil, List.map_append, List.map_cons]
        rw [show vLine ⟨n, m, k⟩ = x from hb]
      · split at h
        · rename_i ht
          injection h with h
          subst h
          rw [ht] at hb
          simp only [List.map_append, List.map_cons, List.map_nil, List.append_assoc]
          rw [show fLine ⟨n, m, k⟩ = x from hb]
        · cases h
    · cases h
  · cases h

theorem readL_mesh {st st' : MeshV} {i : Nat} {l : List (List UInt8)} {e : Bool} (h : readL stepM st i l e = (st', none)) : st'.vs.map vLine ++ st'.fs.map fLine = (st.vs.map vLine ++ st.fs.map fLine) ++ l := by
  induction l generalizing st i with
  | nil => simp only [readL_nil, Prod.mk.injEq, and_true] at h; subst h; simp
  | cons x r ih =>
    unfold readL at h
    split at h
    · cases h
    · split at h
      · cases h
      · rename_i st2 hs
        rw [ih h, stepM_back hs]; simp

theorem readM_back {s : List UInt8} (h : (readM s).2.2 = 0) : meshF (readM s).1 = 0 ∧ meshText (readM s).1 = s ∧ s.length ≤ 200000 := by
  unfold readM at h ⊢
  split
  · rename_i hl
    rw [if_pos hl] at h
    cases h
  · rename_i hl
    rw [if_neg hl] at h
    rcases hr : readL stepM noM 0 (linesK s).1 (linesK s).2 with ⟨st, _ | i⟩
    · rw [hr] at h
      simp only [endM, finM] at h ⊢
      by_cases hf : meshF st = 0
      · rw [if_pos hf]
        refine ⟨hf, ?_, by omega⟩
        have h1 := readL_mesh hr
        simp only [noM, List.map_nil, List.nil_append] at h1
        unfold meshText
        simp only
        rw [h1]
        rcases readL_all hr with he | he
        · rw [he]
          by_cases hs : s = []
          · subst hs; rfl
          · exfalso
            unfold linesK at he
            rw [if_neg hs] at he
            split at he <;> exact pieces_ne _ _ he
        · exact (linesK_back _ s (Nat.le_refl _) he).1
      · rw [if_neg hf] at h
        exact absurd h hf
    · rw [hr] at h
      cases h

theorem mrow_len (t : UInt8) {a b c : Int} (h : Bd 200000 ⟨a, b, c⟩) : (joined [[t], Lib.itoa a, Lib.itoa b, Lib.itoa c]).length ≤ 67 := by
  unfold Bd at h
  simp only at h
  have a1 : (Lib.itoa a).length ≤ 21 := Lib.itoa_length_le a (by omega) (by omega)
  have a2 : (Lib.itoa b).length ≤ 21 := Lib.itoa_length_le b (by omega) (by omega)
  have a3 : (Lib.itoa c).length ≤ 21 := Lib.itoa_length_le c (by omega) (by omega)
  simp only [joined, List.length_append, List.length_cons, List.length_nil]
  omega

theorem ended_len2 {l : List (List UInt8)} {n : Nat} (h : ∀ x ∈ l, x.length ≤ n) : (ended l).length ≤ (n + 1) * l.length := by
  induction l with
  | nil => simp [ended]
  | cons d l ih =>
    have e1 := ih (fun x hx => h x (List.mem_cons_of_mem _ hx))
    have e2 := h d (by simp)
    rw [ended_cons, List.length_append, List.length_cons, List.length_cons, Nat.mul_add]
    omega

theorem meshText_len {m : MeshV} (h : MOk m) : (meshText m).length ≤ 136000 := by
  have hv := h.nv
  have hf := h.nf
  have h1 : (meshText m).length ≤ (67 + 1) * (m.vs.map vLine ++ m.fs.map fLine).length := ended_len2 (fun x hx => by
    rcases List.mem_append.1 hx with hx | hx
    · obtain ⟨d, hd, rfl⟩ := List.mem_map.1 hx; exact mrow_len _ (h.v d hd)
    · obtain ⟨d, hd, rfl⟩ := List.mem_map.1 hx; exact mrow_len _ (h.f d hd))
  rw [List.length_append, List.length_map, List.length_map] at h1
  omega

end Go.Proofs.YtcglkjpfnnehhaaGreatDoor

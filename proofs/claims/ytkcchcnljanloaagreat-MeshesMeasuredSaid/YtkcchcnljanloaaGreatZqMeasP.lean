/- Contracts of functions that this seat's laws reach, each: what one call returns and what it leaves in memory; no condition beyond each theorem's own hypotheses. -/
import Derived.Test.YtkcchcnljanloaaGreatZqGpLib
import Derived.Test.YtkcchcnljanloaaGreatZqShellSub
import Derived.Test.YtkcchcnljanloaaGreatZqMeshCD
set_option linter.unusedVariables false
set_option linter.unusedSimpArgs false
namespace Go.Proofs.YtkcchcnljanloaaGreat
open Go Go.RowKit Go.Bl

theorem face_dist2 {vs : List V3} {f : Fc} (h : faceF vs f = 0) : f.a ≠ f.b ∧ f.b ≠ f.c ∧ f.a ≠ f.c := by
  have h2 := (faceF_iff.1 h).2
  refine ⟨fun e => h2 ?_, fun e => h2 ?_, fun e => h2 ?_⟩
  · unfold normV; rw [e]; unfold crossV lessV; simp
  · unfold normV; rw [e]; unfold crossV lessV; simp only [V3.mk.injEq]; grind
  · unfold normV; rw [e]; unfold crossV lessV; simp

def memF (i : Int) (f : Fc) : Bool := decide (i = f.a) || decide (i = f.b) || decide (i = f.c)

def b1 (b : Bool) : Int := if b then 1 else 0
/-- how many vertices of the first face the second has -/
def comN (f g : Fc) : Int := b1 (memF f.a g) + b1 (memF f.b g) + b1 (memF f.c g)

theorem b1_bd (b : Bool) : 0 ≤ b1 b ∧ b1 b ≤ 1 := by cases b <;> simp [b1]

theorem uSide_eq {u v x y : Int} : uSide u v = uSide x y ↔ (u = x ∧ v = y) ∨ (u = y ∧ v = x) := by
  unfold uSide
  simp only [Sd.mk.injEq]
  omega

theorem keys_mem {f : Fc} {u v : Int} (huv : u ≠ v) (hu : memF u f = true) (hv : memF v f = true) : uSide u v ∈ keysF f := by
  unfold memF at hu hv
  simp only [Bool.or_eq_true, decide_eq_true_eq] at hu hv
  simp only [keysF, List.mem_cons, List.not_mem_nil, or_false, uSide_eq]
  omega

theorem keys_of {f : Fc} {s : Sd} (h : s ∈ keysF f) : ∃ u v, s = uSide u v ∧ memF u f = true ∧ memF v f = true := by
  simp only [keysF, List.mem_cons, List.not_mem_nil, or_false] at h
  unfold memF
  simp only [Bool.or_eq_true, decide_eq_true_eq]
  rcases h with rfl | rfl | rfl
  · exact ⟨f.a, f.b, rfl, by simp, by simp⟩
  · exact ⟨f.b, f.c, rfl, by simp, by simp⟩
  · exact ⟨f.c, f.a, rfl, by simp, by simp⟩

theorem memF_side {f : Fc} {u v x y : Int} (h : uSide u v = uSide x y) (hx : memF x f = true) (hy : memF y f = true) : memF u f = true ∧ memF v f = true := by
  rcases uSide_eq.1 h with ⟨rfl, rfl⟩ | ⟨rfl, rfl⟩
  · exact ⟨hx, hy⟩
  · exact ⟨hy, hx⟩

theorem com_adj {f g : Fc} (hf : f.a ≠ f.b ∧ f.b ≠ f.c ∧ f.a ≠ f.c) : 2 ≤ comN f g ↔ ∃ s, s ∈ keysF f ∧ s ∈ keysF g := by
  unfold comN
  constructor
  · intro h
    cases ha : memF f.a g <;> cases hb : memF f.b g <;> cases hc : memF f.c g <;> simp [ha, hb, hc, b1] at h
    · exact ⟨uSide f.b f.c, by simp [keysF], keys_mem hf.2.1 hb hc⟩
    · exact ⟨uSide f.c f.a, by simp [keysF], keys_mem (fun e => hf.2.2 e.symm) hc ha⟩
    · exact ⟨uSide f.a f.b, by simp [keysF], keys_mem hf.1 ha hb⟩
    · exact ⟨uSide f.a f.b, by simp [keysF], keys_mem hf.1 ha hb⟩
  · rintro ⟨s, h1, h2⟩
    obtain ⟨x, y, rfl, hx, hy⟩ := keys_of h2
    simp only [keysF, List.mem_cons, List.not_mem_nil, or_false] at h1
    have k1 := b1_bd (memF f.a g)
    have k2 := b1_bd (memF f.b g)
    have k3 := b1_bd (memF f.c g)
    rcases h1 with h1 | h1 | h1
    · obtain ⟨e1, e2⟩ := memF_side h1.symm hx hy
      rw [e1, e2] at *
      have e : b1 true = 1 := rfl
      rw [e]; omega
    · obtain ⟨e1, e2⟩ := memF_side h1.symm hx hy
      rw [e1, e2] at *
      have e : b1 true = 1 := rfl
      rw [e]; omega
    · obtain ⟨e1, e2⟩ := memF_side h1.symm hx hy
      rw [e1, e2] at *
      have e : b1 true = 1 := rfl
      rw [e]; omega

/-- of the first j faces, those that hang together with x are in the group -/
def ClR (F : List Fc) (g : List Nat) (x j : Nat) : Prop := ∀ k, k < j → adjF F x k → k ∈ g

theorem ClR.zero (F : List Fc) (g : List Nat) (x : Nat) : ClR F g x 0 := fun k h => by omega

theorem ClR.snoc {F : List Fc} {g : List Nat} {x j k : Nat} (h : ClR F g x j) : ClR F (g ++ [k]) x j := fun k' h1 h2 => List.mem_append_left _ (h k' h1 h2)

theorem ClR.next {F : List Fc} {g : List Nat} {x j : Nat} (h : ClR F g x j) (hj : adjF F x j → j ∈ g) : ClR F g x (j + 1) := fun k h1 h2 => by
  by_cases e : k = j
  · subst e; exact hj h2
  · exact h k (by omega) h2

theorem ClG.nextR {F : List Fc} {g : List Nat} {a x : Nat} (h : ClG F g a) (ha : a < g.length) (hx : g[a] = x) (hs : ClR F g x F.length) : ClG F g (a + 1) := fun y hy k hk hadj => by
  rw [List.take_succ_eq_append_getElem ha, List.mem_append, List.mem_singleton] at hy
  rcases hy with hy | rfl
  · exact h y hy k hk hadj
  · rw [hx] at hadj; exact hs k hk hadj
/-- the faces that are done -/
def DoneI (F : List Fc) (i : Nat) (D : List Int) : Prop := ∀ k : Nat, (k : Int) ∈ D ↔ doneF F i k = true

theorem DoneI.zero (F : List Fc) : DoneI F 0 [] := fun k => by rw [done_zero]; simp

theorem DoneI.old {F : List Fc} {i : Nat} {D : List Int} (h : DoneI F i D) (hd : doneF F i i = true) : DoneI F (i + 1) D := fun k => by rw [done_succ_old hd]; exact h k

theorem gi_mem {g : List Nat} {k : Nat} : (k : Int) ∈ gi g ↔ k ∈ g := by
  unfold gi
  rw [List.mem_map]
  constructor
  · rintro ⟨x, hx, e⟩
    have : x = k := by omega
    exact this ▸ hx
  · exact fun h => ⟨k, h, rfl⟩

theorem DoneI.new {F : List Fc} {i : Nat} {D : List Int} {g : List Nat} (h : DoneI F i D) (hg : Grw F i g) (hc : ClG F g g.length) : DoneI F (i + 1) (D ++ gi g) := fun k => by
  rw [List.mem_append, h k, gi_mem, hg.all hc, done_succ_new]

/-- prisms of a shell of a closed mesh -/
theorem prism_shell {vs : List V3} {fs : List Fc} (hn : (allS fs).Nodup) (hc : ClosedS fs) {g : List Nat} (hg : g ∈ shellsF fs) : (g.map fun k => prismV vs (fcAt fs k)).sum = (g.map fun k => partV vs (fcAt fs k)).sum := by
  unfold shellsF shellsTo at hg
  obtain ⟨i, -, rfl⟩ := List.mem_map.1 hg
  have hb : ∀ k ∈ compF fs i, k < fs.length := fun k hk => (mem_comp.1 hk).lt.2
  have h := prism_sum vs (comp_closed hc i) (allS_sub_nodup hn hb (comp_sorted fs i))
  unfold volS at h
  rw [List.map_map, List.map_map] at h
  exact h

/-- the least number of a list -/
def LeastI (l : List Int) (n : Int) : Prop := n ∈ l ∧ ∀ x ∈ l, n ≤ x

def MostI (l : List Int) (n : Int) : Prop := n ∈ l ∧ ∀ x ∈ l, x ≤ n

theorem LeastI.uniq {l m : List Int} {a b : Int} (h : LeastI l a) (k : LeastI m b) (e : ∀ x, x ∈ l ↔ x ∈ m) : a = b := Int.le_antisymm (h.2 b ((e b).2 k.1)) (k.2 a ((e a).1 h.1))

theorem MostI.uniq {l m : List Int} {a b : Int} (h : MostI l a) (k : MostI m b) (e : ∀ x, x ∈ l ↔ x ∈ m) : a = b := Int.le_antisymm (k.2 a ((e a).1 h.1)) (h.2 b ((e b).2 k.1))

theorem LeastI.one (x : Int) : LeastI [x] x := ⟨by simp, by simp⟩

theorem MostI.one (x : Int) : MostI [x] x := ⟨by simp, by simp⟩

theorem LeastI.snoc {l : List Int} {n x : Int} (h : LeastI l n) : LeastI (l ++ [x]) (min n x) := by
  refine ⟨?_, fun y hy => ?_⟩
  · rcases Int.le_total n x with e | e
    · rw [Int.min_eq_left e]; exact List.mem_append_left _ h.1
    · rw [Int.min_eq_right e]; simp
  · rcases List.mem_append.1 hy with hy | hy
    · have := h.2 y hy; omega
    · rw [List.mem_singleton] at hy; omega

theorem MostI.snoc {l : List Int} {n x : Int} (h : MostI l n) : MostI (l ++ [x]) (max n x) := by
  refine ⟨?_, fun y hy => ?_⟩
  · rcases Int.le_total n x with e | e
    · rw [Int.max_eq_right e]; simp
    · rw [Int.max_eq_left e]; exact List.mem_append_left _ h.1
  · rcases List.mem_append.1 hy with hy | hy
    · have := h.2 y hy; omega
    · rw [List.mem_singleton] at hy; omega
/-- the corners of the faces -/
def cornV (vs : List V3) (fs : List Fc) : List V3 := fs.flatMap fun f => [atV vs f.a, atV vs f.b, atV vs f.c]
/-- the used vertices are the corners of the faces -/
theorem used_corn {vs : List V3} {fs : List Fc} (hin : ∀ f ∈ fs, inF vs.length f = true) (v : V3) : v ∈ keepTo vs (useL vs.length fs) vs.length ↔ v ∈ cornV vs fs := by
  rw [keepTo_mem vs _ vs.length (Nat.le_refl _)]
  unfold cornV
  rw [List.mem_flatMap]
  have hat : ∀ (i : Nat) (x : Int) (h : i < vs.length), x = i → atV vs x = vs[i] := fun i x h e => by
    subst e
    unfold atV
    rw [Int.toNat_natCast, List.getD_eq_getElem?_getD, List.getElem?_eq_getElem h, Option.getD_some]
  constructor
  · rintro ⟨i, h, -, h2, rfl⟩
    have h3 : (useL vs.length fs).getD i false = fs.any (hasI i) := by simp [useL, List.getD_eq_getElem?_getD, h]
    rw [h3, List.any_eq_true] at h2
    obtain ⟨f, hf, hh⟩ := h2
    refine ⟨f, hf, ?_⟩
    unfold hasI at hh
    simp only [Bool.or_eq_true, decide_eq_true_eq] at hh
    simp only [List.mem_cons, List.not_mem_nil, or_false]
    rcases hh with (e | e) | e
    · exact .inl (hat i _ h e).symm
    · exact .inr (.inl (hat i _ h e).symm)
    · exact .inr (.inr (hat i _ h e).symm)
  · rintro ⟨f, hf, h⟩
    have hi := hin f hf
    unfold inF inI at hi
    simp only [Bool.and_eq_true, decide_eq_true_eq] at hi
    have key : ∀ x : Int, 0 ≤ x → x < vs.length → (x = f.a ∨ x = f.b ∨ x = f.c) → ∃ i, ∃ (h : i < vs.length), i < vs.length ∧ (useL vs.length fs).getD i false = true ∧ vs[i] = atV vs x := fun x h0 h1 h2 => by
      have hl : x.toNat < vs.length := by omega
      refine ⟨x.toNat, hl, hl, useL_hit hf hl ?_, (hat x.toNat x hl (by omega)).symm⟩
      rcases h2 with rfl | rfl | rfl
      · left; omega
      · right; left; omega
      · right; right; omega
    simp only [List.mem_cons, List.not_mem_nil, or_false] at h
    rcases h with rfl | rfl | rfl
    · exact key _ hi.1.1.1 hi.1.1.2 (.inl rfl)
    · exact key _ hi.1.2.1 hi.1.2.2 (.inr (.inl rfl))
    · exact key _ hi.2.1 hi.2.2 (.inr (.inr rfl))

end Go.Proofs.YtkcchcnljanloaaGreat

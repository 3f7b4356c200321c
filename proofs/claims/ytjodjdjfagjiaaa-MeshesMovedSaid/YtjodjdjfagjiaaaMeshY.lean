/- Contracts of functions that this seat's laws reach, each: what one call returns and what it leaves in memory; no condition beyond each theorem's own hypotheses. -/
import Derived.Test.YtjodjdjfagjiaaaMeshX
set_option linter.unusedVariables false
set_option linter.unusedSimpArgs false
namespace Go.Proofs.Ytjodjdjfagjiaaa
open Go.RowKit Go.Bl

def VPtr0 (g n : Nat) : Value → World → Prop := fun v _ => ∃ j, v = .pointer (some ⟨g, j * 3, none⟩) ∧ j < n
def VPtrE (g e n : Nat) : Value → World → Prop := fun v _ => ∃ j, v = .pointer (some ⟨g, j * 3 + e, none⟩) ∧ j < n
theorem inF_bd {n : Nat} {f : Fc} (h : inF n f = true) : (0 ≤ f.a ∧ f.a < n) ∧ (0 ≤ f.b ∧ f.b < n) ∧ 0 ≤ f.c ∧ f.c < n := by
  simpa [inF, inI, Bool.and_eq_true, and_assoc] using h
def SpOut (p : Pl) (w0 : World) (N : Int) (e : Ending) (w' : World) : Prop := e = .returned (.tuple #[]) ∧ ∃ (A : Option Addr) (c : Nat) (vs : List V3) (B : Option Addr) (d : Nat) (fs : List Fc), Cell w' p.gm 0 (.slice A vs.length c) ∧ Cell w' p.gm 1 (.slice B fs.length d) ∧ Own w' p.lo 49 A c vs ∧ Own w' p.lo 67 B d fs ∧ SOut p.b N w0 w'
theorem SpI.setV0 {p : Pl} {R : Fc → Prop} {w0 w : World} {N : Int} (h : SpI p R w0 N w) (hp : p.ok w0) {j : Nat} (hj : j < p.nv) (u : Int) : SpI p R w0 N (w.setCell ⟨p.gA, j * 3, none⟩ (.int .i64 u)) := h.setV hp hj (e := 0) (by decide) u
theorem SpI.out {p : Pl} {R : Fc → Prop} {w0 w : World} {N M : Int} (h : SpI p R w0 N w) (hN : N ≤ M) : SpOut p w0 M (.returned (.tuple #[])) w := by
  obtain ⟨h1, h2, h3, h4, ⟨vs, h5, h6⟩, fs, h7, h8, h9⟩ := h
  exact ⟨rfl, _, _, vs, _, _, fs, by rw [h5]; exact h3, by rw [h7]; exact h4, h6, h9, h1.mono hN⟩

def VApp (p : Pl) : Value → World → Prop := fun v w => ∃ (B : Option Addr) (d : Nat) (fs : List Fc), v = .slice B fs.length d ∧ Own w p.lo 67 B d fs
theorem VApp.stab {p : Pl} {q : Nat → Prop} {v : Value} {w w' : World} (h : VApp p v w) (hw : Wrt q w w') (hq : ∀ g, q g → g < p.lo) : VApp p v w' := let ⟨B, d, fs, h1, h2⟩ := h; ⟨B, d, fs, h1, h2.wrt hw hq⟩
/-- while a face is appended -/
def ApI (p : Pl) (fs : List Fc) (w0 : World) (N : Int) (m : Nat → Bool) (k : Nat) (w : World) : Prop :=
  SOut p.b (N + k) w0 w ∧ p.lo2 ≤ w.heap.size ∧ Cell w p.gm 0 (.slice (some ⟨p.gA, 0, none⟩) p.nv p.cA) ∧ (∃ vs : List V3, vs.length = p.nv ∧ Own w p.lo 49 (some ⟨p.gA, 0, none⟩) p.cA vs) ∧
    (m 12 = false → fs.length = p.nf ∧ Own w p.lo 67 (some ⟨p.gB, 0, none⟩) p.cB fs) ∧ (m 15 = false → Cell w p.gm 1 (.slice (some ⟨p.gB, 0, none⟩) p.nf p.cB)) ∧
    (m 15 = true → ∃ (B : Option Addr) (d : Nat) (fs' : List Fc), Cell w p.gm 1 (.slice B fs'.length d) ∧ Own w p.lo 67 B d fs')
theorem face0 {w : World} {lo g c nf : Nat} {fs : List Fc} (h : fs.length = nf ∧ Own w lo 67 (some ⟨g, 0, none⟩) c fs) (hn : 1 ≤ nf) : ∃ f : Fc, w.cell? ⟨g, 0, none⟩ = some (.int .i64 f.a) ∧ w.cell? ⟨g, 1, none⟩ = some (.int .i64 f.b) ∧ w.cell? ⟨g, 2, none⟩ = some (.int .i64 f.c) := by
  obtain ⟨h1, h2⟩ := h
  obtain ⟨c1, rfl, hc⟩ := h2.cell_at (by decide) (i := 0) (by omega)
  exact ⟨_, hc 0 _ rfl, hc 1 _ rfl, hc 2 _ rfl⟩
section
variable {p : Pl} {fs : List Fc} {w0 w w' : World} {N : Int} {m : Nat → Bool} {k : Nat}
theorem ApI.same (h : ApI p fs w0 N m k w) {j : Nat} (h12 : (12 == j) = false) (h15 : (15 == j) = false) : ApI p fs w0 N (setm m j) k w := by
  unfold ApI
  rw [setm_ne h12, setm_ne h15]
  exact h
theorem ApI.pure (h : ApI p fs w0 N m k w) (hg : w.grownBy w' none) : ApI p fs w0 N m k w' := by
  obtain ⟨h1, h2, h3, ⟨vs, h5, h6⟩, h7, h8, h9⟩ := h
  exact ⟨h1.pure hg, Nat.le_trans h2 hg.size, h3.gr hg (by simp), ⟨vs, h5, h6.pure hg⟩, fun h => ⟨(h7 h).1, (h7 h).2.pure hg⟩, fun h => (h8 h).gr hg (by simp), fun h => let ⟨B, d, fs', a, b⟩ := h9 h; ⟨B, d, fs', a.gr hg (by simp), b.pure hg⟩⟩
theorem ApI.app (h : ApI p fs w0 N m k w) (hp : p.ok w0) (h12 : m 12 = false) (h15 : m 15 = false) {B5 : Option Addr} (hG : Grew (some ⟨p.gB, 0, none⟩) B5 w w') (ho : Own w p.lo 67 (some ⟨p.gB, 0, none⟩) p.cB fs) : ApI p fs w0 N (setm m 12) k w' := by
  obtain ⟨h1, h2, h3, ⟨vs, h5, h6⟩, h7, h8, h9⟩ := h
  obtain ⟨p1, p2, p3, p4, p5, p6, p7, p8, _⟩ := hp
  have hg : w.grownBy w' (some p.gB) := hG.1
  refine ⟨h1.new p1 hg (fun g e => by injection e; omega), Nat.le_trans h2 hg.size, h3.gr hg (fun e => by injection e; omega), ⟨vs, h5, h6.ne hg (fun g e1 e2 => by simp only [blk, Option.map_some, Option.some.injEq] at e1; injection e2; omega)⟩, ?_, ?_, ?_⟩
  · intro h; rw [setm_eq] at h; cases h
  · intro h; exact (h8 h15).gr hg (fun e => by injection e; omega)
  · intro h; rw [setm_ne (by decide), h15] at h; cases h
theorem ApI.fin (h : ApI p fs w0 N m k w) (hp : p.ok w0) {v : Value} (c : Cell w p.gm 1 v) {B : Option Addr} {d : Nat} {fs' : List Fc} (ho : Own w p.lo 67 B d fs') : ApI p fs w0 N (setm m 15) k (w.setCell ⟨p.gm, 1, none⟩ (.slice B fs'.length d)) := by
  obtain ⟨h1, h2, h3, ⟨vs, h5, h6⟩, h7, h8, h9⟩ := h
  obtain ⟨p1, p2, p3, p4, p5, p6, p7, p8, _⟩ := hp
  have hg := gr_set (World.grownBy.refl w (some p.gm)) (p := ⟨p.gm, 1, none⟩) (.inl rfl) (.slice B fs'.length d)
  have hne : ∀ {α : Type} [Enc α] {A : Option Addr} {e : TypeId} {c : Nat} {l : List α}, Own w p.lo e A c l → ∀ g, blk A = some g → some p.gm ≠ some g := fun h g e1 e2 => by have := h.blk_lt e1; injection e2; omega
  refine ⟨h1.set p1 p2 _, by rw [heap_set]; exact h2, h3.set_ne _ (by decide), ⟨vs, h5, h6.ne hg (hne h6)⟩, ?_, ?_, ?_⟩
  · intro h; rw [setm_ne (by decide)] at h; exact ⟨(h7 h).1, (h7 h).2.ne hg (hne (h7 h).2)⟩
  · intro h; rw [setm_eq] at h; cases h
  · intro _; exact ⟨B, d, fs', c.set_ _, ho.ne hg (hne ho)⟩
theorem ApI.out (h : ApI p fs w0 N m k w) (h15 : m 15 = true) {M : Int} (hN : N + k ≤ M) : SpOut p w0 M (.returned (.tuple #[])) w := by
  obtain ⟨h1, h2, h3, ⟨vs, h5, h6⟩, h7, h8, h9⟩ := h
  obtain ⟨B, d, fs', a, b⟩ := h9 h15
  exact ⟨rfl, _, _, vs, B, d, fs', by rw [h5]; exact h3, a, h6, b, h1.mono hN⟩
theorem SpI.ap {R : Fc → Prop} (h : SpI p R w0 N w) : ∃ fs : List Fc, ∀ m : Nat → Bool, m 15 = false → ApI p fs w0 N m 0 w := by
  obtain ⟨h1, h2, h3, h4, h5, fs, h7, h8, h9⟩ := h
  exact ⟨fs, fun m hm => ⟨by simpa using h1, h2, h3, h5, fun _ => ⟨h7, h9⟩, fun _ => h4, fun h => by rw [hm] at h; cases h⟩⟩
end

set_option maxHeartbeats 8000000 in
set_option maxRecDepth 100000 in
theorem spoil_any (p : Pl) (N : Int) (w0 w : World) (hp : p.ok w0) (h : SpI p (fun f => inF p.nv f = true) w0 N w) (hN : N ≤ 1000000000) (hnv : 1 ≤ p.nv) (hnf : 1 ≤ p.nf) :
    Calls Try.prog 42 #[.pointer (some ⟨p.b, 0, none⟩), .pointer (some ⟨p.gm, 0, none⟩)] w (SpOut p w0 (N + 10)) := by
  have hpp := hp
  obtain ⟨p1, p2, p3, p4, p5, p6, p7, p8, p9, p10⟩ := hpp
  have hW1 : ∀ g, SpW p g → g < p.lo2 := fun g h => by rcases h with rfl | rfl | rfl | rfl <;> omega
  have hbl : p.b + 1 ≤ p.lo2 := by omega
  replace hp := hide hp
  go_enter Try.func42, Try.ntmps42
  go_wp2_with fail
  replace hp := hp.out
  obtain ⟨NN, hNN⟩ : ∃ NN : Int, NN = N := ⟨_, rfl⟩
  have hNb : NN ≤ 1000000010 := by omega
  rw [← hNN] at h
  replace hNN := hide hNN
  refine wp_region_minvF (fun _ k w => SpI p (fun f => inF p.nv f = true) w0 (NN + k) w) (fun _ => Wrt (SpW p)) [VIs (.pointer (some ⟨p.gm, 0, none⟩)), VIs (.pointer (some ⟨p.gm, 0, none⟩)), VIs (.pointer (some ⟨p.gm, 1, none⟩)), VIs (.slice (some ⟨p.gB, 0, none⟩) p.nf p.cB), VIs (.pointer (some ⟨p.b, 0, none⟩)), VIs (.pointer (some ⟨p.gm, 0, none⟩)), VIs (.pointer (some ⟨p.gm, 0, none⟩)), VIs (.pointer (some ⟨p.gm, 1, none⟩)), VIs (.slice (some ⟨p.gB, 0, none⟩) p.nf p.cB), VIs (.int .i64 p.nf), VIntP (fun r => 0 ≤ r ∧ r < p.nf), VPtr0 p.gB p.nf, VPtr0 p.gB p.nf] [0, 0, 0, 0, 0, 0, 0, 0, 0, 0, 1, 0, 0] (by kernel_rfl) (by kernel_rfl) (by intro vs; simp only [putAll, Act.put, List.setIfInBounds_toArray, List.set_cons_zero, List.set_cons_succ, Nat.reduceAdd]; exact rfl) ?iv0 ?iv1 rfl ?iv2 ?iv3
  case iv1 => exact Stab.ok ⟨fun m v w w' _ _ h => h, fun m v w w' _ _ h => h, fun m v w w' _ _ h => h, fun m v w w' _ _ h => h, fun m v w w' _ _ h => h, fun m v w w' _ _ h => h, fun m v w w' _ _ h => h, fun m v w w' _ _ h => h, fun m v w w' _ _ h => h, fun m v w w' _ _ h => h, fun m v w w' _ _ h => h, fun m v w w' _ _ h => h, fun m v w w' _ _ h => h, trivial⟩
  case iv2 =>
    refine MOpsF.op (fun vs wx m k hmj hcl hI hk hf K hK => ?_) ?_
    · clear hf hcl
      replace hK := hide hK
      replace hI := hide hI
      go_wp2_with fail
      replace hK := hK.out (.pointer (some ⟨p.gm, 0, none⟩))
      simp only [Act.put, List.setIfInBounds_toArray, List.set_cons_zero, List.set_cons_succ, Nat.add_zero] at hK
      exact hK _ (hI.out) (Wrt.pure (World.grownBy.refl _ _)) (rfl)
    refine MOpsF.op (fun vs wx m k hmj hcl hI hk hf K hK => ?_) ?_
    · have e0 : vs 0 = .pointer (some ⟨p.gm, 0, none⟩) := hf 0 (by decide) (by kernel_rfl)
      clear hf hcl
      replace hK := hide hK
      replace hI := hide hI
      rw [e0]
      replace e0 := hide e0
      go_wp2_with fail
      replace hK := hK.out (.pointer (some ⟨p.gm, 0, none⟩))
      simp only [Act.put, List.setIfInBounds_toArray, List.set_cons_zero, List.set_cons_succ, e0.out, Nat.add_zero] at hK
      exact hK _ (hI.out) (Wrt.pure (World.grownBy.refl _ _)) (rfl)
    refine MOpsF.op (fun vs wx m k hmj hcl hI hk hf K hK => ?_) ?_
    · have e1 : vs 1 = .pointer (some ⟨p.gm, 0, none⟩) := hf 1 (by decide) (by kernel_rfl)
      clear hf hcl
      replace hK := hide hK
      replace hI := hide hI
      rw [e1]
      replace e1 := hide e1
      go_wp2_with fail
      replace hK := hK.out (.pointer (some ⟨p.gm, 1, none⟩))
      simp only [Act.put, List.setIfInBounds_toArray, List.set_cons_zero, List.set_cons_succ, e1.out, Nat.add_zero] at hK
      exact hK _ (hI.out) (Wrt.pure (World.grownBy.refl _ _)) (rfl)
    refine MOpsF.op (fun vs wx m k hmj hcl hI hk hf K hK => ?_) ?_
    · have e2 : vs 2 = .pointer (some ⟨p.gm, 1, none⟩) := hf 2 (by decide) (by kernel_rfl)
      clear hf hcl
      have c := hI.2.2.2.1.1
      replace hK := hide hK
      replace hI := hide hI
      rw [e2]
      replace e2 := hide e2
      go_wp2_with fail
      replace hK := hK.out (.slice (some ⟨p.gB, 0, none⟩) p.nf p.cB)
      simp only [Act.put, List.setIfInBounds_toArray, List.set_cons_zero, List.set_cons_succ, e2.out, Nat.add_zero] at hK
      exact hK _ (hI.out) (Wrt.pure (World.grownBy.refl _ _)) (rfl)
    refine MOpsF.op (fun vs wx m k hmj hcl hI hk hf K hK => ?_) ?_
    · clear hf hcl
      replace hK := hide hK
      replace hI := hide hI
      go_wp2_with fail
      replace hK := hK.out (.pointer (some ⟨p.b, 0, none⟩))
      simp only [Act.put, List.setIfInBounds_toArray, List.set_cons_zero, List.set_cons_succ, Nat.add_zero] at hK
      exact hK _ (hI.out) (Wrt.pure (World.grownBy.refl _ _)) (rfl)
    refine MOpsF.op (fun vs wx m k hmj hcl hI hk hf K hK => ?_) ?_
    · clear hf hcl
      replace hK := hide hK
      replace hI := hide hI
      go_wp2_with fail
      replace hK := hK.out (.pointer (some ⟨p.gm, 0, none⟩))
      simp only [Act.put, List.setIfInBounds_toArray, List.set_cons_zero, List.set_cons_succ, Nat.add_zero] at hK
      exact hK _ (hI.out) (Wrt.pure (World.grownBy.refl _ _)) (rfl)
    refine MOpsF.op (fun vs wx m k hmj hcl hI hk hf K hK => ?_) ?_
    · have e5 : vs 5 = .pointer (some ⟨p.gm, 0, none⟩) := hf 5 (by decide) (by kernel_rfl)
      clear hf hcl
      replace hK := hide hK
      replace hI := hide hI
      rw [e5]
      replace e5 := hide e5
      go_wp2_with fail
      replace hK := hK.out (.pointer (some ⟨p.gm, 0, none⟩))
      simp only [Act.put, List.setIfInBounds_toArray, List.set_cons_zero, List.set_cons_succ, e5.out, Nat.add_zero] at hK
      exact hK _ (hI.out) (Wrt.pure (World.grownBy.refl _ _)) (rfl)
    refine MOpsF.op (fun vs wx m k hmj hcl hI hk hf K hK => ?_) ?_
    · have e6 : vs 6 = .pointer (some ⟨p.gm, 0, none⟩) := hf 6 (by decide) (by kernel_rfl)
      clear hf hcl
      replace hK := hide hK
      replace hI := hide hI
      rw [e6]
      replace e6 := hide e6
      go_wp2_with fail
      replace hK := hK.out (.pointer (some ⟨p.gm, 1, none⟩))
      simp only [Act.put, List.setIfInBounds_toArray, List.set_cons_zero, List.set_cons_succ, e6.out, Nat.add_zero] at hK
      exact hK _ (hI.out) (Wrt.pure (World.grownBy.refl _ _)) (rfl)
    refine MOpsF.op (fun vs wx m k hmj hcl hI hk hf K hK => ?_) ?_
    · have e7 : vs 7 = .pointer (some ⟨p.gm, 1, none⟩) := hf 7 (by decide) (by kernel_rfl)
      clear hf hcl
      have c := hI.2.2.2.1.1
      replace hK := hide hK
      replace hI := hide hI
      rw [e7]
      replace e7 := hide e7
      go_wp2_with fail
      replace hK := hK.out (.slice (some ⟨p.gB, 0, none⟩) p.nf p.cB)
      simp only [Act.put, List.setIfInBounds_toArray, List.set_cons_zero, List.set_cons_succ, e7.out, Nat.add_zero] at hK
      exact hK _ (hI.out) (Wrt.pure (World.grownBy.refl _ _)) (rfl)
    refine MOpsF.op (fun vs wx m k hmj hcl hI hk hf K hK => ?_) ?_
    · have e8 : vs 8 = .slice (some ⟨p.gB, 0, none⟩) p.nf p.cB := hf 8 (by decide) (by kernel_rfl)
      clear hf hcl
      replace hK := hide hK
      replace hI := hide hI
      rw [e8]
      replace e8 := hide e8
      go_wp2_with fail
      replace hK := hK.out (.int .i64 p.nf)
      simp only [Act.put, List.setIfInBounds_toArray, List.set_cons_zero, List.set_cons_succ, e8.out, Nat.add_zero] at hK
      exact hK _ (hI.out) (Wrt.pure (World.grownBy.refl _ _)) (rfl)
    refine MOpsF.op (fun vs wx m k hmj hcl hI hk hf K hK => ?_) ?_
    · have e4 : vs 4 = .pointer (some ⟨p.b, 0, none⟩) := hf 4 (by decide) (by kernel_rfl)
      have e9 : vs 9 = .int .i64 p.nf := hf 9 (by decide) (by kernel_rfl)
      clear hf hcl
      have hk2 : k + 1 ≤ 1 := hk
      clear hk
      have hst := hI.1.2
      replace hK := hide hK
      replace hI := hide hI
      rw [e4, e9]
      replace e4 := hide e4
      replace e9 := hide e9
      go_wp2_with fail
      refine (next_any p.b (NN + k) _ _ hst (by omega) (by omega)).mono ?_
      rintro e wy ⟨r, rfl, hr, hoy⟩
      go_wp2_with fail
      replace hK := hK.out (.int .i64 r)
      simp only [Act.put, List.setIfInBounds_toArray, List.set_cons_zero, List.set_cons_succ, e4.out, e9.out] at hK
      exact hK _ ((hI.out.st hp (hoy.mono (by omega)))) (Wrt.one hoy.1 (.inl rfl)) (⟨r, rfl, hr⟩)
    refine MOpsF.op (fun vs wx m k hmj hcl hI hk hf K hK => ?_) ?_
    · have e3 : vs 3 = .slice (some ⟨p.gB, 0, none⟩) p.nf p.cB := hf 3 (by decide) (by kernel_rfl)
      obtain ⟨r10, e10, hr10⟩ := hf 10 (by decide) (by kernel_rfl)
      clear hf hcl
      obtain ⟨q, rfl⟩ := Int.eq_ofNat_of_zero_le hr10.1
      have hq : q < p.nf := by omega
      replace hK := hide hK
      replace hI := hide hI
      rw [e3, e10]
      replace e3 := hide e3
      replace e10 := hide e10
      go_wp2_with fail
      replace hK := hK.out (.pointer (some ⟨p.gB, q * 3, none⟩))
      simp only [Act.put, List.setIfInBounds_toArray, List.set_cons_zero, List.set_cons_succ, e3.out, e10.out, Nat.add_zero] at hK
      exact hK _ (hI.out) (Wrt.pure (World.grownBy.refl _ _)) (⟨q, rfl, hq⟩)
    refine MOpsF.op (fun vs wx m k hmj hcl hI hk hf K hK => ?_) ?_
    · obtain ⟨j11, e11, hj11⟩ := hf 11 (by decide) (by kernel_rfl)
      clear hf hcl
      replace hK := hide hK
      replace hI := hide hI
      rw [e11]
      replace e11 := hide e11
      go_wp2_with fail
      replace hK := hK.out (.pointer (some ⟨p.gB, j11 * 3, none⟩))
      simp only [Act.put, List.setIfInBounds_toArray, List.set_cons_zero, List.set_cons_succ, e11.out, Nat.add_zero] at hK
      exact hK _ (hI.out) (Wrt.pure (World.grownBy.refl _ _)) (⟨j11, rfl, hj11⟩)
    exact MOpsF.done
  case iv0 => exact fun m _ => (h.pure (gr_drew (World.grownBy.refl _ _))).mono (by simp)
  case iv3 =>
    intro vs w7 m hm' hI hf
    obtain ⟨j, e12, hj⟩ : VPtr0 p.gB p.nf (vs 12) w7 := hf 12 (by decide)
    replace hI : SpI p (fun f => inF p.nv f = true) w0 (NN + 1) w7 := hI.mono (by simp)
    clear hf hm' h
    rw [e12]
    clear e12
    replace hp := hide hp
    go_wp2_with fail
    refine (next_any p.b (NN + 1) 5 _ hI.1.2 (by omega) (by omega)).mono ?_
    rintro e w8 ⟨r, rfl, ⟨hr0, hr1⟩, ho8⟩
    replace hp := hp.out
    have h := hI.st hp ho8
    clear hI ho8
    obtain ⟨NN, hNN2⟩ : ∃ x : Int, x = NN + 1 + 1 := ⟨_, rfl⟩
    have hNb : NN ≤ 1000000020 := by omega
    rw [← hNN2] at h
    have hNM : NN = N + 2 := by have := hNN.out; omega
    replace hNM := hide hNM
    replace hNN2 := hide hNN2
    replace hp := hide hp
    have hr : r = 0 ∨ r = 1 ∨ r = 2 ∨ r = 3 ∨ r = 4 := by omega
    clear hr0 hr1
    rcases hr with rfl | rfl | rfl | rfl | rfl
    · go_wp2_with fail
      replace hp := hp.out
      refine wp_region_minvF (fun _ k w => SpI p (fun _ => True) w0 (NN + k) w) (fun _ => Wrt (SpW p)) [VIs (.pointer (some ⟨p.gB, j * 3, none⟩)), VIs (.pointer (some ⟨p.b, 0, none⟩)), VIs (.pointer (some ⟨p.gm, 0, none⟩)), VIs (.pointer (some ⟨p.gm, 0, none⟩)), VIs (.pointer (some ⟨p.gm, 0, none⟩)), VIs (.slice (some ⟨p.gA, 0, none⟩) p.nv p.cA), VIs (.int .i64 p.nv), VIs (.pointer (some ⟨p.gB, j * 3, none⟩)), VIs (.pointer (some ⟨p.gB, j * 3, none⟩)), VIs (.pointer (some ⟨p.gB, j * 3 + 1, none⟩)), VInt, VLit (α := Int) p.lo2 3, VInt, VIs (.pointer (some ⟨p.gB, j * 3, none⟩)), VIs (.pointer (some ⟨p.gB, j * 3, none⟩)), (fun _ _ => True)] [0, 0, 0, 0, 0, 0, 0, 0, 0, 0, 0, 0, 1, 0, 0, 0] (by kernel_rfl) (by kernel_rfl) (by intro vs; simp only [putAll, Act.put, List.setIfInBounds_toArray, List.set_cons_zero, List.set_cons_succ, Nat.reduceAdd]; exact rfl) ?iv0 ?iv1 rfl ?iv2 ?iv3
      case iv1 => exact Stab.ok ⟨fun m v w w' _ _ h => h, fun m v w w' _ _ h => h, fun m v w w' _ _ h => h, fun m v w w' _ _ h => h, fun m v w w' _ _ h => h, fun m v w w' _ _ h => h, fun m v w w' _ _ h => h, fun m v w w' _ _ h => h, fun m v w w' _ _ h => h, fun m v w w' _ _ h => h, fun m v w w' _ _ h => h, fun m v w w' _ hw h => h.stab hw hW1, fun m v w w' _ _ h => h, fun m v w w' _ _ h => h, fun m v w w' _ _ h => h, fun m v w w' _ _ h => h, trivial⟩
      case iv2 =>
        refine MOpsF.op (fun vs wx m k hmj hcl hI hk hf K hK => ?_) ?_
        · clear hf hcl
          replace hK := hide hK
          replace hI := hide hI
          go_wp2_with fail
          replace hK := hK.out (.pointer (some ⟨p.gB, j * 3, none⟩))
          simp only [Act.put, List.setIfInBounds_toArray, List.set_cons_zero, List.set_cons_succ, Nat.add_zero] at hK
          exact hK _ (hI.out) (Wrt.pure (World.grownBy.refl _ _)) (rfl)
        refine MOpsF.op (fun vs wx m k hmj hcl hI hk hf K hK => ?_) ?_
        · clear hf hcl
          replace hK := hide hK
          replace hI := hide hI
          go_wp2_with fail
          replace hK := hK.out (.pointer (some ⟨p.b, 0, none⟩))
          simp only [Act.put, List.setIfInBounds_toArray, List.set_cons_zero, List.set_cons_succ, Nat.add_zero] at hK
          exact hK _ (hI.out) (Wrt.pure (World.grownBy.refl _ _)) (rfl)
        refine MOpsF.op (fun vs wx m k hmj hcl hI hk hf K hK => ?_) ?_
        · clear hf hcl
          replace hK := hide hK
          replace hI := hide hI
          go_wp2_with fail
          replace hK := hK.out (.pointer (some ⟨p.gm, 0, none⟩))
          simp only [Act.put, List.setIfInBounds_toArray, List.set_cons_zero, List.set_cons_succ, Nat.add_zero] at hK
          exact hK _ (hI.out) (Wrt.pure (World.grownBy.refl _ _)) (rfl)
        refine MOpsF.op (fun vs wx m k hmj hcl hI hk hf K hK => ?_) ?_
        · have e2 : vs 2 = .pointer (some ⟨p.gm, 0, none⟩) := hf 2 (by decide) (by kernel_rfl)
          clear hf hcl
          replace hK := hide hK
          replace hI := hide hI
          rw [e2]
          replace e2 := hide e2
          go_wp2_with fail
          replace hK := hK.out (.pointer (some ⟨p.gm, 0, none⟩))
          simp only [Act.put, List.setIfInBounds_toArray, List.set_cons_zero, List.set_cons_succ, e2.out, Nat.add_zero] at hK
          exact hK _ (hI.out) (Wrt.pure (World.grownBy.refl _ _)) (rfl)
        refine MOpsF.op (fun vs wx m k hmj hcl hI hk hf K hK => ?_) ?_
        · have e3 : vs 3 = .pointer (some ⟨p.gm, 0, none⟩) := hf 3 (by decide) (by kernel_rfl)
          clear hf hcl
          replace hK := hide hK
          replace hI := hide hI
          rw [e3]
          replace e3 := hide e3
          go_wp2_with fail
          replace hK := hK.out (.pointer (some ⟨p.gm, 0, none⟩))
          simp only [Act.put, List.setIfInBounds_toArray, List.set_cons_zero, List.set_cons_succ, e3.out, Nat.add_zero] at hK
          exact hK _ (hI.out) (Wrt.pure (World.grownBy.refl _ _)) (rfl)
        refine MOpsF.op (fun vs wx m k hmj hcl hI hk hf K hK => ?_) ?_
        · have e4 : vs 4 = .pointer (some ⟨p.gm, 0, none⟩) := hf 4 (by decide) (by kernel_rfl)
          clear hf hcl
          have c := hI.2.2.1.1
          replace hK := hide hK
          replace hI := hide hI
          rw [e4]
          replace e4 := hide e4
          go_wp2_with fail
          replace hK := hK.out (.slice (some ⟨p.gA, 0, none⟩) p.nv p.cA)
          simp only [Act.put, List.setIfInBounds_toArray, List.set_cons_zero, List.set_cons_succ, e4.out, Nat.add_zero] at hK
          exact hK _ (hI.out) (Wrt.pure (World.grownBy.refl _ _)) (rfl)
        refine MOpsF.op (fun vs wx m k hmj hcl hI hk hf K hK => ?_) ?_
        · have e5 : vs 5 = .slice (some ⟨p.gA, 0, none⟩) p.nv p.cA := hf 5 (by decide) (by kernel_rfl)
          clear hf hcl
          replace hK := hide hK
          replace hI := hide hI
          rw [e5]
          replace e5 := hide e5
          go_wp2_with fail
          replace hK := hK.out (.int .i64 p.nv)
          simp only [Act.put, List.setIfInBounds_toArray, List.set_cons_zero, List.set_cons_succ, e5.out, Nat.add_zero] at hK
          exact hK _ (hI.out) (Wrt.pure (World.grownBy.refl _ _)) (rfl)
        refine MOpsF.op (fun vs wx m k hmj hcl hI hk hf K hK => ?_) ?_
        · clear hf hcl
          replace hK := hide hK
          replace hI := hide hI
          go_wp2_with fail
          replace hK := hK.out (.pointer (some ⟨p.gB, j * 3, none⟩))
          simp only [Act.put, List.setIfInBounds_toArray, List.set_cons_zero, List.set_cons_succ, Nat.add_zero] at hK
          exact hK _ (hI.out) (Wrt.pure (World.grownBy.refl _ _)) (rfl)
        refine MOpsF.op (fun vs wx m k hmj hcl hI hk hf K hK => ?_) ?_
        · have e7 : vs 7 = .pointer (some ⟨p.gB, j * 3, none⟩) := hf 7 (by decide) (by kernel_rfl)
          clear hf hcl
          replace hK := hide hK
          replace hI := hide hI
          rw [e7]
          replace e7 := hide e7
          go_wp2_with fail
          replace hK := hK.out (.pointer (some ⟨p.gB, j * 3, none⟩))
          simp only [Act.put, List.setIfInBounds_toArray, List.set_cons_zero, List.set_cons_succ, e7.out, Nat.add_zero] at hK
          exact hK _ (hI.out) (Wrt.pure (World.grownBy.refl _ _)) (rfl)
        refine MOpsF.op (fun vs wx m k hmj hcl hI hk hf K hK => ?_) ?_
        · have e8 : vs 8 = .pointer (some ⟨p.gB, j * 3, none⟩) := hf 8 (by decide) (by kernel_rfl)
          clear hf hcl
          replace hK := hide hK
          replace hI := hide hI
          rw [e8]
          replace e8 := hide e8
          go_wp2_with fail
          replace hK := hK.out (.pointer (some ⟨p.gB, j * 3 + 1, none⟩))
          simp only [Act.put, List.setIfInBounds_toArray, List.set_cons_zero, List.set_cons_succ, e8.out, Nat.add_zero] at hK
          exact hK _ (hI.out) (Wrt.pure (World.grownBy.refl _ _)) (rfl)
        refine MOpsF.op (fun vs wx m k hmj hcl hI hk hf K hK => ?_) ?_
        · have e9 : vs 9 = .pointer (some ⟨p.gB, j * 3 + 1, none⟩) := hf 9 (by decide) (by kernel_rfl)
          clear hf hcl
          obtain ⟨f, _, q0, q1, q2⟩ := hI.face hj
          clear q0 q2
          replace hK := hide hK
          replace hI := hide hI
          rw [e9]
          replace e9 := hide e9
          go_wp2_with fail
          replace hK := hK.out (.int .i64 f.b)
          simp only [Act.put, List.setIfInBounds_toArray, List.set_cons_zero, List.set_cons_succ, e9.out, Nat.add_zero] at hK
          exact hK _ (hI.out) (Wrt.pure (World.grownBy.refl _ _)) (⟨_, rfl⟩)
        refine MOpsF.op (fun vs wx m k hmj hcl hI hk hf K hK => ?_) ?_
        · have e6 : vs 6 = .int .i64 p.nv := hf 6 (by decide) (by kernel_rfl)
          obtain ⟨r10, e10⟩ := hf 10 (by decide) (by kernel_rfl)
          clear hf hcl
          replace hK := hide hK
          replace hI := hide hI
          rw [e6, e10]
          replace e6 := hide e6
          replace e10 := hide e10
          go_wp2_with fail
          replace hK := hK.out (.slice (some ⟨wx.heap.size, 0, none⟩) 3 3)
          simp only [Act.put, List.setIfInBounds_toArray, List.set_cons_zero, List.set_cons_succ, e6.out, e10.out, Nat.add_zero] at hK
          exact hK _ ((hI.out.pure (gr_alloc (World.grownBy.refl _ _) _))) (Wrt.pure (gr_alloc (World.grownBy.refl _ _) _)) (⟨wx.heap.size, [-1, p.nv, r10], rfl, rfl, sl_intsAt _ _ _ _ _ rfl hI.out.2.1 (by simp [maxLen])⟩)
        refine MOpsF.op (fun vs wx m k hmj hcl hI hk hf K hK => ?_) ?_
        · have e1 : vs 1 = .pointer (some ⟨p.b, 0, none⟩) := hf 1 (by decide) (by kernel_rfl)
          obtain ⟨g11, ll, e11, hll, hsl⟩ := hf 11 (by decide) (by kernel_rfl)
          clear hf hcl
          have hk2 : k + 1 ≤ 1 := hk
          clear hk
          have hst := hI.1.2
          replace hK := hide hK
          replace hI := hide hI
          rw [e1, e11]
          replace e1 := hide e1
          replace e11 := hide e11
          go_wp2_with fail
          refine (pick_any p.b (NN + k) _ _ _ ll _ hst (by omega) (hsl.mono (by omega)) hll (by simp)).mono ?_
          rintro e wy ⟨r, rfl, _, hoy⟩
          go_wp2_with fail
          replace hK := hK.out (.int .i64 r)
          simp only [Act.put, List.setIfInBounds_toArray, List.set_cons_zero, List.set_cons_succ, e1.out, e11.out] at hK
          exact hK _ ((hI.out.st hp (hoy.mono (by omega)))) (Wrt.one hoy.1 (.inl rfl)) (⟨r, rfl⟩)
        refine MOpsF.op (fun vs wx m k hmj hcl hI hk hf K hK => ?_) ?_
        · have e0 : vs 0 = .pointer (some ⟨p.gB, j * 3, none⟩) := hf 0 (by decide) (by kernel_rfl)
          clear hf hcl
          replace hK := hide hK
          replace hI := hide hI
          rw [e0]
          replace e0 := hide e0
          go_wp2_with fail
          replace hK := hK.out (.pointer (some ⟨p.gB, j * 3, none⟩))
          simp only [Act.put, List.setIfInBounds_toArray, List.set_cons_zero, List.set_cons_succ, e0.out, Nat.add_zero] at hK
          exact hK _ (hI.out) (Wrt.pure (World.grownBy.refl _ _)) (rfl)
        refine MOpsF.op (fun vs wx m k hmj hcl hI hk hf K hK => ?_) ?_
        · have e13 : vs 13 = .pointer (some ⟨p.gB, j * 3, none⟩) := hf 13 (by decide) (by kernel_rfl)
          clear hf hcl
          replace hK := hide hK
          replace hI := hide hI
          rw [e13]
          replace e13 := hide e13
          go_wp2_with fail
          replace hK := hK.out (.pointer (some ⟨p.gB, j * 3, none⟩))
          simp only [Act.put, List.setIfInBounds_toArray, List.set_cons_zero, List.set_cons_succ, e13.out, Nat.add_zero] at hK
          exact hK _ (hI.out) (Wrt.pure (World.grownBy.refl _ _)) (rfl)
        refine MOpsF.op (fun vs wx m k hmj hcl hI hk hf K hK => ?_) ?_
        · have e14 : vs 14 = .pointer (some ⟨p.gB, j * 3, none⟩) := hf 14 (by decide) (by kernel_rfl)
          obtain ⟨r12, e12⟩ := hf 12 (by decide) (by kernel_rfl)
          clear hf hcl
          obtain ⟨f, _, q0, q1, q2⟩ := hI.face hj
          have fz := hI.fzB (j * 3 + 0)
          rw [Nat.add_zero] at fz
          replace hK := hide hK
          replace hI := hide hI
          rw [e14, e12]
          replace e14 := hide e14
          replace e12 := hide e12
          go_wp2_with fail
          replace hK := hK.out (undef)
          simp only [Act.put, List.setIfInBounds_toArray, List.set_cons_zero, List.set_cons_succ, e14.out, e12.out, Nat.add_zero] at hK
          exact hK _ ((hI.out.setF hp hj (e := 0) (by decide) r12)) (Wrt.one (gr_set (World.grownBy.refl _ _) (.inl rfl) _) (.inr (.inr (.inr rfl)))) (trivial)
        exact MOpsF.done
      case iv0 => exact fun m _ => (h.any.pure (gr_drew (World.grownBy.refl _ _))).mono (by simp)
      case iv3 =>
        intro vs w9 m hm' hI hf
        clear hf hm'
        go_wp2_with fail
        go_end0
        exact hI.out (by have := hNM.out; simp; omega)
    · go_wp2_with fail
      replace hp := hp.out
      refine wp_region_minvF (fun _ k w => SpI p (fun _ => True) w0 (NN + k) w) (fun _ => Wrt (SpW p)) [VIs (.pointer (some ⟨p.gB, j * 3, none⟩)), VIs (.pointer (some ⟨p.gB, j * 3, none⟩)), VIs (.pointer (some ⟨p.gB, j * 3, none⟩)), VIs (.pointer (some ⟨p.gB, j * 3, none⟩)), VIs (.pointer (some ⟨p.gB, j * 3 + 2, none⟩)), VInt, VIs (.pointer (some ⟨p.gB, j * 3, none⟩)), VIs (.pointer (some ⟨p.gB, j * 3, none⟩)), VIs (.pointer (some ⟨p.gB, j * 3 + 1, none⟩)), VInt, VIs (.pointer (some ⟨p.gB, j * 3, none⟩)), VIs (.pointer (some ⟨p.gB, j * 3 + 1, none⟩)), (fun _ _ => True), VIs (.pointer (some ⟨p.gB, j * 3, none⟩)), VIs (.pointer (some ⟨p.gB, j * 3 + 2, none⟩)), (fun _ _ => True)] [0, 0, 0, 0, 0, 0, 0, 0, 0, 0, 0, 0, 0, 0, 0, 0] (by kernel_rfl) (by kernel_rfl) (by intro vs; simp only [putAll, Act.put, List.setIfInBounds_toArray, List.set_cons_zero, List.set_cons_succ, Nat.reduceAdd]; exact rfl) ?iv0 ?iv1 rfl ?iv2 ?iv3
      case iv1 => exact Stab.ok ⟨fun m v w w' _ _ h => h, fun m v w w' _ _ h => h, fun m v w w' _ _ h => h, fun m v w w' _ _ h => h, fun m v w w' _ _ h => h, fun m v w w' _ _ h => h, fun m v w w' _ _ h => h, fun m v w w' _ _ h => h, fun m v w w' _ _ h => h, fun m v w w' _ _ h => h, fun m v w w' _ _ h => h, fun m v w w' _ _ h => h, fun m v w w' _ _ h => h, fun m v w w' _ _ h => h, fun m v w w' _ _ h => h, fun m v w w' _ _ h => h, trivial⟩
      case iv2 =>
        refine MOpsF.op (fun vs wx m k hmj hcl hI hk hf K hK => ?_) ?_
        · clear hf hcl
          replace hK := hide hK
          replace hI := hide hI
          go_wp2_with fail
          replace hK := hK.out (.pointer (some ⟨p.gB, j * 3, none⟩))
          simp only [Act.put, List.setIfInBounds_toArray, List.set_cons_zero, List.set_cons_succ, Nat.add_zero] at hK
          exact hK _ (hI.out) (Wrt.pure (World.grownBy.refl _ _)) (rfl)
        refine MOpsF.op (fun vs wx m k hmj hcl hI hk hf K hK => ?_) ?_
        · clear hf hcl
          replace hK := hide hK
          replace hI := hide hI
          go_wp2_with fail
          replace hK := hK.out (.pointer (some ⟨p.gB, j * 3, none⟩))
          simp only [Act.put, List.setIfInBounds_toArray, List.set_cons_zero, List.set_cons_succ, Nat.add_zero] at hK
          exact hK _ (hI.out) (Wrt.pure (World.grownBy.refl _ _)) (rfl)
        refine MOpsF.op (fun vs wx m k hmj hcl hI hk hf K hK => ?_) ?_
        · clear hf hcl
          replace hK := hide hK
          replace hI := hide hI
          go_wp2_with fail
          replace hK := hK.out (.pointer (some ⟨p.gB, j * 3, none⟩))
          simp only [Act.put, List.setIfInBounds_toArray, List.set_cons_zero, List.set_cons_succ, Nat.add_zero] at hK
          exact hK _ (hI.out) (Wrt.pure (World.grownBy.refl _ _)) (rfl)
        refine MOpsF.op (fun vs wx m k hmj hcl hI hk hf K hK => ?_) ?_
        · have e2 : vs 2 = .pointer (some ⟨p.gB, j * 3, none⟩) := hf 2 (by decide) (by kernel_rfl)
          clear hf hcl
          replace hK := hide hK
          replace hI := hide hI
          rw [e2]
          replace e2 := hide e2
          go_wp2_with fail
          replace hK := hK.out (.pointer (some ⟨p.gB, j * 3, none⟩))
          simp only [Act.put, List.setIfInBounds_toArray, List.set_cons_zero, List.set_cons_succ, e2.out, Nat.add_zero] at hK
          exact hK _ (hI.out) (Wrt.pure (World.grownBy.refl _ _)) (rfl)
        refine MOpsF.op (fun vs wx m k hmj hcl hI hk hf K hK => ?_) ?_
        · have e3 : vs 3 = .pointer (some ⟨p.gB, j * 3, none⟩) := hf 3 (by decide) (by kernel_rfl)
          clear hf hcl
          replace hK := hide hK
          replace hI := hide hI
          rw [e3]
          replace e3 := hide e3
          go_wp2_with fail
          replace hK := hK.out (.pointer (some ⟨p.gB, j * 3 + 2, none⟩))
          simp only [Act.put, List.setIfInBounds_toArray, List.set_cons_zero, List.set_cons_succ, e3.out, Nat.add_zero] at hK
          exact hK _ (hI.out) (Wrt.pure (World.grownBy.refl _ _)) (rfl)
        refine MOpsF.op (fun vs wx m k hmj hcl hI hk hf K hK => ?_) ?_
        · have e4 : vs 4 = .pointer (some ⟨p.gB, j * 3 + 2, none⟩) := hf 4 (by decide) (by kernel_rfl)
          clear hf hcl
          obtain ⟨f, _, q0, q1, q2⟩ := hI.face hj
          replace hK := hide hK
          replace hI := hide hI
          rw [e4]
          replace e4 := hide e4
          go_wp2_with fail
          replace hK := hK.out (.int .i64 f.c)
          simp only [Act.put, List.setIfInBounds_toArray, List.set_cons_zero, List.set_cons_succ, e4.out, Nat.add_zero] at hK
          exact hK _ (hI.out) (Wrt.pure (World.grownBy.refl _ _)) (⟨_, rfl⟩)
        refine MOpsF.op (fun vs wx m k hmj hcl hI hk hf K hK => ?_) ?_
        · clear hf hcl
          replace hK := hide hK
          replace hI := hide hI
          go_wp2_with fail
          replace hK := hK.out (.pointer (some ⟨p.gB, j * 3, none⟩))
          simp only [Act.put, List.setIfInBounds_toArray, List.set_cons_zero, List.set_cons_succ, Nat.add_zero] at hK
          exact hK _ (hI.out) (Wrt.pure (World.grownBy.refl _ _)) (rfl)
        refine MOpsF.op (fun vs wx m k hmj hcl hI hk hf K hK => ?_) ?_
        · have e6 : vs 6 = .pointer (some ⟨p.gB, j * 3, none⟩) := hf 6 (by decide) (by kernel_rfl)
          clear hf hcl
          replace hK := hide hK
          replace hI := hide hI
          rw [e6]
          replace e6 := hide e6
          go_wp2_with fail
          replace hK := hK.out (.pointer (some ⟨p.gB, j * 3, none⟩))
          simp only [Act.put, List.setIfInBounds_toArray, List.set_cons_zero, List.set_cons_succ, e6.out, Nat.add_zero] at hK
          exact hK _ (hI.out) (Wrt.pure (World.grownBy.refl _ _)) (rfl)
        refine MOpsF.op (fun vs wx m k hmj hcl hI hk hf K hK => ?_) ?_
        · have e7 : vs 7 = .pointer (some ⟨p.gB, j * 3, none⟩) := hf 7 (by decide) (by kernel_rfl)
          clear hf hcl
          replace hK := hide hK
          replace hI := hide hI
          rw [e7]
          replace e7 := hide e7
          go_wp2_with fail
          replace hK := hK.out (.pointer (some ⟨p.gB, j * 3 + 1, none⟩))
          simp only [Act.put, List.setIfInBounds_toArray, List.set_cons_zero, List.set_cons_succ, e7.out, Nat.add_zero] at hK
          exact hK _ (hI.out) (Wrt.pure (World.grownBy.refl _ _)) (rfl)
        refine MOpsF.op (fun vs wx m k hmj hcl hI hk hf K hK => ?_) ?_
        · have e8 : vs 8 = .pointer (some ⟨p.gB, j * 3 + 1, none⟩) := hf 8 (by decide) (by kernel_rfl)
          clear hf hcl
          obtain ⟨f, _, q0, q1, q2⟩ := hI.face hj
          replace hK := hide hK
          replace hI := hide hI
          rw [e8]
          replace e8 := hide e8
          go_wp2_with fail
          replace hK := hK.out (.int .i64 f.b)
          simp only [Act.put, List.setIfInBounds_toArray, List.set_cons_zero, List.set_cons_succ, e8.out, Nat.add_zero] at hK
          exact hK _ (hI.out) (Wrt.pure (World.grownBy.refl _ _)) (⟨_, rfl⟩)
        refine MOpsF.op (fun vs wx m k hmj hcl hI hk hf K hK => ?_) ?_
        · have e0 : vs 0 = .pointer (some ⟨p.gB, j * 3, none⟩) := hf 0 (by decide) (by kernel_rfl)
          clear hf hcl
          replace hK := hide hK
          replace hI := hide hI
          rw [e0]
          replace e0 := hide e0
          go_wp2_with fail
          replace hK := hK.out (.pointer (some ⟨p.gB, j * 3, none⟩))
          simp only [Act.put, List.setIfInBounds_toArray, List.set_cons_zero, List.set_cons_succ, e0.out, Nat.add_zero] at hK
          exact hK _ (hI.out) (Wrt.pure (World.grownBy.refl _ _)) (rfl)
        refine MOpsF.op (fun vs wx m k hmj hcl hI hk hf K hK => ?_) ?_
        · have e10 : vs 10 = .pointer (some ⟨p.gB, j * 3, none⟩) := hf 10 (by decide) (by kernel_rfl)
          clear hf hcl
          replace hK := hide hK
          replace hI := hide hI
          rw [e10]
          replace e10 := hide e10
          go_wp2_with fail
          replace hK := hK.out (.pointer (some ⟨p.gB, j * 3 + 1, none⟩))
          simp only [Act.put, List.setIfInBounds_toArray, List.set_cons_zero, List.set_cons_succ, e10.out, Nat.add_zero] at hK
          exact hK _ (hI.out) (Wrt.pure (World.grownBy.refl _ _)) (rfl)
        refine MOpsF.op (fun vs wx m k hmj hcl hI hk hf K hK => ?_) ?_
        · have e11 : vs 11 = .pointer (some ⟨p.gB, j * 3 + 1, none⟩) := hf 11 (by decide) (by kernel_rfl)
          obtain ⟨r5, e5⟩ := hf 5 (by decide) (by kernel_rfl)
          clear hf hcl
          obtain ⟨f, _, q0, q1, q2⟩ := hI.face hj
          have fz := hI.fzB (j * 3 + 1)
          replace hK := hide hK
          replace hI := hide hI
          rw [e11, e5]
          replace e11 := hide e11
          replace e5 := hide e5
          go_wp2_with fail
          replace hK := hK.out (undef)
          simp only [Act.put, List.setIfInBounds_toArray, List.set_cons_zero, List.set_cons_succ, e11.out, e5.out, Nat.add_zero] at hK
          exact hK _ ((hI.out.setF hp hj (e := 1) (by decide) r5)) (Wrt.one (gr_set (World.grownBy.refl _ _) (.inl rfl) _) (.inr (.inr (.inr rfl)))) (trivial)
        refine MOpsF.op (fun vs wx m k hmj hcl hI hk hf K hK => ?_) ?_
        · have e1 : vs 1 = .pointer (some ⟨p.gB, j * 3, none⟩) := hf 1 (by decide) (by kernel_rfl)
          clear hf hcl
          replace hK := hide hK
          replace hI := hide hI
          rw [e1]
          replace e1 := hide e1
          go_wp2_with fail
          replace hK := hK.out (.pointer (some ⟨p.gB, j * 3, none⟩))
          simp only [Act.put, List.setIfInBounds_toArray, List.set_cons_zero, List.set_cons_succ, e1.out, Nat.add_zero] at hK
          exact hK _ (hI.out) (Wrt.pure (World.grownBy.refl _ _)) (rfl)
        refine MOpsF.op (fun vs wx m k hmj hcl hI hk hf K hK => ?_) ?_
        · have e13 : vs 13 = .pointer (some ⟨p.gB, j * 3, none⟩) := hf 13 (by decide) (by kernel_rfl)
          clear hf hcl
          replace hK := hide hK
          replace hI := hide hI
          rw [e13]
          replace e13 := hide e13
          go_wp2_with fail
          replace hK := hK.out (.pointer (some ⟨p.gB, j * 3 + 2, none⟩))
          simp only [Act.put, List.setIfInBounds_toArray, List.set_cons_zero, List.set_cons_succ, e13.out, Nat.add_zero] at hK
          exact hK _ (hI.out) (Wrt.pure (World.grownBy.refl _ _)) (rfl)
        refine MOpsF.op (fun vs wx m k hmj hcl hI hk hf K hK => ?_) ?_
        · have e14 : vs 14 = .pointer (some ⟨p.gB, j * 3 + 2, none⟩) := hf 14 (by decide) (by kernel_rfl)
          obtain ⟨r9, e9⟩ := hf 9 (by decide) (by kernel_rfl)
          clear hf hcl
          obtain ⟨f, _, q0, q1, q2⟩ := hI.face hj
          have fz := hI.fzB (j * 3 + 2)
          replace hK := hide hK
          replace hI := hide hI
          rw [e14, e9]
          replace e14 := hide e14
          replace e9 := hide e9
          go_wp2_with fail
          replace hK := hK.out (undef)
          simp only [Act.put, List.setIfInBounds_toArray, List.set_cons_zero, List.set_cons_succ, e14.out, e9.out, Nat.add_zero] at hK
          exact hK _ ((hI.out.setF hp hj (e := 2) (by decide) r9)) (Wrt.one (gr_set (World.grownBy.refl _ _) (.inl rfl) _) (.inr (.inr (.inr rfl)))) (trivial)
        exact MOpsF.done
      case iv0 => exact fun m _ => (h.any.pure (gr_drew (World.grownBy.refl _ _))).mono (by simp)
      case iv3 =>
        intro vs w9 m hm' hI hf
        clear hf hm'
        go_wp2_with fail
        go_end0
        exact hI.out (by have := hNM.out; simp; omega)
    · go_wp2_with fail
      replace hp := hp.out
      refine wp_region_minvF (fun _ k w => SpI p (fun _ => True) w0 (NN + k) w) (fun _ => Wrt (SpW p)) [VIs (.pointer (some ⟨p.gm, 0, none⟩)), VIs (.pointer (some ⟨p.gm, 0, none⟩)), VIs (.pointer (some ⟨p.gm, 0, none⟩)), VIs (.slice (some ⟨p.gA, 0, none⟩) p.nv p.cA), VIs (.pointer (some ⟨p.b, 0, none⟩)), VIs (.pointer (some ⟨p.gm, 0, none⟩)), VIs (.pointer (some ⟨p.gm, 0, none⟩)), VIs (.pointer (some ⟨p.gm, 0, none⟩)), VIs (.slice (some ⟨p.gA, 0, none⟩) p.nv p.cA), VIs (.int .i64 p.nv), VIntP (fun r => 0 ≤ r ∧ r < p.nv), VIs (.pointer (some ⟨p.b, 0, none⟩)), VInt, VPtr0 p.gA p.nv, VPtrE p.gA 2 p.nv, (fun _ _ => True)] [0, 0, 0, 0, 0, 0, 0, 0, 0, 0, 1, 0, 2, 0, 0, 0] (by kernel_rfl) (by kernel_rfl) (by intro vs; simp only [putAll, Act.put, List.setIfInBounds_toArray, List.set_cons_zero, List.set_cons_succ, Nat.reduceAdd]; exact rfl) ?iv0 ?iv1 rfl ?iv2 ?iv3
      case iv1 => exact Stab.ok ⟨fun m v w w' _ _ h => h, fun m v w w' _ _ h => h, fun m v w w' _ _ h => h, fun m v w w' _ _ h => h, fun m v w w' _ _ h => h, fun m v w w' _ _ h => h, fun m v w w' _ _ h => h, fun m v w w' _ _ h => h, fun m v w w' _ _ h => h, fun m v w w' _ _ h => h, fun m v w w' _ _ h => h, fun m v w w' _ _ h => h, fun m v w w' _ _ h => h, fun m v w w' _ _ h => h, fun m v w w' _ _ h => h, fun m v w w' _ _ h => h, trivial⟩
      case iv2 =>
        refine MOpsF.op (fun vs wx m k hmj hcl hI hk hf K hK => ?_) ?_
        · clear hf hcl
          replace hK := hide hK
          replace hI := hide hI
          go_wp2_with fail
          replace hK := hK.out (.pointer (some ⟨p.gm, 0, none⟩))
          simp only [Act.put, List.setIfInBounds_toArray, List.set_cons_zero, List.set_cons_succ, Nat.add_zero] at hK
          exact hK _ (hI.out) (Wrt.pure (World.grownBy.refl _ _)) (rfl)
        refine MOpsF.op (fun vs wx m k hmj hcl hI hk hf K hK => ?_) ?_
        · have e0 : vs 0 = .pointer (some ⟨p.gm, 0, none⟩) := hf 0 (by decide) (by kernel_rfl)
          clear hf hcl
          replace hK := hide hK
          replace hI := hide hI
          rw [e0]
          replace e0 := hide e0
          go_wp2_with fail
          replace hK := hK.out (.pointer (some ⟨p.gm, 0, none⟩))
          simp only [Act.put, List.setIfInBounds_toArray, List.set_cons_zero, List.set_cons_succ, e0.out, Nat.add_zero] at hK
          exact hK _ (hI.out) (Wrt.pure (World.grownBy.refl _ _)) (rfl)
        refine MOpsF.op (fun vs wx m k hmj hcl hI hk hf K hK => ?_) ?_
        · have e1 : vs 1 = .pointer (some ⟨p.gm, 0, none⟩) := hf 1 (by decide) (by kernel_rfl)
          clear hf hcl
          replace hK := hide hK
          replace hI := hide hI
          rw [e1]
          replace e1 := hide e1
          go_wp2_with fail
          replace hK := hK.out (.pointer (some ⟨p.gm, 0, none⟩))
          simp only [Act.put, List.setIfInBounds_toArray, List.set_cons_zero, List.set_cons_succ, e1.out, Nat.add_zero] at hK
          exact hK _ (hI.out) (Wrt.pure (World.grownBy.refl _ _)) (rfl)
        refine MOpsF.op (fun vs wx m k hmj hcl hI hk hf K hK => ?_) ?_
        · have e2 : vs 2 = .pointer (some ⟨p.gm, 0, none⟩) := hf 2 (by decide) (by kernel_rfl)
          clear hf hcl
          have c := hI.2.2.1.1
          replace hK := hide hK
          replace hI := hide hI
          rw [e2]
          replace e2 := hide e2
          go_wp2_with fail
          replace hK := hK.out (.slice (some ⟨p.gA, 0, none⟩) p.nv p.cA)
          simp only [Act.put, List.setIfInBounds_toArray, List.set_cons_zero, List.set_cons_succ, e2.out, Nat.add_zero] at hK
          exact hK _ (hI.out) (Wrt.pure (World.grownBy.refl _ _)) (rfl)
        refine MOpsF.op (fun vs wx m k hmj hcl hI hk hf K hK => ?_) ?_
        · clear hf hcl
          replace hK := hide hK
          replace hI := hide hI
          go_wp2_with fail
          replace hK := hK.out (.pointer (some ⟨p.b, 0, none⟩))
          simp only [Act.put, List.setIfInBounds_toArray, List.set_cons_zero, List.set_cons_succ, Nat.add_zero] at hK
          exact hK _ (hI.out) (Wrt.pure (World.grownBy.refl _ _)) (rfl)
        refine MOpsF.op (fun vs wx m k hmj hcl hI hk hf K hK => ?_) ?_
        · clear hf hcl
          replace hK := hide hK
          replace hI := hide hI
          go_wp2_with fail
          replace hK := hK.out (.pointer (some ⟨p.gm, 0, none⟩))
          simp only [Act.put, List.setIfInBounds_toArray, List.set_cons_zero, List.set_cons_succ, Nat.add_zero] at hK
          exact hK _ (hI.out) (Wrt.pure (World.grownBy.refl _ _)) (rfl)
        refine MOpsF.op (fun vs wx m k hmj hcl hI hk hf K hK => ?_) ?_
        · have e5 : vs 5 = .pointer (some ⟨p.gm, 0, none⟩) := hf 5 (by decide) (by kernel_rfl)
          clear hf hcl
          replace hK := hide hK
          replace hI := hide hI
          rw [e5]
          replace e5 := hide e5
          go_wp2_with fail
          replace hK := hK.out (.pointer (some ⟨p.gm, 0, none⟩))
          simp only [Act.put, List.setIfInBounds_toArray, List.set_cons_zero, List.set_cons_succ, e5.out, Nat.add_zero] at hK
          exact hK _ (hI.out) (Wrt.pure (World.grownBy.refl _ _)) (rfl)
        refine MOpsF.op (fun vs wx m k hmj hcl hI hk hf K hK => ?_) ?_
        · have e6 : vs 6 = .pointer (some ⟨p.gm, 0, none⟩) := hf 6 (by decide) (by kernel_rfl)
          clear hf hcl
          replace hK := hide hK
          replace hI := hide hI
          rw [e6]
          replace e6 := hide e6
          go_wp2_with fail
          replace hK := hK.out (.pointer (some ⟨p.gm, 0, none⟩))
          simp only [Act.put, List.setIfInBounds_toArray, List.set_cons_zero, List.set_cons_succ, e6.out, Nat.add_zero] at hK
          exact hK _ (hI.out) (Wrt.pure (World.grownBy.refl _ _)) (rfl)
        refine MOpsF.op (fun vs wx m k hmj hcl hI hk hf K hK => ?_) ?_
        · have e7 : vs 7 = .pointer (some ⟨p.gm, 0, none⟩) := hf 7 (by decide) (by kernel_rfl)
          clear hf hcl
          have c := hI.2.2.1.1
          replace hK := hide hK
          replace hI := hide hI
          rw [e7]
          replace e7 := hide e7
          go_wp2_with fail
          replace hK := hK.out (.slice (some ⟨p.gA, 0, none⟩) p.nv p.cA)
          simp only [Act.put, List.setIfInBounds_toArray, List.set_cons_zero, List.set_cons_succ, e7.out, Nat.add_zero] at hK
          exact hK _ (hI.out) (Wrt.pure (World.grownBy.refl _ _)) (rfl)
        refine MOpsF.op (fun vs wx m k hmj hcl hI hk hf K hK => ?_) ?_
        · have e8 : vs 8 = .slice (some ⟨p.gA, 0, none⟩) p.nv p.cA := hf 8 (by decide) (by kernel_rfl)
          clear hf hcl
          replace hK := hide hK
          replace hI := hide hI
          rw [e8]
          replace e8 := hide e8
          go_wp2_with fail
          replace hK := hK.out (.int .i64 p.nv)
          simp only [Act.put, List.setIfInBounds_toArray, List.set_cons_zero, List.set_cons_succ, e8.out, Nat.add_zero] at hK
          exact hK _ (hI.out) (Wrt.pure (World.grownBy.refl _ _)) (rfl)
        refine MOpsF.op (fun vs wx m k hmj hcl hI hk hf K hK => ?_) ?_
        · have e4 : vs 4 = .pointer (some ⟨p.b, 0, none⟩) := hf 4 (by decide) (by kernel_rfl)
          have e9 : vs 9 = .int .i64 p.nv := hf 9 (by decide) (by kernel_rfl)
          clear hf hcl
          have hk2 : k + 1 ≤ 3 := hk
          clear hk
          have hst := hI.1.2
          replace hK := hide hK
          replace hI := hide hI
          rw [e4, e9]
          replace e4 := hide e4
          replace e9 := hide e9
          go_wp2_with fail
          refine (next_any p.b (NN + k) _ _ hst (by omega) (by omega)).mono ?_
          rintro e wy ⟨r, rfl, hr, hoy⟩
          go_wp2_with fail
          replace hK := hK.out (.int .i64 r)
          simp only [Act.put, List.setIfInBounds_toArray, List.set_cons_zero, List.set_cons_succ, e4.out, e9.out] at hK
          exact hK _ ((hI.out.st hp (hoy.mono (by omega)))) (Wrt.one hoy.1 (.inl rfl)) (⟨r, rfl, hr⟩)
        refine MOpsF.op (fun vs wx m k hmj hcl hI hk hf K hK => ?_) ?_
        · clear hf hcl
          replace hK := hide hK
          replace hI := hide hI
          go_wp2_with fail
          replace hK := hK.out (.pointer (some ⟨p.b, 0, none⟩))
          simp only [Act.put, List.setIfInBounds_toArray, List.set_cons_zero, List.set_cons_succ, Nat.add_zero] at hK
          exact hK _ (hI.out) (Wrt.pure (World.grownBy.refl _ _)) (rfl)
        refine MOpsF.op (fun vs wx m k hmj hcl hI hk hf K hK => ?_) ?_
        · have e11 : vs 11 = .pointer (some ⟨p.b, 0, none⟩) := hf 11 (by decide) (by kernel_rfl)
          clear hf hcl
          have hk2 : k + 2 ≤ 3 := hk
          clear hk
          have hst := hI.1.2
          replace hK := hide hK
          replace hI := hide hI
          rw [e11]
          replace e11 := hide e11
          go_wp2_with fail
          refine (odd_any p.b (NN + k) _ _ _ hst (by omega) (by omega) (by omega) (by omega)).mono ?_
          rintro e wy ⟨r, rfl, _, hoy⟩
          go_wp2_with fail
          replace hK := hK.out (.int .i64 r)
          simp only [Act.put, List.setIfInBounds_toArray, List.set_cons_zero, List.set_cons_succ, e11.out] at hK
          exact hK _ ((hI.out.st hp (hoy.mono (by omega)))) (Wrt.one hoy.1 (.inl rfl)) (⟨r, rfl⟩)
        refine MOpsF.op (fun vs wx m k hmj hcl hI hk hf K hK => ?_) ?_
        · have e3 : vs 3 = .slice (some ⟨p.gA, 0, none⟩) p.nv p.cA := hf 3 (by decide) (by kernel_rfl)
          obtain ⟨r10, e10, hr10⟩ := hf 10 (by decide) (by kernel_rfl)
          clear hf hcl
          obtain ⟨q, rfl⟩ := Int.eq_ofNat_of_zero_le hr10.1
          have hq : q < p.nv := by omega
          replace hK := hide hK
          replace hI := hide hI
          rw [e3, e10]
          replace e3 := hide e3
          replace e10 := hide e10
          go_wp2_with fail
          replace hK := hK.out (.pointer (some ⟨p.gA, q * 3, none⟩))
          simp only [Act.put, List.setIfInBounds_toArray, List.set_cons_zero, List.set_cons_succ, e3.out, e10.out, Nat.add_zero] at hK
          exact hK _ (hI.out) (Wrt.pure (World.grownBy.refl _ _)) (⟨q, rfl, hq⟩)
        refine MOpsF.op (fun vs wx m k hmj hcl hI hk hf K hK => ?_) ?_
        · obtain ⟨j13, e13, hj13⟩ := hf 13 (by decide) (by kernel_rfl)
          clear hf hcl
          replace hK := hide hK
          replace hI := hide hI
          rw [e13]
          replace e13 := hide e13
          go_wp2_with fail
          replace hK := hK.out (.pointer (some ⟨p.gA, j13 * 3 + 2, none⟩))
          simp only [Act.put, List.setIfInBounds_toArray, List.set_cons_zero, List.set_cons_succ, e13.out, Nat.add_zero] at hK
          exact hK _ (hI.out) (Wrt.pure (World.grownBy.refl _ _)) (⟨j13, rfl, hj13⟩)
        refine MOpsF.op (fun vs wx m k hmj hcl hI hk hf K hK => ?_) ?_
        · obtain ⟨j14, e14, hj14⟩ := hf 14 (by decide) (by kernel_rfl)
          obtain ⟨r12, e12⟩ := hf 12 (by decide) (by kernel_rfl)
          clear hf hcl
          obtain ⟨f, q0, q1, q2⟩ := hI.vert hj14
          have fz := hI.fzA (j14 * 3 + 2)
          replace hK := hide hK
          replace hI := hide hI
          rw [e14, e12]
          replace e14 := hide e14
          replace e12 := hide e12
          go_wp2_with fail
          replace hK := hK.out (undef)
          simp only [Act.put, List.setIfInBounds_toArray, List.set_cons_zero, List.set_cons_succ, e14.out, e12.out, Nat.add_zero] at hK
          exact hK _ ((hI.out.setV hp hj14 (e := 2) (by decide) r12)) (Wrt.one (gr_set (World.grownBy.refl _ _) (.inl rfl) _) (.inr (.inr (.inl rfl)))) (trivial)
        exact MOpsF.done
      case iv0 => exact fun m _ => (h.any.pure (gr_drew (World.grownBy.refl _ _))).mono (by simp)
      case iv3 =>
        intro vs w9 m hm' hI hf
        clear hf hm'
        go_wp2_with fail
        go_end0
        exact hI.out (by have := hNM.out; simp; omega)
    · go_wp2_with fail
      replace hp := hp.out
      obtain ⟨fs, hA⟩ := (h.pure (gr_drew (World.grownBy.refl _ _))).ap
      refine wp_region_minvF (ApI p fs w0 NN) (fun m => Wrt (fun g => g = p.gm ∨ (m 12 = false ∧ g = p.gB))) [VIs (.pointer (some ⟨p.gm, 0, none⟩)), VIs (.pointer (some ⟨p.gm, 0, none⟩)), VIs (.pointer (some ⟨p.gm, 0, none⟩)), VIs (.pointer (some ⟨p.gm, 1, none⟩)), VIs (.slice (some ⟨p.gB, 0, none⟩) p.nf p.cB), VIs (.pointer (some ⟨p.gm, 0, none⟩)), VIs (.pointer (some ⟨p.gm, 0, none⟩)), VIs (.pointer (some ⟨p.gm, 1, none⟩)), VIs (.slice (some ⟨p.gB, 0, none⟩) p.nf p.cB), VIs (.pointer (some ⟨p.gB, 0, none⟩)), VAgg3, VLit (α := Fc) p.lo2 1, VApp p, VIs (.pointer (some ⟨p.gm, 0, none⟩)), VIs (.pointer (some ⟨p.gm, 1, none⟩)), (fun _ _ => True)] [0, 0, 0, 0, 0, 0, 0, 0, 0, 0, 0, 0, 0, 0, 0, 0] (by kernel_rfl) (by kernel_rfl) (by intro vs; simp only [putAll, Act.put, List.setIfInBounds_toArray, List.set_cons_zero, List.set_cons_succ, Nat.reduceAdd]; exact rfl) ?iv0 ?iv1 rfl ?iv2 ?iv3
      case iv1 => exact Stab.ok ⟨fun m v w w' _ _ h => h, fun m v w w' _ _ h => h, fun m v w w' _ _ h => h, fun m v w w' _ _ h => h, fun m v w w' _ _ h => h, fun m v w w' _ _ h => h, fun m v w w' _ _ h => h, fun m v w w' _ _ h => h, fun m v w w' _ _ h => h, fun m v w w' _ _ h => h, fun m v w w' _ _ h => h, fun m v w w' _ hw h => h.stab hw (fun g h => by rcases h with h | ⟨_, h⟩ <;> omega), fun m v w w' hm hw h => h.stab hw (fun g h => by rcases h with h | ⟨h, _⟩ <;> first | omega | (rw [show m 12 = true from hm] at h; cases h)), fun m v w w' _ _ h => h, fun m v w w' _ _ h => h, fun m v w w' _ _ h => h, trivial⟩
      case iv2 =>
        refine MOpsF.op (fun vs wx m k hmj hcl hI hk hf K hK => ?_) ?_
        · clear hf hcl
          replace hK := hide hK
          replace hI := hide hI
          go_wp2_with fail
          replace hK := hK.out (.pointer (some ⟨p.gm, 0, none⟩))
          simp only [Act.put, List.setIfInBounds_toArray, List.set_cons_zero, List.set_cons_succ, Nat.add_zero] at hK
          exact hK _ ((hI.out.same (by decide) (by decide))) (Wrt.pure (World.grownBy.refl _ _)) (rfl)
        refine MOpsF.op (fun vs wx m k hmj hcl hI hk hf K hK => ?_) ?_
        · clear hf hcl
          replace hK := hide hK
          replace hI := hide hI
          go_wp2_with fail
          replace hK := hK.out (.pointer (some ⟨p.gm, 0, none⟩))
          simp only [Act.put, List.setIfInBounds_toArray, List.set_cons_zero, List.set_cons_succ, Nat.add_zero] at hK
          exact hK _ ((hI.out.same (by decide) (by decide))) (Wrt.pure (World.grownBy.refl _ _)) (rfl)
        refine MOpsF.op (fun vs wx m k hmj hcl hI hk hf K hK => ?_) ?_
        · have e1 : vs 1 = .pointer (some ⟨p.gm, 0, none⟩) := hf 1 (by decide) (by kernel_rfl)
          clear hf hcl
          replace hK := hide hK
          replace hI := hide hI
          rw [e1]
          replace e1 := hide e1
          go_wp2_with fail
          replace hK := hK.out (.pointer (some ⟨p.gm, 0, none⟩))
          simp only [Act.put, List.setIfInBounds_toArray, List.set_cons_zero, List.set_cons_succ, e1.out, Nat.add_zero] at hK
          exact hK _ ((hI.out.same (by decide) (by decide))) (Wrt.pure (World.grownBy.refl _ _)) (rfl)
        refine MOpsF.op (fun vs wx m k hmj hcl hI hk hf K hK => ?_) ?_
        · have e2 : vs 2 = .pointer (some ⟨p.gm, 0, none⟩) := hf 2 (by decide) (by kernel_rfl)
          clear hf hcl
          replace hK := hide hK
          replace hI := hide hI
          rw [e2]
          replace e2 := hide e2
          go_wp2_with fail
          replace hK := hK.out (.pointer (some ⟨p.gm, 1, none⟩))
          simp only [Act.put, List.setIfInBounds_toArray, List.set_cons_zero, List.set_cons_succ, e2.out, Nat.add_zero] at hK
          exact hK _ ((hI.out.same (by decide) (by decide))) (Wrt.pure (World.grownBy.refl _ _)) (rfl)
        refine MOpsF.op (fun vs wx m k hmj hcl hI hk hf K hK => ?_) ?_
        · have e3 : vs 3 = .pointer (some ⟨p.gm, 1, none⟩) := hf 3 (by decide) (by kernel_rfl)
          clear hf
          have h15 : m 15 = false := by
            cases hq : m 15 with
            | false => rfl
            | true => exact absurd (hcl 15 4 (by decide) (by decide) hq (by kernel_rfl)) (by rw [show m 4 = false from hmj]; simp)
          have c := (hI.2.2.2.2.2.1 h15).1
          clear hcl h15
          replace hK := hide hK
          replace hI := hide hI
          rw [e3]
          replace e3 := hide e3
          go_wp2_with fail
          replace hK := hK.out (.slice (some ⟨p.gB, 0, none⟩) p.nf p.cB)
          simp only [Act.put, List.setIfInBounds_toArray, List.set_cons_zero, List.set_cons_succ, e3.out, Nat.add_zero] at hK
          exact hK _ ((hI.out.same (by decide) (by decide))) (Wrt.pure (World.grownBy.refl _ _)) (rfl)
        refine MOpsF.op (fun vs wx m k hmj hcl hI hk hf K hK => ?_) ?_
        · clear hf hcl
          replace hK := hide hK
          replace hI := hide hI
          go_wp2_with fail
          replace hK := hK.out (.pointer (some ⟨p.gm, 0, none⟩))
          simp only [Act.put, List.setIfInBounds_toArray, List.set_cons_zero, List.set_cons_succ, Nat.add_zero] at hK
          exact hK _ ((hI.out.same (by decide) (by decide))) (Wrt.pure (World.grownBy.refl _ _)) (rfl)
        refine MOpsF.op (fun vs wx m k hmj hcl hI hk hf K hK => ?_) ?_
        · have e5 : vs 5 = .pointer (some ⟨p.gm, 0, none⟩) := hf 5 (by decide) (by kernel_rfl)
          clear hf hcl
          replace hK := hide hK
          replace hI := hide hI
          rw [e5]
          replace e5 := hide e5
          go_wp2_with fail
          replace hK := hK.out (.pointer (some ⟨p.gm, 0, none⟩))
          simp only [Act.put, List.setIfInBounds_toArray, List.set_cons_zero, List.set_cons_succ, e5.out, Nat.add_zero] at hK
          exact hK _ ((hI.out.same (by decide) (by decide))) (Wrt.pure (World.grownBy.refl _ _)) (rfl)
        refine MOpsF.op (fun vs wx m k hmj hcl hI hk hf K hK => ?_) ?_
        · have e6 : vs 6 = .pointer (some ⟨p.gm, 0, none⟩) := hf 6 (by decide) (by kernel_rfl)
          clear hf hcl
          replace hK := hide hK
          replace hI := hide hI
          rw [e6]
          replace e6 := hide e6
          go_wp2_with fail
          replace hK := hK.out (.pointer (some ⟨p.gm, 1, none⟩))
          simp only [Act.put, List.setIfInBounds_toArray, List.set_cons_zero, List.set_cons_succ, e6.out, Nat.add_zero] at hK
          exact hK _ ((hI.out.same (by decide) (by decide))) (Wrt.pure (World.grownBy.refl _ _)) (rfl)
        refine MOpsF.op (fun vs wx m k hmj hcl hI hk hf K hK => ?_) ?_
        · have e7 : vs 7 = .pointer (some ⟨p.gm, 1, none⟩) := hf 7 (by decide) (by kernel_rfl)
          clear hf
          have h15 : m 15 = false := by
            cases hq : m 15 with
            | false => rfl
            | true => exact absurd (hcl 15 8 (by decide) (by decide) hq (by kernel_rfl)) (by rw [show m 8 = false from hmj]; simp)
          have c := (hI.2.2.2.2.2.1 h15).1
          clear hcl h15
          replace hK := hide hK
          replace hI := hide hI
          rw [e7]
          replace e7 := hide e7
          go_wp2_with fail
          replace hK := hK.out (.slice (some ⟨p.gB, 0, none⟩) p.nf p.cB)
          simp only [Act.put, List.setIfInBounds_toArray, List.set_cons_zero, List.set_cons_succ, e7.out, Nat.add_zero] at hK
          exact hK _ ((hI.out.same (by decide) (by decide))) (Wrt.pure (World.grownBy.refl _ _)) (rfl)
        refine MOpsF.op (fun vs wx m k hmj hcl hI hk hf K hK => ?_) ?_
        · have e8 : vs 8 = .slice (some ⟨p.gB, 0, none⟩) p.nf p.cB := hf 8 (by decide) (by kernel_rfl)
          clear hf hcl
          replace hK := hide hK
          replace hI := hide hI
          rw [e8]
          replace e8 := hide e8
          go_wp2_with fail
          replace hK := hK.out (.pointer (some ⟨p.gB, 0, none⟩))
          simp only [Act.put, List.setIfInBounds_toArray, List.set_cons_zero, List.set_cons_succ, e8.out, Nat.add_zero] at hK
          exact hK _ ((hI.out.same (by decide) (by decide))) (Wrt.pure (World.grownBy.refl _ _)) (rfl)
        refine MOpsF.op (fun vs wx m k hmj hcl hI hk hf K hK => ?_) ?_
        · have e9 : vs 9 = .pointer (some ⟨p.gB, 0, none⟩) := hf 9 (by decide) (by kernel_rfl)
          clear hf
          have h12 : m 12 = false := by
            cases hq : m 12 with
            | false => rfl
            | true => exact absurd (hcl 12 10 (by decide) (by decide) hq (by kernel_rfl)) (by rw [show m 10 = false from hmj]; simp)
          obtain ⟨f, q0, q1, q2⟩ := face0 (hI.2.2.2.2.1 h12) hnf
          clear hcl h12
          replace hK := hide hK
          replace hI := hide hI
          rw [e9]
          replace e9 := hide e9
          go_wp2_with fail
          replace hK := hK.out (.agg #[.int .i64 f.a, .int .i64 f.b, .int .i64 f.c])
          simp only [Act.put, List.setIfInBounds_toArray, List.set_cons_zero, List.set_cons_succ, e9.out, Nat.add_zero] at hK
          exact hK _ ((hI.out.same (by decide) (by decide))) (Wrt.pure (World.grownBy.refl _ _)) (⟨_, _, _, rfl⟩)
        refine MOpsF.op (fun vs wx m k hmj hcl hI hk hf K hK => ?_) ?_
        · obtain ⟨x10, y10, z10, e10⟩ := hf 10 (by decide) (by kernel_rfl)
          clear hf hcl
          replace hK := hide hK
          replace hI := hide hI
          rw [e10]
          replace e10 := hide e10
          go_wp2_with fail
          replace hK := hK.out (.slice (some ⟨wx.heap.size, 0, none⟩) 1 1)
          simp only [Act.put, List.setIfInBounds_toArray, List.set_cons_zero, List.set_cons_succ, e10.out, Nat.add_zero] at hK
          exact hK _ (((hI.out.same (by decide) (by decide)).pure (gr_alloc (World.grownBy.refl _ _) _))) (Wrt.pure (gr_alloc (World.grownBy.refl _ _) _)) (⟨wx.heap.size, [⟨x10, y10, z10⟩], rfl, rfl, sl_oneAt _ _ _ _ _ _ rfl hI.out.2.1 rfl⟩)
        refine MOpsF.op (fun vs wx m k hmj hcl hI hk hf K hK => ?_) ?_
        · have e4 : vs 4 = .slice (some ⟨p.gB, 0, none⟩) p.nf p.cB := hf 4 (by decide) (by kernel_rfl)
          obtain ⟨g11, ll, e11, hll, hsl⟩ := hf 11 (by decide) (by kernel_rfl)
          clear hf
          have h15 : m 15 = false := by
            cases hq : m 15 with
            | false => rfl
            | true => exact absurd (hcl 15 12 (by decide) (by decide) hq (by kernel_rfl)) (by rw [show m 12 = false from hmj]; simp)
          have hown := (hI.2.2.2.2.1 hmj).2
          have hfl := (hI.2.2.2.2.1 hmj).1
          obtain ⟨i0, hi, hz, h1, h2⟩ := info_parts info_face
          replace hK := hide hK
          replace hI := hide hI
          rw [e4, e11]
          replace e4 := hide e4
          replace e11 := hide e11
          refine wp_pushAt (α := Fc) _ (.tmp 94) (.tmp 101) _ rfl p.lo 67 i0 _ 24 Try.underlying27 hi hz h1 h2 rfl _ _ _ fs rfl ?_ hown p.lo2 ⟨g11, 0, none⟩ 1 1 ll rfl ?_ hsl ?_ ?_ ?_ ?_
          · exact hfl.symm
          · exact hll.symm
          · rw [hll]; omega
          · rw [hll]; unfold maxLen; omega
          · have := hI.out.2.1; omega
          intro B5 d5 w5 hown5 hG5
          simp only [Act.put, List.setIfInBounds_toArray, List.set_cons_zero, List.set_cons_succ]
          replace hK := hK.out (.slice B5 (fs ++ ll).length d5)
          simp only [Act.put, List.setIfInBounds_toArray, List.set_cons_zero, List.set_cons_succ, e4.out, e11.out, Nat.add_zero] at hK
          exact hK _ ((hI.out.app hp (show m 12 = false from hmj) h15 hG5 hown)) (Wrt.one (show wx.grownBy w5 (some p.gB) from hG5.1) (.inr ⟨hmj, rfl⟩)) (⟨B5, d5, _, rfl, hown5⟩)
        refine MOpsF.op (fun vs wx m k hmj hcl hI hk hf K hK => ?_) ?_
        · have e0 : vs 0 = .pointer (some ⟨p.gm, 0, none⟩) := hf 0 (by decide) (by kernel_rfl)
          clear hf hcl
          replace hK := hide hK
          replace hI := hide hI
          rw [e0]
          replace e0 := hide e0
          go_wp2_with fail
          replace hK := hK.out (.pointer (some ⟨p.gm, 0, none⟩))
          simp only [Act.put, List.setIfInBounds_toArray, List.set_cons_zero, List.set_cons_succ, e0.out, Nat.add_zero] at hK
          exact hK _ ((hI.out.same (by decide) (by decide))) (Wrt.pure (World.grownBy.refl _ _)) (rfl)
        refine MOpsF.op (fun vs wx m k hmj hcl hI hk hf K hK => ?_) ?_
        · have e13 : vs 13 = .pointer (some ⟨p.gm, 0, none⟩) := hf 13 (by decide) (by kernel_rfl)
          clear hf hcl
          replace hK := hide hK
          replace hI := hide hI
          rw [e13]
          replace e13 := hide e13
          go_wp2_with fail
          replace hK := hK.out (.pointer (some ⟨p.gm, 1, none⟩))
          simp only [Act.put, List.setIfInBounds_toArray, List.set_cons_zero, List.set_cons_succ, e13.out, Nat.add_zero] at hK
          exact hK _ ((hI.out.same (by decide) (by decide))) (Wrt.pure (World.grownBy.refl _ _)) (rfl)
        refine MOpsF.op (fun vs wx m k hmj hcl hI hk hf K hK => ?_) ?_
        · have e14 : vs 14 = .pointer (some ⟨p.gm, 1, none⟩) := hf 14 (by decide) (by kernel_rfl)
          obtain ⟨B12, d12, fs12, e12, ho12⟩ := hf 12 (by decide) (by kernel_rfl)
          clear hf hcl
          have c := hI.2.2.2.2.2.1 hmj
          obtain ⟨c, fz⟩ := c
          have hgs := gr_set (World.grownBy.refl wx (some p.gm)) (p := ⟨p.gm, 1, none⟩) (.inl rfl) (.slice B12 fs12.length d12)
          replace hgs := hide hgs
          replace ho12 := hide ho12
          replace hK := hide hK
          replace hI := hide hI
          rw [e14, e12]
          replace e14 := hide e14
          replace e12 := hide e12
          go_wp2_with fail
          replace hK := hK.out (undef)
          simp only [Act.put, List.setIfInBounds_toArray, List.set_cons_zero, List.set_cons_succ, e14.out, e12.out, Nat.add_zero] at hK
          exact hK _ ((hI.out.fin hp ⟨c, fz⟩ ho12.out)) (Wrt.one hgs.out (.inl rfl)) (trivial)
        exact MOpsF.done
      case iv0 => exact fun m hm => hA m (hm 15 (by decide))
      case iv3 =>
        intro vs w9 m hm' hI hf
        have h15 := hm' 15 (by decide)
        clear hf hm'
        go_wp2_with fail
        go_end0
        exact hI.out h15 (by have := hNM.out; simp; omega)
    · go_wp2_with fail
      replace hp := hp.out
      refine wp_region_minvF (fun _ k w => SpI p (fun f => inF p.nv f = true) w0 (NN + k) w) (fun _ => Wrt (SpW p)) [VIs (.pointer (some ⟨p.gm, 0, none⟩)), VIs (.pointer (some ⟨p.gm, 0, none⟩)), VIs (.pointer (some ⟨p.gm, 0, none⟩)), VIs (.slice (some ⟨p.gA, 0, none⟩) p.nv p.cA), VIs (.pointer (some ⟨p.gB, j * 3, none⟩)), VIs (.pointer (some ⟨p.gB, j * 3, none⟩)), VIs (.pointer (some ⟨p.gB, j * 3, none⟩)), VIntP (fun r => 0 ≤ r ∧ r < p.nv), VIs (.pointer (some ⟨p.gm, 0, none⟩)), VIs (.pointer (some ⟨p.gm, 0, none⟩)), VIs (.pointer (some ⟨p.gm, 0, none⟩)), VIs (.slice (some ⟨p.gA, 0, none⟩) p.nv p.cA), VIs (.pointer (some ⟨p.gB, j * 3, none⟩)), VIs (.pointer (some ⟨p.gB, j * 3, none⟩)), VIs (.pointer (some ⟨p.gB, j * 3 + 1, none⟩)), VIntP (fun r => 0 ≤ r ∧ r < p.nv), VPtr0 p.gA p.nv, VAgg3, VPtr0 p.gA p.nv, (fun _ _ => True)] [0, 0, 0, 0, 0, 0, 0, 0, 0, 0, 0, 0, 0, 0, 0, 0, 0, 0, 0, 0] (by kernel_rfl) (by kernel_rfl) (by intro vs; simp only [putAll, Act.put, List.setIfInBounds_toArray, List.set_cons_zero, List.set_cons_succ, Nat.reduceAdd]; exact rfl) ?iv0 ?iv1 rfl ?iv2 ?iv3
      case iv1 => exact Stab.ok ⟨fun m v w w' _ _ h => h, fun m v w w' _ _ h => h, fun m v w w' _ _ h => h, fun m v w w' _ _ h => h, fun m v w w' _ _ h => h, fun m v w w' _ _ h => h, fun m v w w' _ _ h => h, fun m v w w' _ _ h => h, fun m v w w' _ _ h => h, fun m v w w' _ _ h => h, fun m v w w' _ _ h => h, fun m v w w' _ _ h => h, fun m v w w' _ _ h => h, fun m v w w' _ _ h => h, fun m v w w' _ _ h => h, fun m v w w' _ _ h => h, fun m v w w' _ _ h => h, fun m v w w' _ _ h => h, fun m v w w' _ _ h => h, fun m v w w' _ _ h => h, trivial⟩
      case iv2 =>
        refine MOpsF.op (fun vs wx m k hmj hcl hI hk hf K hK => ?_) ?_
        · clear hf hcl
          replace hK := hide hK
          replace hI := hide hI
          go_wp2_with fail
          replace hK := hK.out (.pointer (some ⟨p.gm, 0, none⟩))
          simp only [Act.put, List.setIfInBounds_toArray, List.set_cons_zero, List.set_cons_succ, Nat.add_zero] at hK
          exact hK _ (hI.out) (Wrt.pure (World.grownBy.refl _ _)) (rfl)
        refine MOpsF.op (fun vs wx m k hmj hcl hI hk hf K hK => ?_) ?_
        · have e0 : vs 0 = .pointer (some ⟨p.gm, 0, none⟩) := hf 0 (by decide) (by kernel_rfl)
          clear hf hcl
          replace hK := hide hK
          replace hI := hide hI
          rw [e0]
          replace e0 := hide e0
          go_wp2_with fail
          replace hK := hK.out (.pointer (some ⟨p.gm, 0, none⟩))
          simp only [Act.put, List.setIfInBounds_toArray, List.set_cons_zero, List.set_cons_succ, e0.out, Nat.add_zero] at hK
          exact hK _ (hI.out) (Wrt.pure (World.grownBy.refl _ _)) (rfl)
        refine MOpsF.op (fun vs wx m k hmj hcl hI hk hf K hK => ?_) ?_
        · have e1 : vs 1 = .pointer (some ⟨p.gm, 0, none⟩) := hf 1 (by decide) (by kernel_rfl)
          clear hf hcl
          replace hK := hide hK
          replace hI := hide hI
          rw [e1]
          replace e1 := hide e1
          go_wp2_with fail
          replace hK := hK.out (.pointer (some ⟨p.gm, 0, none⟩))
          simp only [Act.put, List.setIfInBounds_toArray, List.set_cons_zero, List.set_cons_succ, e1.out, Nat.add_zero] at hK
          exact hK _ (hI.out) (Wrt.pure (World.grownBy.refl _ _)) (rfl)
        refine MOpsF.op (fun vs wx m k hmj hcl hI hk hf K hK => ?_) ?_
        · have e2 : vs 2 = .pointer (some ⟨p.gm, 0, none⟩) := hf 2 (by decide) (by kernel_rfl)
          clear hf hcl
          have c := hI.2.2.1.1
          replace hK := hide hK
          replace hI := hide hI
          rw [e2]
          replace e2 := hide e2
          go_wp2_with fail
          replace hK := hK.out (.slice (some ⟨p.gA, 0, none⟩) p.nv p.cA)
          simp only [Act.put, List.setIfInBounds_toArray, List.set_cons_zero, List.set_cons_succ, e2.out, Nat.add_zero] at hK
          exact hK _ (hI.out) (Wrt.pure (World.grownBy.refl _ _)) (rfl)
        refine MOpsF.op (fun vs wx m k hmj hcl hI hk hf K hK => ?_) ?_
        · clear hf hcl
          replace hK := hide hK
          replace hI := hide hI
          go_wp2_with fail
          replace hK := hK.out (.pointer (some ⟨p.gB, j * 3, none⟩))
          simp only [Act.put, List.setIfInBounds_toArray, List.set_cons_zero, List.set_cons_succ, Nat.add_zero] at hK
          exact hK _ (hI.out) (Wrt.pure (World.grownBy.refl _ _)) (rfl)
        refine MOpsF.op (fun vs wx m k hmj hcl hI hk hf K hK => ?_) ?_
        · have e4 : vs 4 = .pointer (some ⟨p.gB, j * 3, none⟩) := hf 4 (by decide) (by kernel_rfl)
          clear hf hcl
          replace hK := hide hK
          replace hI := hide hI
          rw [e4]
          replace e4 := hide e4
          go_wp2_with fail
          replace hK := hK.out (.pointer (some ⟨p.gB, j * 3, none⟩))
          simp only [Act.put, List.setIfInBounds_toArray, List.set_cons_zero, List.set_cons_succ, e4.out, Nat.add_zero] at hK
          exact hK _ (hI.out) (Wrt.pure (World.grownBy.refl _ _)) (rfl)
        refine MOpsF.op (fun vs wx m k hmj hcl hI hk hf K hK => ?_) ?_
        · have e5 : vs 5 = .pointer (some ⟨p.gB, j * 3, none⟩) := hf 5 (by decide) (by kernel_rfl)
          clear hf hcl
          replace hK := hide hK
          replace hI := hide hI
          rw [e5]
          replace e5 := hide e5
          go_wp2_with fail
          replace hK := hK.out (.pointer (some ⟨p.gB, j * 3, none⟩))
          simp only [Act.put, List.setIfInBounds_toArray, List.set_cons_zero, List.set_cons_succ, e5.out, Nat.add_zero] at hK
          exact hK _ (hI.out) (Wrt.pure (World.grownBy.refl _ _)) (rfl)
        refine MOpsF.op (fun vs wx m k hmj hcl hI hk hf K hK => ?_) ?_
        · have e6 : vs 6 = .pointer (some ⟨p.gB, j * 3, none⟩) := hf 6 (by decide) (by kernel_rfl)
          clear hf hcl
          obtain ⟨f, hfr, q0, q1, q2⟩ := hI.face hj
          have hfb := hide (inF_bd hfr)
          clear hfr
          replace hK := hide hK
          replace hI := hide hI
          rw [e6]
          replace e6 := hide e6
          go_wp2_with fail
          replace hK := hK.out (.int .i64 f.a)
          simp only [Act.put, List.setIfInBounds_toArray, List.set_cons_zero, List.set_cons_succ, e6.out, Nat.add_zero] at hK
          exact hK _ (hI.out) (Wrt.pure (World.grownBy.refl _ _)) (⟨_, rfl, by have := hfb.out; omega⟩)
        refine MOpsF.op (fun vs wx m k hmj hcl hI hk hf K hK => ?_) ?_
        · clear hf hcl
          replace hK := hide hK
          replace hI := hide hI
          go_wp2_with fail
          replace hK := hK.out (.pointer (some ⟨p.gm, 0, none⟩))
          simp only [Act.put, List.setIfInBounds_toArray, List.set_cons_zero, List.set_cons_succ, Nat.add_zero] at hK
          exact hK _ (hI.out) (Wrt.pure (World.grownBy.refl _ _)) (rfl)
        refine MOpsF.op (fun vs wx m k hmj hcl hI hk hf K hK => ?_) ?_
        · have e8 : vs 8 = .pointer (some ⟨p.gm, 0, none⟩) := hf 8 (by decide) (by kernel_rfl)
          clear hf hcl
          replace hK := hide hK
          replace hI := hide hI
          rw [e8]
          replace e8 := hide e8
          go_wp2_with fail
          replace hK := hK.out (.pointer (some ⟨p.gm, 0, none⟩))
          simp only [Act.put, List.setIfInBounds_toArray, List.set_cons_zero, List.set_cons_succ, e8.out, Nat.add_zero] at hK
          exact hK _ (hI.out) (Wrt.pure (World.grownBy.refl _ _)) (rfl)
        refine MOpsF.op (fun vs wx m k hmj hcl hI hk hf K hK => ?_) ?_
        · have e9 : vs 9 = .pointer (some ⟨p.gm, 0, none⟩) := hf 9 (by decide) (by kernel_rfl)
          clear hf hcl
          replace hK := hide hK
          replace hI := hide hI
          rw [e9]
          replace e9 := hide e9
          go_wp2_with fail
          replace hK := hK.out (.pointer (some ⟨p.gm, 0, none⟩))
          simp only [Act.put, List.setIfInBounds_toArray, List.set_cons_zero, List.set_cons_succ, e9.out, Nat.add_zero] at hK
          exact hK _ (hI.out) (Wrt.pure (World.grownBy.refl _ _)) (rfl)
        refine MOpsF.op (fun vs wx m k hmj hcl hI hk hf K hK => ?_) ?_
        · have e10 : vs 10 = .pointer (some ⟨p.gm, 0, none⟩) := hf 10 (by decide) (by kernel_rfl)
          clear hf hcl
          have c := hI.2.2.1.1
          replace hK := hide hK
          replace hI := hide hI
          rw [e10]
          replace e10 := hide e10
          go_wp2_with fail
          replace hK := hK.out (.slice (some ⟨p.gA, 0, none⟩) p.nv p.cA)
          simp only [Act.put, List.setIfInBounds_toArray, List.set_cons_zero, List.set_cons_succ, e10.out, Nat.add_zero] at hK
          exact hK _ (hI.out) (Wrt.pure (World.grownBy.refl _ _)) (rfl)
        refine MOpsF.op (fun vs wx m k hmj hcl hI hk hf K hK => ?_) ?_
        · clear hf hcl
          replace hK := hide hK
          replace hI := hide hI
          go_wp2_with fail
          replace hK := hK.out (.pointer (some ⟨p.gB, j * 3, none⟩))
          simp only [Act.put, List.setIfInBounds_toArray, List.set_cons_zero, List.set_cons_succ, Nat.add_zero] at hK
          exact hK _ (hI.out) (Wrt.pure (World.grownBy.refl _ _)) (rfl)
        refine MOpsF.op (fun vs wx m k hmj hcl hI hk hf K hK => ?_) ?_
        · have e12 : vs 12 = .pointer (some ⟨p.gB, j * 3, none⟩) := hf 12 (by decide) (by kernel_rfl)
          clear hf hcl
          replace hK := hide hK
          replace hI := hide hI
          rw [e12]
          replace e12 := hide e12
          go_wp2_with fail
          replace hK := hK.out (.pointer (some ⟨p.gB, j * 3, none⟩))
          simp only [Act.put, List.setIfInBounds_toArray, List.set_cons_zero, List.set_cons_succ, e12.out, Nat.add_zero] at hK
          exact hK _ (hI.out) (Wrt.pure (World.grownBy.refl _ _)) (rfl)
        refine MOpsF.op (fun vs wx m k hmj hcl hI hk hf K hK => ?_) ?_
        · have e13 : vs 13 = .pointer (some ⟨p.gB, j * 3, none⟩) := hf 13 (by decide) (by kernel_rfl)
          clear hf hcl
          replace hK := hide hK
          replace hI := hide hI
          rw [e13]
          replace e13 := hide e13
          go_wp2_with fail
          replace hK := hK.out (.pointer (some ⟨p.gB, j * 3 + 1, none⟩))
          simp only [Act.put, List.setIfInBounds_toArray, List.set_cons_zero, List.set_cons_succ, e13.out, Nat.add_zero] at hK
          exact hK _ (hI.out) (Wrt.pure (World.grownBy.refl _ _)) (rfl)
        refine MOpsF.op (fun vs wx m k hmj hcl hI hk hf K hK => ?_) ?_
        · have e14 : vs 14 = .pointer (some ⟨p.gB, j * 3 + 1, none⟩) := hf 14 (by decide) (by kernel_rfl)
          clear hf hcl
          obtain ⟨f, hfr, q0, q1, q2⟩ := hI.face hj
          have hfb := hide (inF_bd hfr)
          clear hfr
          replace hK := hide hK
          replace hI := hide hI
          rw [e14]
          replace e14 := hide e14
          go_wp2_with fail
          replace hK := hK.out (.int .i64 f.b)
          simp only [Act.put, List.setIfInBounds_toArray, List.set_cons_zero, List.set_cons_succ, e14.out, Nat.add_zero] at hK
          exact hK _ (hI.out) (Wrt.pure (World.grownBy.refl _ _)) (⟨_, rfl, by have := hfb.out; omega⟩)
        refine MOpsF.op (fun vs wx m k hmj hcl hI hk hf K hK => ?_) ?_
        · have e11 : vs 11 = .slice (some ⟨p.gA, 0, none⟩) p.nv p.cA := hf 11 (by decide) (by kernel_rfl)
          obtain ⟨r15, e15, hr15⟩ := hf 15 (by decide) (by kernel_rfl)
          clear hf hcl
          obtain ⟨q, rfl⟩ := Int.eq_ofNat_of_zero_le hr15.1
          have hq : q < p.nv := by omega
          replace hK := hide hK
          replace hI := hide hI
          rw [e11, e15]
          replace e11 := hide e11
          replace e15 := hide e15
          go_wp2_with fail
          replace hK := hK.out (.pointer (some ⟨p.gA, q * 3, none⟩))
          simp only [Act.put, List.setIfInBounds_toArray, List.set_cons_zero, List.set_cons_succ, e11.out, e15.out, Nat.add_zero] at hK
          exact hK _ (hI.out) (Wrt.pure (World.grownBy.refl _ _)) (⟨q, rfl, hq⟩)
        refine MOpsF.op (fun vs wx m k hmj hcl hI hk hf K hK => ?_) ?_
        · obtain ⟨j16, e16, hj16⟩ := hf 16 (by decide) (by kernel_rfl)
          clear hf hcl
          obtain ⟨f, q0, q1, q2⟩ := hI.vert hj16
          replace hK := hide hK
          replace hI := hide hI
          rw [e16]
          replace e16 := hide e16
          go_wp2_with fail
          replace hK := hK.out (.agg #[.int .i64 f.x, .int .i64 f.y, .int .i64 f.z])
          simp only [Act.put, List.setIfInBounds_toArray, List.set_cons_zero, List.set_cons_succ, e16.out, Nat.add_zero] at hK
          exact hK _ (hI.out) (Wrt.pure (World.grownBy.refl _ _)) (⟨_, _, _, rfl⟩)
        refine MOpsF.op (fun vs wx m k hmj hcl hI hk hf K hK => ?_) ?_
        · have e3 : vs 3 = .slice (some ⟨p.gA, 0, none⟩) p.nv p.cA := hf 3 (by decide) (by kernel_rfl)
          obtain ⟨r7, e7, hr7⟩ := hf 7 (by decide) (by kernel_rfl)
          clear hf hcl
          obtain ⟨q, rfl⟩ := Int.eq_ofNat_of_zero_le hr7.1
          have hq : q < p.nv := by omega
          replace hK := hide hK
          replace hI := hide hI
          rw [e3, e7]
          replace e3 := hide e3
          replace e7 := hide e7
          go_wp2_with fail
          replace hK := hK.out (.pointer (some ⟨p.gA, q * 3, none⟩))
          simp only [Act.put, List.setIfInBounds_toArray, List.set_cons_zero, List.set_cons_succ, e3.out, e7.out, Nat.add_zero] at hK
          exact hK _ (hI.out) (Wrt.pure (World.grownBy.refl _ _)) (⟨q, rfl, hq⟩)
        refine MOpsF.op (fun vs wx m k hmj hcl hI hk hf K hK => ?_) ?_
        · obtain ⟨x17, y17, z17, e17⟩ := hf 17 (by decide) (by kernel_rfl)
          obtain ⟨j18, e18, hj18⟩ := hf 18 (by decide) (by kernel_rfl)
          clear hf hcl
          obtain ⟨f, q0, q1, q2⟩ := hI.vert hj18
          have fz0 := hI.fzA (j18 * 3)
          have fz1 := hI.fzA (j18 * 3 + 1)
          have fz2 := hI.fzA (j18 * 3 + 2)
          have hw3 := fun a1 a2 a3 => gr_set (gr_set (gr_set (World.grownBy.refl wx (some p.gA)) (p := ⟨p.gA, j18 * 3, none⟩) (.inl rfl) a1) (p := ⟨p.gA, j18 * 3 + 1, none⟩) (.inl rfl) a2) (p := ⟨p.gA, j18 * 3 + 2, none⟩) (.inl rfl) a3
          replace hw3 := hide hw3
          replace hK := hide hK
          replace hI := hide hI
          rw [e17, e18]
          replace e17 := hide e17
          replace e18 := hide e18
          go_wp2_with fail
          replace hK := hK.out (undef)
          simp only [Act.put, List.setIfInBounds_toArray, List.set_cons_zero, List.set_cons_succ, e17.out, e18.out, Nat.add_zero] at hK
          exact hK _ ((((hI.out.setV0 hp hj18 x17).setV hp hj18 (e := 1) (by decide) y17).setV hp hj18 (e := 2) (by decide) z17)) (Wrt.one (hw3.out _ _ _) (.inr (.inr (.inl rfl)))) (trivial)
        exact MOpsF.done
      case iv0 => exact fun m _ => (h.pure (gr_drew (World.grownBy.refl _ _))).mono (by simp)
      case iv3 =>
        intro vs w9 m hm' hI hf
        clear hf hm'
        go_wp2_with fail
        go_end0
        exact hI.out (by have := hNM.out; simp; omega)

end Go.Proofs.Ytjodjdjfagjiaaa

/- Contracts of functions that this seat's laws reach, each: what one call returns and what it leaves in memory; no condition beyond each theorem's own hypotheses. -/
import Derived.Test.YtanioobepfllgaaGreatDoorZqMapStr
import Derived.Test.YtanioobepfllgaaGreatDoorZqTwo
set_option linter.unusedVariables false
set_option linter.unusedSimpArgs false
namespace Go.Bl
open Go Go.RowKit Go.WideShapes Go.Maps
variable {P : Program} {α β : Type}

theorem MapOf.blk {M : MapTy P α β} {w w' : World} {b n : Nat} {m : α → Option β} (h : MapOf M w b n m) (hb : w'.heap[b]? = w.heap[b]?) : MapOf M w' b n m :=
  let ⟨D, ⟨es, clock, h1, h2⟩, h3⟩ := h; ⟨D, ⟨es, clock, hb.trans h1, h2⟩, h3⟩

theorem MapOf.heap {M : MapTy P α β} {w : World} {b n : Nat} {m : α → Option β} (h : MapOf M w b n m) : ∃ es ck, w.heap[b]? = some (.map es ck) :=
  let ⟨_, ⟨es, clock, h1, _⟩, _⟩ := h; ⟨es, clock, h1⟩

end Go.Bl
namespace Go.Proofs.YtanioobepfllgaaGreatDoor
open Go Go.RowKit Go.Bl Go.Maps Go.WideShapes

theorem map_noBox {w : World} {x : Nat} {t : TypeId} {vs : List Value} (hm : ∃ es ck, w.heap[x]? = some (.map es ck)) (hb : Box w x t vs) : False := by
  obtain ⟨es, ck, h1⟩ := hm
  obtain ⟨cs, k, h2⟩ := hb.1
  rw [h1] at h2
  cases h2

structure FlrAt (w : World) (f b1 b2 b3 b4 N : Nat) (F : Flr) : Prop where
  bx : Box w f 132 [.map (some b1), .map (some b2), .map (some b3), .map (some b4)]
  m1 : MapOf strT w b1 N F.at_
  m2 : MapOf strS w b2 N F.wh
  m3 : MapOf strB w b3 N F.dn
  m4 : MapOf strB w b4 N F.fl
  ne : b1 ≠ b2 ∧ b1 ≠ b3 ∧ b1 ≠ b4 ∧ b2 ≠ b3 ∧ b2 ≠ b4 ∧ b3 ≠ b4
  jk : ∀ k y, F.at_ k = some y → okK y.job

def isF (b1 b2 b3 b4 : Nat) (x : Nat) : Prop := x = b1 ∨ x = b2 ∨ x = b3 ∨ x = b4
section
variable {w w' : World} {f b1 b2 b3 b4 N : Nat} {F : Flr}

theorem FlrAt.ne1 (h : FlrAt w f b1 b2 b3 b4 N F) : f ≠ b1 := fun e => map_noBox (e ▸ h.m1.heap) h.bx

theorem FlrAt.ne2 (h : FlrAt w f b1 b2 b3 b4 N F) : f ≠ b2 := fun e => map_noBox (e ▸ h.m2.heap) h.bx

theorem FlrAt.ne3 (h : FlrAt w f b1 b2 b3 b4 N F) : f ≠ b3 := fun e => map_noBox (e ▸ h.m3.heap) h.bx

theorem FlrAt.ne4 (h : FlrAt w f b1 b2 b3 b4 N F) : f ≠ b4 := fun e => map_noBox (e ▸ h.m4.heap) h.bx

theorem FlrAt.isMap (h : FlrAt w f b1 b2 b3 b4 N F) {x : Nat} (hx : isF b1 b2 b3 b4 x) : ∃ es ck, w.heap[x]? = some (.map es ck) := by
  rcases hx with rfl | rfl | rfl | rfl
  · exact h.m1.heap
  · exact h.m2.heap
  · exact h.m3.heap
  · exact h.m4.heap

theorem FlrAt.blk (h : FlrAt w f b1 b2 b3 b4 N F) (hb : ∀ x, x = f ∨ isF b1 b2 b3 b4 x → w'.heap[x]? = w.heap[x]?) : FlrAt w' f b1 b2 b3 b4 N F :=
  ⟨box_block h.bx (hb f (.inl rfl)), h.m1.blk (hb b1 (.inr (.inl rfl))), h.m2.blk (hb b2 (.inr (.inr (.inl rfl)))), h.m3.blk (hb b3 (.inr (.inr (.inr (.inl rfl))))), h.m4.blk (hb b4 (.inr (.inr (.inr (.inr rfl))))), h.ne, h.jk⟩

theorem FlrAt.lt (h : FlrAt w f b1 b2 b3 b4 N F) {x : Nat} (hx : x = f ∨ isF b1 b2 b3 b4 x) : x < w.heap.size := by
  rcases hx with rfl | rfl | rfl | rfl | rfl
  · exact h.bx.lt
  · exact h.m1.lt
  · exact h.m2.lt
  · exact h.m3.lt
  · exact h.m4.lt

theorem FlrAt.pure (h : FlrAt w f b1 b2 b3 b4 N F) (hg : w.grownBy w' none) : FlrAt w' f b1 b2 b3 b4 N F :=
  h.blk fun x hx => hg.block x (h.lt hx) (by simp)

theorem FlrAt.mono {M : Nat} (h : FlrAt w f b1 b2 b3 b4 N F) (hM : N ≤ M) : FlrAt w f b1 b2 b3 b4 M F := ⟨h.bx, h.m1.mono hM, h.m2.mono hM, h.m3.mono hM, h.m4.mono hM, h.ne, h.jk⟩

theorem FlrAt.s1 (h : FlrAt w f b1 b2 b3 b4 N F) {m : ByteArray → Option Std} {M : Nat} (hM : N ≤ M) (hm : MapOf strT w' b1 M m) (hg : w.grownBy w' (some b1)) (hj : ∀ k y, m k = some y → okK y.job) : FlrAt w' f b1 b2 b3 b4 M ⟨m, F.wh, F.dn, F.fl⟩ :=
  ⟨h.bx.gr hg (by intro e; injection e with e; exact h.ne1 e.symm), hm, (h.m2.kept hg (by intro e; injection e with e; exact h.ne.1 e)).mono hM, (h.m3.kept hg (by intro e; injection e with e; exact h.ne.2.1 e)).mono hM, (h.m4.kept hg (by intro e; injection e with e; exact h.ne.2.2.1 e)).mono hM, h.ne, hj⟩

theorem FlrAt.s2 (h : FlrAt w f b1 b2 b3 b4 N F) {m : ByteArray → Option ByteArray} {M : Nat} (hM : N ≤ M) (hm : MapOf strS w' b2 M m) (hg : w.grownBy w' (some b2)) : FlrAt w' f b1 b2 b3 b4 M ⟨F.at_, m, F.dn, F.fl⟩ :=
  ⟨h.bx.gr hg (by intro e; injection e with e; exact h.ne2 e.symm), (h.m1.kept hg (by intro e; injection e with e; exact h.ne.1 e.symm)).mono hM, hm, (h.m3.kept hg (by intro e; injection e with e; exact h.ne.2.2.2.1 e)).mono hM, (h.m4.kept hg (by intro e; injection e with e; exact h.ne.2.2.2.2.1 e)).mono hM, h.ne, h.jk⟩

theorem FlrAt.s3 (h : FlrAt w f b1 b2 b3 b4 N F) {m : ByteArray → Option Bool} {M : Nat} (hM : N ≤ M) (hm : MapOf strB w' b3 M m) (hg : w.grownBy w' (some b3)) : FlrAt w' f b1 b2 b3 b4 M ⟨F.at_, F.wh, m, F.fl⟩ :=
  ⟨h.bx.gr hg (by intro e; injection e with e; exact h.ne3 e.symm), (h.m1.kept hg (by intro e; injection e with e; exact h.ne.2.1 e.symm)).mono hM, (h.m2.kept hg (by intro e; injection e with e; exact h.ne.2.2.2.1 e.symm)).mono hM, hm, (h.m4.kept hg (by intro e; injection e with e; exact h.ne.2.2.2.2.2 e)).mono hM, h.ne, h.jk⟩

theorem FlrAt.s4 (h : FlrAt w f b1 b2 b3 b4 N F) {m : ByteArray → Option Bool} {M : Nat} (hM : N ≤ M) (hm : MapOf strB w' b4 M m) (hg : w.grownBy w' (some b4)) : FlrAt w' f b1 b2 b3 b4 M ⟨F.at_, F.wh, F.dn, m⟩ :=
  ⟨h.bx.gr hg (by intro e; injection e with e; exact h.ne4 e.symm), (h.m1.kept hg (by intro e; injection e with e; exact h.ne.2.2.1 e.symm)).mono hM, (h.m2.kept hg (by intro e; injection e with e; exact h.ne.2.2.2.2.1 e.symm)).mono hM, (h.m3.kept hg (by intro e; injection e with e; exact h.ne.2.2.2.2.2 e.symm)).mono hM, hm, h.ne, h.jk⟩
end
/-- looks into a map of strings -/
theorem look_T {w : World} {b n : Nat} {m : ByteArray → Option Std} (h : MapOf strT w b n m) {x : ByteArray} (hx : okK x) : (Instr.lookup 128 (.map (some b)) (.string x) false).run Tryz.prog w = .ok (stdV ((m x).getD zeroS)) w :=
  h.look Tryz.underlying128 (zero_stdS w) hx

theorem look_B {w : World} {b n : Nat} {m : ByteArray → Option Bool} (h : MapOf strB w b n m) {x : ByteArray} (hx : okK x) : (Instr.lookup 130 (.map (some b)) (.string x) false).run Tryz.prog w = .ok (.bool ((m x).getD false)) w :=
  h.look Tryz.underlying130 (zero_boolS w) hx

theorem lookOk_S {w : World} {b n : Nat} {m : ByteArray → Option ByteArray} (h : MapOf strS w b n m) {x : ByteArray} (hx : okK x) : (Instr.lookup 129 (.map (some b)) (.string x) true).run Tryz.prog w = .ok (.tuple #[.string ((m x).getD ByteArray.empty), .bool (m x).isSome]) w :=
  h.lookOk Tryz.underlying129 (zero_strS w) hx

theorem store_T {w : World} {b n : Nat} {m : ByteArray → Option Std} (h : MapOf strT w b n m) (hn : n < maxLen) {x : ByteArray} (hx : okK x) (u v : Int) (s t : ByteArray) :
    ∃ w', (Instr.mapUpdate 128 (.map (some b)) (.string x) (.agg #[.int .i64 u, .int .i64 v, .string s, .string t])).run Tryz.prog w = .ok () w' ∧ MapOf strT w' b (n + 1) (updM m x ⟨u, v, s, t⟩) ∧ w.grownBy w' (some b) :=
  h.store (t := 128) Tryz.underlying128 hn hx (y := ⟨u, v, s, t⟩) trivial

theorem store_S {w : World} {b n : Nat} {m : ByteArray → Option ByteArray} (h : MapOf strS w b n m) (hn : n < maxLen) {x : ByteArray} (hx : okK x) (s : ByteArray) :
    ∃ w', (Instr.mapUpdate 129 (.map (some b)) (.string x) (.string s)).run Tryz.prog w = .ok () w' ∧ MapOf strS w' b (n + 1) (updM m x s) ∧ w.grownBy w' (some b) :=
  h.store (t := 129) Tryz.underlying129 hn hx (y := s) trivial

theorem store_B {w : World} {b n : Nat} {m : ByteArray → Option Bool} (h : MapOf strB w b n m) (hn : n < maxLen) {x : ByteArray} (hx : okK x) (s : Bool) :
    ∃ w', (Instr.mapUpdate 130 (.map (some b)) (.string x) (.bool s)).run Tryz.prog w = .ok () w' ∧ MapOf strB w' b (n + 1) (updM m x s) ∧ w.grownBy w' (some b) :=
  h.store (t := 130) Tryz.underlying130 hn hx (y := s) trivial

theorem drop_S {w : World} {b n : Nat} {m : ByteArray → Option ByteArray} (h : MapOf strS w b n m) {x : ByteArray} (hx : okK x) (ty : TypeId) :
    ∃ w', (Builtin.delete_ #[129, 9] ty #[.map (some b), .string x]).run Tryz.prog w = .ok (.tuple #[]) w' ∧ MapOf strS w' b n (delM m x) ∧ w.grownBy w' (some b) :=
  h.drop (t := 129) Tryz.underlying129 hx ty

end Go.Proofs.YtanioobepfllgaaGreatDoor

/- Contracts of functions that this seat's laws reach, each: what one call returns and what it leaves in memory; no condition beyond each theorem's own hypotheses. -/
import Derived.Test.YtbpkkgeedkegcaaGreatDoorZqMeshJ
import Derived.Test.YtbpkkgeedkegcaaGreatDoorZqMapInt
import Derived.Test.YtbpkkgeedkegcaaGreatDoorZqGpLib
import Derived.Test.YtbpkkgeedkegcaaGreatDoorZqFlowA
import Derived.Test.YtbpkkgeedkegcaaGreatDoorZqTree
set_option linter.unusedVariables false
set_option linter.unusedSimpArgs false
namespace Go.Proofs.YtbpkkgeedkegcaaGreatDoor
open Go.RowKit Go.Bl

def pyrV : List V3 := [⟨0, 0, 0⟩, ⟨6, 0, 0⟩, ⟨0, 6, 0⟩, ⟨0, 0, 6⟩]

def pyrF : List Fc := [⟨0, 2, 1⟩, ⟨0, 1, 3⟩, ⟨1, 2, 3⟩, ⟨0, 3, 2⟩]

def partV (vs : List V3) (f : Fc) : Int := dotV (atV vs f.a) (crossV (atV vs f.b) (atV vs f.c))

end Go.Proofs.YtbpkkgeedkegcaaGreatDoor

namespace Go.Proofs.YtbpkkgeedkegcaaGreatDoor
open Go.RowKit Go.Bl

def volK (k : Nat) : Int := ((pyrF.take k).map (partV pyrV)).sum

def pyrAt (k : Nat) : Fc := pyrF.getD k ⟨0, 0, 0⟩

end Go.Proofs.YtbpkkgeedkegcaaGreatDoor

namespace Go.Proofs.YtbpkkgeedkegcaaGreatDoor
open Go.RowKit Go.Bl

def SVec (b : Nat) (N : Int) (w : World) (e : Ending) (w' : World) : Prop := ∃ v : V3, e = .returned (.agg #[.int .i64 v.x, .int .i64 v.y, .int .i64 v.z]) ∧ Bd 1000000000000000 v ∧ SOut b N w w'

set_option maxHeartbeats 2000000 in
theorem aVec_any (b : Nat) (N : Int) (w : World) (hs : Strm w b N) (hN : N ≤ 1000000000) :
    Calls Tryz.prog 78 #[.pointer (some ⟨b, 0, none⟩)] w (SVec b (N + 6) w) := by
  have hbw := hs.lt
  have ho0 : SOut b N w (w.alloc (.cells #[.int .i64 0, .int .i64 0, .int .i64 0] 47)) := (SOut.refl hs).pure (gr_alloc (World.grownBy.refl _ _) _)
  have q0 := Cell.new w [.int .i64 0, .int .i64 0, .int .i64 0] 47 0 _ rfl _ rfl
  have q1 := Cell.new w [.int .i64 0, .int .i64 0, .int .i64 0] 47 1 _ rfl _ rfl
  have q2 := Cell.new w [.int .i64 0, .int .i64 0, .int .i64 0] 47 2 _ rfl _ rfl
  obtain ⟨W, hW⟩ : ∃ W, W = w.alloc (.cells #[.int .i64 0, .int .i64 0, .int .i64 0] 47) := ⟨_, rfl⟩
  simp only [List.toArray] at q0 q1 q2
  rw [← hW] at ho0 q0 q1 q2
  have hWs : W.heap.size = w.heap.size + 1 := by rw [hW]; simp
  have hoW : SOut b N W W := SOut.refl ho0.2
  have hbW : b < W.heap.size := by omega
  have hne : (some b : Option Nat) ≠ some w.heap.size := by simp; omega
  replace hW := hide hW.symm
  replace q0 := hide q0
  replace q1 := hide q1
  replace q2 := hide q2
  have hWt : Hid (w.heap.size + 1 = W.heap.size) := hWs.symm
  replace hWs := hide hWs
  go_enter Tryz.func78, Tryz.ntmps78
  go_wp2_with fail
  rw [hW.out]
  refine (pick_any b (N) _ _ _ [0, 1, 3, -5, 100] _ ((hoW).2.pure (gr_alloc (World.grownBy.refl _ _) _)) (by omega) (sl_intsAt _ _ _ _ _ (by first | rfl | exact hWt.out | simp) (by have := (hoW).lt; omega) (by simp [maxLen])) rfl (by simp)).mono ?_
  rintro e w1 ⟨r1, rfl, hr1, ho1⟩
  have hoA := (hoW.pure (gr_alloc (World.grownBy.refl _ _) _)).trans ho1
  have b1 : Hid (-1000000000000000 ≤ r1 ∧ r1 ≤ 1000000000000000) := by simp at hr1; simp only [Hid]; omega
  clear hr1 ho1
  go_wp2_with fail
  refine (pick_any b (N + 1) _ _ _ [0, 2, -7, 50] _ ((hoA).2.pure (gr_alloc (World.grownBy.refl _ _) _)) (by omega) (sl_intsAt _ _ _ _ _ (by first | rfl | exact hWt.out | simp) (by have := (hoA).lt; omega) (by simp [maxLen])) rfl (by simp)).mono ?_
  rintro e w2 ⟨r2, rfl, hr2, ho2⟩
  have hoB := (hoA.pure (gr_alloc (World.grownBy.refl _ _) _)).trans ho2
  have b2 : Hid (-1000000000000000 ≤ r2 ∧ r2 ≤ 1000000000000000) := by simp at hr2; simp only [Hid]; omega
  clear hr2 ho2
  go_wp2_with fail
  refine (pick_any b (N + 1 + 1) _ _ _ [0, 0, 4, -2, 20] _ ((hoB).2.pure (gr_alloc (World.grownBy.refl _ _) _)) (by omega) (sl_intsAt _ _ _ _ _ (by first | rfl | exact hWt.out | simp) (by have := (hoB).lt; omega) (by simp [maxLen])) rfl (by simp)).mono ?_
  rintro e w3 ⟨r3, rfl, hr3, ho3⟩
  have hoC := (hoB.pure (gr_alloc (World.grownBy.refl _ _) _)).trans ho3
  have b3 : Hid (-1000000000000000 ≤ r3 ∧ r3 ≤ 1000000000000000) := by simp at hr3; simp only [Hid]; omega
  clear hr3 ho3 hoA hoB hoW
  have v0 := Cell.new w3 [.int .i64 r1, .int .i64 r2, .int .i64 r3] 47 0 _ rfl _ rfl
  have v1 := Cell.new w3 [.int .i64 r1, .int .i64 r2, .int .i64 r3] 47 1 _ rfl _ rfl
  have v2 := Cell.new w3 [.int .i64 r1, .int .i64 r2, .int .i64 r3] 47 2 _ rfl _ rfl
  have hbe := hoC.1.size
  have hne3 : (some b : Option Nat) ≠ some w3.heap.size := by simp; omega
  go_wp2_with fail
  refine (flip_any b (N + 1 + 1 + 1) _ _ (hoC.2.pure (gr_alloc (World.grownBy.refl _ _) _)) (by omega) (by omega)).mono ?_
  rintro e w4 ⟨r4, rfl, ho4⟩
  have hoD := (hoC.pure (gr_alloc (World.grownBy.refl _ _) _)).trans ho4
  obtain ⟨d0, f0⟩ := v0.gr ho4.1 hne3
  obtain ⟨d1, f1⟩ := v1.gr ho4.1 hne3
  obtain ⟨d2, f2⟩ := v2.gr ho4.1 hne3
  cases r4 with
  | false =>
    obtain ⟨c0, g0⟩ := q0.out.gr hoD.1 hne
    obtain ⟨c1, g1⟩ := q1.out.gr hoD.1 hne
    obtain ⟨c2, g2⟩ := q2.out.gr hoD.1 hne
    clear hoC ho4
    go_wp2_with fail
    exact bodyPost_ret (v := .agg #[.int .i64 r1, .int .i64 r2, .int .i64 r3]) (by simp [results, Tryz.results78, go_sem, c0, g0, c1, g1, c2, g2]) rfl ⟨⟨r1, r2, r3⟩, rfl, ⟨b1.out, b2.out, b3.out⟩, (((ho0.trans hoD).mono (by omega)).set hbw (Nat.le_refl _) _ |>.set hbw (Nat.le_refl _) _).set hbw (Nat.le_refl _) _⟩
  | true =>
    go_wp2_with fail
    refine (odd_any b (N + 1 + 1 + 1 + 1) _ _ _ hoD.2 (by omega) (by omega) (by omega) (by omega)).mono ?_
    rintro e w5 ⟨r5, rfl, hr5, ho5⟩
    have hoE := hoD.trans ho5
    obtain ⟨d0, f0⟩ := (v0.gr ho4.1 hne3).gr ho5.1 hne3
    obtain ⟨d1, f1⟩ := (v1.gr ho4.1 hne3).gr ho5.1 hne3
    obtain ⟨d2, f2⟩ := (v2.gr ho4.1 hne3).gr ho5.1 hne3
    obtain ⟨c0, g0⟩ := q0.out.gr hoE.1 hne
    obtain ⟨c1, g1⟩ := q1.out.gr hoE.1 hne
    obtain ⟨c2, g2⟩ := q2.out.gr hoE.1 hne
    have hne5 : w3.heap.size ≠ w.heap.size := by have := hWt.out; omega
    have hne6 : w.heap.size ≠ w3.heap.size := by omega
    have hle : w.heap.size ≤ w3.heap.size := by have := hWt.out; omega
    clear hoC ho4 hoD ho5
    replace hr5 := hide hr5
    go_wp2_with fail
    exact bodyPost_ret (v := .agg #[.int .i64 r5, .int .i64 r2, .int .i64 r3]) (by simp [results, Tryz.results78, go_sem, c0, g0, c1, g1, c2, g2, hne5, hne6]) rfl ⟨⟨r5, r2, r3⟩, rfl, ⟨hr5.out, b2.out, b3.out⟩, ((((ho0.trans hoE).mono (by omega)).set hbw hle _ |>.set hbw (Nat.le_refl _) _).set hbw (Nat.le_refl _) _).set hbw (Nat.le_refl _) _⟩

end Go.Proofs.YtbpkkgeedkegcaaGreatDoor

namespace Go.Proofs.YtbpkkgeedkegcaaGreatDoor
open Go.RowKit Go.Bl

theorem own_litAt {α : Type} [Enc α] [Flat α] (w : World) (lo : Nat) (cs : List Value) (t : TypeId) (l : List α) (g : Nat) (hg : g = w.heap.size) (hlo : lo ≤ w.heap.size) (hm : l.length ≤ maxLen) (hr : Row w lo l cs) :
    Own (w.alloc (.cells cs.toArray t)) lo t (some ⟨g, 0, none⟩) l.length l := by
  subst hg
  have hlen := hr.len
  exact ⟨hm, cs, hr.flat, hlen, .inr ⟨w.heap.size, l.length, cs.toArray, rfl, hlo, heap_alloc_new w _, Nat.le_refl _, hm, by simpa using hlen, by rw [← hlen]; simp⟩⟩

/-- a mesh under construction: two slices of one's own in two blocks -/
def MOwn (w : World) (lo : Nat) (A : Option Addr) (c : Nat) (vs : List V3) (B : Option Addr) (d : Nat) (fs : List Fc) : Prop :=
  Own w lo 47 A c vs ∧ Own w lo 54 B d fs ∧ ∀ g, blk A = some g → blk B ≠ some g

def FB (f : Fc) : Prop := (0 ≤ f.a ∧ f.a ≤ 7) ∧ (0 ≤ f.b ∧ f.b ≤ 7) ∧ 0 ≤ f.c ∧ f.c ≤ 7

instance (f : Fc) : Decidable (FB f) := by unfold FB; infer_instance

def SMesh0 (w : World) (nv nf : Nat) (e : Ending) (w' : World) : Prop := ∃ A c vs B d fs, e = .returned (.agg #[.slice A vs.length c, .slice B fs.length d]) ∧ vs.length = nv ∧ fs.length = nf ∧ MOwn w' w.heap.size A c vs B d fs ∧ (∀ f ∈ fs, inF nv f = true) ∧ w.grownBy w' none

theorem MOwn.gr {w w' : World} {lo : Nat} {A : Option Addr} {c : Nat} {vs : List V3} {B : Option Addr} {d : Nat} {fs : List Fc} (h : MOwn w lo A c vs B d fs) (hg : w.grownBy w' none) : MOwn w' lo A c vs B d fs := ⟨h.1.pure hg, h.2.1.pure hg, h.2.2⟩

set_option maxHeartbeats 2000000 in
set_option maxRecDepth 100000 in
theorem tetra_any (v : V3) (n : Int) (w : World) (hv : Bd 1000000000000000 v) (hn : 0 ≤ n ∧ n ≤ 1000) :
    Calls Tryz.prog 27 #[.agg #[.int .i64 v.x, .int .i64 v.y, .int .i64 v.z], .int .i64 n] w (SMesh0 w 4 4) := by
  obtain ⟨⟨v1, v2⟩, ⟨v3, v4⟩, v5, v6⟩ := hv
  go_enter Tryz.func27, Tryz.ntmps27
  go_wp2_with fail
  refine bodyPost_ret (v := .agg #[.slice (some (⟨w.heap.size + 1 + 1, 0, none⟩ : Addr)) 4 4, .slice (some (⟨w.heap.size + 1 + 1 + 1, 0, none⟩ : Addr)) 4 4]) (by simp [results, Tryz.results27, go_sem]) rfl ⟨_, _, [v, ⟨v.x + n, v.y, v.z⟩, ⟨v.x, v.y + n, v.z⟩, ⟨v.x, v.y, v.z + n⟩], _, _, pyrF, rfl, rfl, rfl, ⟨?_, ?_, ?_⟩, by decide, (by repeat (first | exact World.grownBy.refl _ _ | assumption | refine gr_alloc ?_ _ | (apply gr_tail; assumption) | refine gr_drewN ?_ _ | refine gr_drew ?_))⟩
  · exact (own_litAt _ _ _ 47 [v, ⟨v.x + n, v.y, v.z⟩, ⟨v.x, v.y + n, v.z⟩, ⟨v.x, v.y, v.z + n⟩] _ (by simp) (by simp; omega) (by simp [maxLen]) ⟨_, _, rfl, rfl, _, _, rfl, rfl, _, _, rfl, rfl, _, _, rfl, rfl, rfl⟩).pure (gr_alloc (World.grownBy.refl _ _) _)
  · exact own_litAt _ _ _ 54 pyrF _ (by simp) (by simp; omega) (by simp [pyrF, maxLen]) ⟨_, _, rfl, rfl, _, _, rfl, rfl, _, _, rfl, rfl, _, _, rfl, rfl, rfl⟩
  · intro g hg h2
    simp only [blk, Option.map_some, Option.some.injEq] at hg h2
    omega

end Go.Proofs.YtbpkkgeedkegcaaGreatDoor

namespace Go.Proofs.YtbpkkgeedkegcaaGreatDoor
open Go.RowKit Go.Bl

theorem _root_.Go.Bl.Cell.grew {α : Type} [Enc α] {w w' : World} {g o lo : Nat} {v : Value} {B B' : Option Addr} {e : TypeId} {c : Nat} {l : List α} (h : Cell w g o v) (hG : Grew B B' w w') (hb : Own w lo e B c l) (hlt : g < lo) : Cell w' g o v :=
  h.gr hG.1 (fun e => by have := hb.blk_lt e; omega)

theorem _root_.Go.Bl.Grew.row {α : Type} [Enc α] {w w1 w2 : World} {lo : Nat} {r : Option Nat} {B B' : Option Addr} {e : TypeId} {c : Nat} {l : List α} (hG : Grew B B' w1 w2) (hb : Own w1 lo e B c l) (h : w.grownBy w1 r) (hlo : w.heap.size ≤ lo) : w.grownBy w2 r :=
  gr_row h hG.1 (fun g e => by have := hb.blk_lt e; omega)

theorem FB_in {f : Fc} (h : FB f) : inF 8 f = true := by
  unfold FB at h
  simp [inF, inI]
  omega

def quadL : List Int := [0, 2, 3, 1, 4, 5, 7, 6, 0, 1, 5, 4, 2, 6, 7, 3, 0, 4, 6, 2, 1, 3, 7, 5]

theorem quad_at : ∀ j, j < 6 → ∃ a b c d : Int, quadL[j * 4]? = some a ∧ quadL[j * 4 + 1]? = some b ∧ quadL[j * 4 + 2]? = some c ∧ quadL[j * 4 + 3]? = some d ∧ FB ⟨a, b, c⟩ ∧ FB ⟨a, c, d⟩ := by
  intro j hj
  have : j = 0 ∨ j = 1 ∨ j = 2 ∨ j = 3 ∨ j = 4 ∨ j = 5 := by omega
  rcases this with rfl | rfl | rfl | rfl | rfl | rfl <;> exact ⟨_, _, _, _, rfl, rfl, rfl, rfl, by decide, by decide⟩

theorem quad_cell (w : World) (t : TypeId) (n : Nat) (a : Int) (h : quadL[n]? = some a) : Cell (w.alloc (.cells (quadL.map (Value.int .i64)).toArray t)) w.heap.size n (.int .i64 a) :=
  Cell.new w _ t n _ (by rw [List.getElem?_map, h]; rfl) _ rfl

set_option maxHeartbeats 4000000 in
set_option maxRecDepth 100000 in
theorem block_any (v : V3) (x y z : Int) (w : World) :
    Calls Tryz.prog 81 #[.agg #[.int .i64 v.x, .int .i64 v.y, .int .i64 v.z], .int .i64 x, .int .i64 y, .int .i64 z] w (SMesh0 w 8 12) := by
  obtain ⟨W, hW⟩ : ∃ W, W = ((w.alloc (.cells #[.int .i64 v.x, .int .i64 v.y, .int .i64 v.z] 47)).alloc (.cells #[.slice none 0 0, .slice none 0 0] 29)).alloc (.cells #[.slice none 0 0, .slice none 0 0] 29) := ⟨_, rfl⟩
  have hg0 : w.grownBy W none := by rw [hW]; exact (by repeat (first | exact World.grownBy.refl _ _ | assumption | refine gr_alloc ?_ _ | (apply gr_tail; assumption) | refine gr_drewN ?_ _ | refine gr_drew ?_))
  have hWs : W.heap.size = w.heap.size + 1 + 1 + 1 := by rw [hW]; simp
  have b0 : Cell W w.heap.size 0 (.int .i64 v.x) := by rw [hW]; exact ⟨by go_simp, by go_simp⟩
  have b1 : Cell W w.heap.size 1 (.int .i64 v.y) := by rw [hW]; exact ⟨by go_simp, by go_simp⟩
  have b2 : Cell W w.heap.size 2 (.int .i64 v.z) := by rw [hW]; exact ⟨by go_simp, by go_simp⟩
  have r0 : Cell W (w.heap.size + 1) 0 (.slice none 0 0) := by rw [hW]; exact ⟨by go_simp, by go_simp⟩
  have r1 : Cell W (w.heap.size + 1) 1 (.slice none 0 0) := by rw [hW]; exact ⟨by go_simp, by go_simp⟩
  have m0 : Cell W (w.heap.size + 1 + 1) 0 (.slice none 0 0) := by rw [hW]; exact ⟨by go_simp, by go_simp⟩
  have m1 : Cell W (w.heap.size + 1 + 1) 1 (.slice none 0 0) := by rw [hW]; exact ⟨by go_simp, by go_simp⟩
  replace hW := hide hW.symm
  replace hWs := hide hWs
  replace b0 := hide b0
  replace b1 := hide b1
  replace b2 := hide b2
  replace r0 := hide r0
  replace r1 := hide r1
  go_enter Tryz.func81, Tryz.ntmps81
  go_wp2_with fail
  rw [hW.out]
  go_loopw [13] (fun i wr => ∃ (k : Nat) (vs : List V3) (A : Option Addr) (c : Nat), k ≤ 8 ∧ i = .int .i64 k ∧ Hid (vs.length = k) ∧ Own wr W.heap.size 47 A c vs ∧ Cell wr (w.heap.size + 1 + 1) 0 (.slice A vs.length c) ∧ Cell wr (w.heap.size + 1 + 1) 1 (.slice none 0 0) ∧ W.grownBy wr (some (w.heap.size + 1 + 1))) (fun i _ => 8 - (intOf i).toNat)
  case atStart => exact ⟨0, [], none, 0, by omega, rfl, rfl, Own.nil _ _ _, m0, m1, World.grownBy.refl _ _⟩
  case round =>
    obtain ⟨k, vs, A, c, hk, rfl, hvl, hown, c0, c1, hg⟩ := hrel
    obtain ⟨c0, f0⟩ := c0
    obtain ⟨c1, f1⟩ := c1
    by_cases hlt : k < 8
    · obtain ⟨d0, _⟩ := b0.out.gr hg (fun e => by injection e with e; omega)
      obtain ⟨d1, _⟩ := b1.out.gr hg (fun e => by injection e with e; omega)
      obtain ⟨d2, _⟩ := b2.out.gr hg (fun e => by injection e with e; omega)
      have hsz := hg.size
      have hvl' : vs.length ≤ 8 := by have := hvl.out; omega
      go_wp2_with (at_builtin; obtain ⟨i0, hi, hz, h1, h2⟩ := info_parts info_v3; refine wpList_pushAt (α := V3) _ rfl (.tmp 17) (.tmp 41) _ rfl W.heap.size 47 i0 _ 24 Tryz.underlying26 hi hz h1 h2 rfl _ _ _ vs rfl ?c1 (by exact (hown.pure (gr_alloc (World.grownBy.refl _ _) _))) 0 ⟨_, 0, none⟩ 1 1 [⟨_, _, _⟩] rfl rfl (by exact (sl_oneAt _ 0 _ _ _ _ (by first | rfl | simp) (Nat.zero_le _) rfl)) ?c2 ?c3 ?c4 ?_)
      case c1 => rfl
      case c2 => first | omega | (simp; omega)
      case c3 => first | (simp [maxLen]; omega) | (unfold maxLen; omega)
      case c4 => first | omega | (simp; omega)
      intro A5 c5 w5 hown5 hG5
      have hga := gr_alloc hg
      clear d0 d1 d2
      obtain ⟨c0, f0⟩ := (Cell.gr ⟨c0, f0⟩ (gr_alloc (World.grownBy.refl wr none) _) (by simp)).grew hG5 (hown.pure (gr_alloc (World.grownBy.refl wr none) _)) (by have := hWs.out; omega)
      obtain ⟨c1, f1⟩ := (Cell.gr ⟨c1, f1⟩ (gr_alloc (World.grownBy.refl wr none) _) (by simp)).grew hG5 (hown.pure (gr_alloc (World.grownBy.refl wr none) _)) (by have := hWs.out; omega)
      have hg5 := hG5.row (hown.pure (gr_alloc (World.grownBy.refl wr none) _)) (gr_alloc hg _) (Nat.le_refl _)
      go_wp2_with fail
      have hgs := gr_set (World.grownBy.refl w5 (some (w.heap.size + 1 + 1))) (p := ⟨w.heap.size + 1 + 1, 0, none⟩) (.inl rfl) (.slice A5 (vs.length + 1) c5)
      (go_roundw; (case rel => exact ⟨k + 1, _, A5, c5, by omega, by go_num, by have := hvl.out; simp [Hid, this], hown5.ne hgs (fun g e1 e2 => by have := (hown5.blk_lt e1).1; have := hWs.out; injection e2; omega), by have := Cell.set_ ⟨c0, f0⟩ (.slice A5 (vs.length + 1) c5); simpa using this, Cell.set_ne ⟨c1, f1⟩ _ (by decide), gr_trans hg5 hgs⟩); (case measure => simp [intOf]; omega))
    · have hk8 : k = 8 := by omega
      subst hk8
      rw [show ((8 : Nat) : Int) = (8 : Int) from rfl]
      obtain ⟨d0, _⟩ := b0.out.gr hg (fun e => by injection e with e; omega)
      go_wp2_with fail
      obtain ⟨wp, rfl⟩ : ∃ x, x = wr := ⟨wr, rfl⟩
      obtain ⟨Wb, hWb⟩ : ∃ Wb, Wb = wp.alloc (.cells (quadL.map (Value.int .i64)).toArray 148) := ⟨_, rfl⟩
      have hQ := quad_cell wp 148
      rw [← hWb] at hQ
      have hga : wp.grownBy Wb none := by rw [hWb]; exact gr_alloc (World.grownBy.refl _ _) _
      have hWbs : Wb.heap.size = wp.heap.size + 1 := by rw [hWb]; simp
      have e0 := Cell.gr ⟨c0, f0⟩ hga (by simp)
      have e1 := Cell.gr ⟨c1, f1⟩ hga (by simp)
      have hAlt : ∀ g, blk A = some g → W.heap.size ≤ g ∧ g < wp.heap.size := fun g e => hown.blk_lt e
      have hown := hown.pure hga
      replace hQ := hide hQ
      simp only [quadL, List.map_cons, List.map_nil] at hWb
      replace hWb := hide hWb.symm
      have hgW := hg
      replace hg := gr_step hg hga
      replace hAlt := hide hAlt
      replace hWbs := hide hWbs
      have hmb := c0
      clear c0 f0 c1 f1 d0 hga
      rw [hWb.out]
      have hmlt : w.heap.size + 1 + 1 < wp.heap.size := cell_lt hmb
      clear hmb
      go_loopw [53] (fun i wr => ∃ (j : Nat) (fs : List Fc) (B : Option Addr) (d : Nat), j ≤ 6 ∧ i = .int .i64 j ∧ Hid (fs.length = 2 * j) ∧ Own wr Wb.heap.size 54 B d fs ∧ Cell wr (w.heap.size + 1 + 1) 0 (.slice A vs.length c) ∧ Cell wr (w.heap.size + 1 + 1) 1 (.slice B fs.length d) ∧ Hid (∀ f ∈ fs, FB f) ∧ Wb.grownBy wr (some (w.heap.size + 1 + 1))) (fun i _ => 6 - (intOf i).toNat)
      case atStart => exact ⟨0, [], none, 0, by omega, rfl, rfl, Own.nil _ _ _, e0, e1, by intro f hf; simp at hf, World.grownBy.refl _ _⟩
      case round =>
        obtain ⟨j, fs, B, d, hj, rfl, hfl, hownB, c0, c1, hFB, hgq⟩ := hrel
        by_cases hlj : j < 6
        · obtain ⟨q0, q1, q2, q3, x0, x1, x2, x3, y0, y1⟩ := quad_at j hlj
          have x0 := ((hQ.out _ _ x0).gr hgq (fun e => by injection e with e; omega)).1
          have x1 := ((hQ.out _ _ x1).gr hgq (fun e => by injection e with e; omega)).1
          have x2 := ((hQ.out _ _ x2).gr hgq (fun e => by injection e with e; omega)).1
          have x3 := ((hQ.out _ _ x3).gr hgq (fun e => by injection e with e; omega)).1
          have hlq : wp.heap.size < wr.heap.size := cell_lt x0
          have hmq : w.heap.size + 1 + 1 < wr.heap.size := by omega
          replace y0 := hide y0
          replace y1 := hide y1
          obtain ⟨c0, f0⟩ := c0
          obtain ⟨c1, f1⟩ := c1
          have hsz := hgq.size
          have hfl' : fs.length ≤ 12 := by have := hfl.out; omega
          go_wp2_with (at_builtin; obtain ⟨i0, hi, hz, h1, h2⟩ := info_parts info_face; refine wpList_pushAt (α := Fc) _ rfl (.tmp 58) (.tmp 73) _ rfl Wb.heap.size 54 i0 _ 24 Tryz.underlying27 hi hz h1 h2 rfl _ _ _ fs rfl ?c1 (by exact (hownB.pure (by repeat (first | exact World.grownBy.refl _ _ | assumption | refine gr_alloc ?_ _ | refine gr_drewN ?_ _ | refine gr_drew ?_)))) 0 ⟨_, 0, none⟩ 2 2 [⟨q0, q1, q2⟩, ⟨q0, q2, q3⟩] rfl rfl (by exact (sl_litAt _ 0 _ _ _ _ (by first | rfl | simp) (Nat.zero_le _) (by simp [maxLen]) ⟨_, _, rfl, rfl, _, _, rfl, rfl, rfl⟩)) ?c2 ?c3 ?c4 ?_)
          case c1 => rfl
          case c2 => first | omega | (simp; omega)
          case c3 => first | (simp [maxLen]; omega) | (unfold maxLen; omega)
          case c4 => first | omega | (simp; omega)
          intro A5 c5 w5 hown5 hG5
          have hgm := gr_alloc (gr_alloc (World.grownBy.refl wr none) (.cells #[.int .i64 q0, .int .i64 q1, .int .i64 q2, .int .i64 q3] 148)) (.cells #[.int .i64 q0, .int .i64 q1, .int .i64 q2, .int .i64 q0, .int .i64 q2, .int .i64 q3] 54)
          have hmlo : w.heap.size + 1 + 1 < Wb.heap.size := by have := hWbs.out; omega
          clear x0 x1 x2 x3
          obtain ⟨c0, f0⟩ := (Cell.gr ⟨c0, f0⟩ hgm (by simp)).grew hG5 (hownB.pure hgm) hmlo
          obtain ⟨c1, f1⟩ := (Cell.gr ⟨c1, f1⟩ hgm (by simp)).grew hG5 (hownB.pure hgm) hmlo
          have hg5 := hG5.row (hownB.pure hgm) (gr_step hgq hgm) (Nat.le_refl _)
          have hF5 : Hid (∀ f ∈ fs ++ [⟨q0, q1, q2⟩, ⟨q0, q2, q3⟩], FB f) := by
            intro f hf
            rcases List.mem_append.1 hf with hf | hf
            · exact hFB.out f hf
            · simp only [List.mem_cons, List.not_mem_nil, or_false] at hf
              rcases hf with rfl | rfl
              · exact y0.out
              · exact y1.out
          go_wp2_with fail
          have hgs := gr_set (World.grownBy.refl w5 (some (w.heap.size + 1 + 1))) (p := ⟨w.heap.size + 1 + 1, 1, none⟩) (.inl rfl) (.slice A5 (fs.length + 2) c5)
          (go_roundw; (case rel => exact ⟨j + 1, _, A5, c5, by omega, by go_num, by have := hfl.out; simp [Hid, this]; omega, hown5.ne hgs (fun g e1 e2 => by have := (hown5.blk_lt e1).1; injection e2; omega), Cell.set_ne ⟨c0, f0⟩ _ (by decide), by have := Cell.set_ ⟨c1, f1⟩ (.slice A5 (fs.length + 2) c5); simpa using this, hF5, gr_trans hg5 hgs⟩); (case measure => simp [intOf]; omega))
        · have hj6 : j = 6 := by omega
          subst hj6
          have hgr := gr_trans hg hgq
          obtain ⟨c0, f0⟩ := c0
          obtain ⟨c1, f1⟩ := c1
          obtain ⟨x0, y0⟩ := r0.out.gr hgr (fun e => by injection e with e; omega)
          obtain ⟨x1, y1⟩ := r1.out.gr hgr (fun e => by injection e with e; omega)
          have hne : ¬ w.heap.size + 1 + 1 = w.heap.size + 1 := by omega
          have hne2 : ¬ w.heap.size + 1 = w.heap.size + 1 + 1 := by omega
          go_wp2_with fail
          have hWs' := hWs.out
          have hWbs' := hWbs.out
          have hgs := fun (u : World) (v1 v2 : Value) => gr_set (gr_set (World.grownBy.refl u (some (w.heap.size + 1))) (p := ⟨w.heap.size + 1, 0, none⟩) (.inl rfl) v1) (p := ⟨w.heap.size + 1, 1, none⟩) (.inl rfl) v2
          refine bodyPost_ret (v := .agg #[.slice A vs.length c, .slice B fs.length d]) (by simp [results, Tryz.results81, go_sem, x0, x1, y0, y1]) rfl ⟨A, c, vs, B, d, fs, rfl, hvl.out, hfl.out, ⟨?_, ?_, ?_⟩, fun f hf => FB_in (hFB.out f hf), ?_⟩
          · exact (((hown.ne hgq (fun g e e2 => by have := hAlt.out g e; injection e2; omega)).ne (hgs _ _ _) (fun g e e2 => by have := hAlt.out g e; injection e2; omega))).lower (by omega)
          · exact (hownB.ne (hgs _ _ _) (fun g e e2 => by have := (hownB.blk_lt e).1; injection e2; omega)).lower (by omega)
          · intro g e e2
            have := hAlt.out g e
            have := (hownB.blk_lt e2).1
            omega
          · exact gr_set (gr_set (gr_row hg0 hgr (fun g e => by injection e; omega)) (.inr (by simp)) _) (.inr (by simp)) _

end Go.Proofs.YtbpkkgeedkegcaaGreatDoor

namespace Go.Proofs.YtbpkkgeedkegcaaGreatDoor
open Go.RowKit Go.Bl

set_option maxHeartbeats 400000 in
theorem cloneV3_any (A : Option Addr) (c : Nat) (l : List V3) (w : World) (hl : Sl w 0 A l) (hlen : l.length ≤ 1000000) :
    Calls Tryz.prog 18 #[.slice A l.length c] w fun e w' => ∃ A' c', e = .returned (.slice A' l.length c') ∧ Own w' w.heap.size 47 A' c' l ∧ w.grownBy w' none := by
  obtain ⟨i0, hi, hz, h1, h2⟩ := info_parts info_v3
  have hq := fun W => Lib.run_eql_slice_nil (P := Tryz.prog) W 26 47 A l.length c 0 0 Tryz.underlying26
  rcases A with _ | ad
  · have hl0 : l = [] := by
      rcases Nat.eq_zero_or_pos l.length with h | h
      · exact List.eq_nil_of_length_eq_zero h
      · obtain ⟨g, o, cx, e, _⟩ := hl.at_ (by decide) h
        cases e
    subst hl0
    simp only [List.length_nil] at hq
    go_enter Tryz.func18, Tryz.ntmps18
    go_wp2_with fail
    go_ret
    exact ⟨none, 0, rfl, Own.nil _ _ _, World.grownBy.refl _ _⟩
  · go_enter Tryz.func18, Tryz.ntmps18
    go_wp2_with (at_builtin; refine wpList_push _ rfl (.tmp 5) (.tmp 6) _ rfl w.heap.size 47 i0 _ 24 Tryz.underlying26 hi hz h1 h2 rfl _ _ _ [] rfl rfl (by exact Own.empty _ _ _ (Nat.le_refl _)) 0 ad _ c l rfl rfl (by exact hl.pure (gr_alloc (World.grownBy.refl _ _) _)) ?c2 ?c3 ?c4 ?_)
    case c2 => simp; omega
    case c3 => simp [maxLen]; omega
    case c4 => simp
    intro A2 c2 w2 hown hup
    go_wp2
    go_ret
    exact ⟨A2, c2, rfl, hown, hup.gr (Nat.le_refl _) (gr_alloc (World.grownBy.refl _ _) _)⟩

set_option maxHeartbeats 400000 in
theorem cloneFc_any (A : Option Addr) (c : Nat) (l : List Fc) (w : World) (hl : Sl w 0 A l) (hlen : l.length ≤ 1000000) :
    Calls Tryz.prog 19 #[.slice A l.length c] w fun e w' => ∃ A' c', e = .returned (.slice A' l.length c') ∧ Own w' w.heap.size 54 A' c' l ∧ w.grownBy w' none := by
  obtain ⟨i0, hi, hz, h1, h2⟩ := info_parts info_face
  have hq := fun W => Lib.run_eql_slice_nil (P := Tryz.prog) W 27 54 A l.length c 0 0 Tryz.underlying27
  rcases A with _ | ad
  · have hl0 : l = [] := by
      rcases Nat.eq_zero_or_pos l.length with h | h
      · exact List.eq_nil_of_length_eq_zero h
      · obtain ⟨g, o, cx, e, _⟩ := hl.at_ (by decide) h
        cases e
    subst hl0
    simp only [List.length_nil] at hq
    go_enter Tryz.func19, Tryz.ntmps19
    go_wp2_with fail
    go_ret
    exact ⟨none, 0, rfl, Own.nil _ _ _, World.grownBy.refl _ _⟩
  · go_enter Tryz.func19, Tryz.ntmps19
    go_wp2_with (at_builtin; refine wpList_push _ rfl (.tmp 5) (.tmp 6) _ rfl w.heap.size 54 i0 _ 24 Tryz.underlying27 hi hz h1 h2 rfl _ _ _ [] rfl rfl (by exact Own.empty _ _ _ (Nat.le_refl _)) 0 ad _ c l rfl rfl (by exact hl.pure (gr_alloc (World.grownBy.refl _ _) _)) ?c2 ?c3 ?c4 ?_)
    case c2 => simp; omega
    case c3 => simp [maxLen]; omega
    case c4 => simp
    intro A2 c2 w2 hown hup
    go_wp2
    go_ret
    exact ⟨A2, c2, rfl, hown, hup.gr (Nat.le_refl _) (gr_alloc (World.grownBy.refl _ _) _)⟩

theorem v3_ext {a b : V3} (h1 : a.x = b.x) (h2 : a.y = b.y) (h3 : a.z = b.z) : a = b := by cases a; cases b; simp_all

theorem fc_ext {a b : Fc} (h1 : a.a = b.a) (h2 : a.b = b.b) (h3 : a.c = b.c) : a = b := by cases a; cases b; simp_all

set_option maxHeartbeats 1600000 in
theorem equalV3_any (A : Option Addr) (c : Nat) (l : List V3) (B : Option Addr) (d : Nat) (m : List V3) (w : World) (hl : Sl w 0 A l) (hm : Sl w 0 B m) :
    Calls Tryz.prog 47 #[.slice A l.length c, .slice B m.length d] w fun e w' => e = .returned (.bool (eqB l m)) ∧ w.grownBy w' none := by
  have hm1 := hl.1
  have hm2 := hm.1
  unfold maxLen at hm1 hm2
  by_cases hlen : l.length = m.length
  · have hb : (l.length != m.length) = false := by simp [hlen]
    have hb2 : ((l.length : Int) != m.length) = false := by simp [hlen]
    replace hlen := hide hlen
    go_enter Tryz.func47, Tryz.ntmps47
    go_wp2
    go_loopw [13] (fun i wr => ∃ k : Nat, k ≤ l.length ∧ i = .int .i64 k ∧ w.grownBy wr none ∧ Hid (l.take k = m.take k)) (fun i _ => l.length - (intOf i).toNat)
    case atStart => exact ⟨0, Nat.zero_le _, rfl, World.grownBy.refl _ _, rfl⟩
    case round =>
      obtain ⟨k, hk, rfl, hg, hq⟩ := hrel
      by_cases hlt : k < l.length
      · have hlt2 : k < m.length := by rw [← hlen.out]; exact hlt
        obtain ⟨g, o, cx, rfl, hb0, hb1, rfl, hc⟩ := (hl.pure hg).at_ (by decide) hlt
        have c0 : wr.cell? ⟨g, o + k * 3, none⟩ = some (.int .i64 l[k].x) := hc 0 _ rfl
        have c1 : wr.cell? ⟨g, o + k * 3 + 1, none⟩ = some (.int .i64 l[k].y) := hc 1 _ rfl
        have c2 : wr.cell? ⟨g, o + k * 3 + 2, none⟩ = some (.int .i64 l[k].z) := hc 2 _ rfl
        clear hc
        obtain ⟨g', o', cx, rfl, hb0', hb1', rfl, hc⟩ := (hm.pure hg).at_ (by decide) hlt2
        have c0' : wr.cell? ⟨g', o' + k * 3, none⟩ = some (.int .i64 m[k].x) := hc 0 _ rfl
        have c1' : wr.cell? ⟨g', o' + k * 3 + 1, none⟩ = some (.int .i64 m[k].y) := hc 1 _ rfl
        have c2' : wr.cell? ⟨g', o' + k * 3 + 2, none⟩ = some (.int .i64 m[k].z) := hc 2 _ rfl
        clear hc
        have HS : Hid (l[k] = m[k] → l.take (k + 1) = m.take (k + 1)) := fun h => by rw [take_snoc hlt, take_snoc hlt2, hq.out, h]
        have HN : Hid (l[k] ≠ m[k] → eqB l m = false) := fun h => eqB_ne hlt hlt2 h
        go_wp2_with fail
        refine wp_region_fix 8 ((fun wx => wr.grownBy wx none)) (by kernel_rfl) (by kernel_rfl) (gr_drew (World.grownBy.refl _ _)) ?_
        simp only [List.take_succ_cons, List.take_zero, List.drop_succ_cons, List.drop_zero]
        iterate 3 ((refine fix_b (fun K hK => ?_); apply Exists.intro; refine ⟨fun wx hC K' hK' => ?_, ?_⟩; (focus (replace hK' := hide hK'; skip; go_wp2_with fail; exact hK'.out _ hC)); go_simp; refine hK _ ?_; clear hK K))
        (refine fix_b (fun K hK => ?_); apply Exists.intro; refine ⟨fun wx hC K' hK' => ?_, ?_⟩; (focus (replace hK' := hide hK'; (have b0 := hC.k c0; have b1 := hC.k c1; have b2 := hC.k c2); go_wp2_with fail; exact hK'.out _ hC)); go_simp; refine hK _ ?_; clear hK K)
        iterate 3 ((refine fix_b (fun K hK => ?_); apply Exists.intro; refine ⟨fun wx hC K' hK' => ?_, ?_⟩; (focus (replace hK' := hide hK'; skip; go_wp2_with fail; exact hK'.out _ hC)); go_simp; refine hK _ ?_; clear hK K))
        (refine fix_b (fun K hK => ?_); apply Exists.intro; refine ⟨fun wx hC K' hK' => ?_, ?_⟩; (focus (replace hK' := hide hK'; (have b0 := hC.k c0'; have b1 := hC.k c1'; have b2 := hC.k c2'); go_wp2_with fail; exact hK'.out _ hC)); go_simp; refine hK _ ?_; clear hK K)
        refine fix_nil ?_
        intro wz hC
        go_wp2_with fail
        all_goals first
          | (go_ret; exact ⟨ret_bool (HN.out (fun h => by simp_all)).symm, (by repeat (first | exact World.grownBy.refl _ _ | assumption | refine gr_alloc ?_ _ | (apply gr_tail; assumption) | refine gr_drewN ?_ _ | refine gr_drew ?_))⟩)
          | (go_roundw; (case rel => exact ⟨k + 1, by omega, by go_num, (by repeat (first | exact World.grownBy.refl _ _ | assumption | refine gr_alloc ?_ _ | (apply gr_tail; assumption) | refine gr_drewN ?_ _ | refine gr_drew ?_)), HS.out (v3_ext ‹_› ‹_› ‹_›)⟩); (case measure => simp [intOf]; omega))
          | (go_roundw; (case rel => exact ⟨k + 1, by omega, by go_num, (by repeat (first | exact World.grownBy.refl _ _ | assumption | refine gr_alloc ?_ _ | (apply gr_tail; assumption) | refine gr_drewN ?_ _ | refine gr_drew ?_)), HS.out (by apply v3_ext <;> simp_all)⟩); (case measure => simp [intOf]; omega))
      · have HB : Hid (eqB l m = true) := eqB_all hlen.out (by have := hq.out; rwa [show k = l.length by omega] at this)
        go_wp2
        go_ret
        exact ⟨ret_bool HB.out.symm, hg⟩
  · have hb : (l.length != m.length) = true := by simp [hlen]
    have hb2 : ((l.length : Int) != m.length) = true := by simp; omega
    have HB := hide (eqB_len hlen)
    clear hlen
    go_enter Tryz.func47, Tryz.ntmps47
    go_wp2
    go_ret
    exact ⟨ret_bool HB.out.symm, World.grownBy.refl _ _⟩

set_option maxHeartbeats 1600000 in
theorem equalFc_any (A : Option Addr) (c : Nat) (l : List Fc) (B : Option Addr) (d : Nat) (m : List Fc) (w : World) (hl : Sl w 0 A l) (hm : Sl w 0 B m) :
    Calls Tryz.prog 48 #[.slice A l.length c, .slice B m.length d] w fun e w' => e = .returned (.bool (eqB l m)) ∧ w.grownBy w' none := by
  have hm1 := hl.1
  have hm2 := hm.1
  unfold maxLen at hm1 hm2
  by_cases hlen : l.length = m.length
  · have hb : (l.length != m.length) = false := by simp [hlen]
    have hb2 : ((l.length : Int) != m.length) = false := by simp [hlen]
    replace hlen := hide hlen
    go_enter Tryz.func48, Tryz.ntmps48
    go_wp2
    go_loopw [13] (fun i wr => ∃ k : Nat, k ≤ l.length ∧ i = .int .i64 k ∧ w.grownBy wr none ∧ Hid (l.take k = m.take k)) (fun i _ => l.length - (intOf i).toNat)
    case atStart => exact ⟨0, Nat.zero_le _, rfl, World.grownBy.refl _ _, rfl⟩
    case round =>
      obtain ⟨k, hk, rfl, hg, hq⟩ := hrel
      by_cases hlt : k < l.length
      · have hlt2 : k < m.length := by rw [← hlen.out]; exact hlt
        obtain ⟨g, o, cx, rfl, hb0, hb1, rfl, hc⟩ := (hl.pure hg).at_ (by decide) hlt
        have c0 : wr.cell? ⟨g, o + k * 3, none⟩ = some (.int .i64 l[k].a) := hc 0 _ rfl
        have c1 : wr.cell? ⟨g, o + k * 3 + 1, none⟩ = some (.int .i64 l[k].b) := hc 1 _ rfl
        have c2 : wr.cell? ⟨g, o + k * 3 + 2, none⟩ = some (.int .i64 l[k].c) := hc 2 _ rfl
        clear hc
        obtain ⟨g', o', cx, rfl, hb0', hb1', rfl, hc⟩ := (hm.pure hg).at_ (by decide) hlt2
        have c0' : wr.cell? ⟨g', o' + k * 3, none⟩ = some (.int .i64 m[k].a) := hc 0 _ rfl
        have c1' : wr.cell? ⟨g', o' + k * 3 + 1, none⟩ = some (.int .i64 m[k].b) := hc 1 _ rfl
        have c2' : wr.cell? ⟨g', o' + k * 3 + 2, none⟩ = some (.int .i64 m[k].c) := hc 2 _ rfl
        clear hc
        have HS : Hid (l[k] = m[k] → l.take (k + 1) = m.take (k + 1)) := fun h => by rw [take_snoc hlt, take_snoc hlt2, hq.out, h]
        have HN : Hid (l[k] ≠ m[k] → eqB l m = false) := fun h => eqB_ne hlt hlt2 h
        go_wp2_with fail
        refine wp_region_fix 8 ((fun wx => wr.grownBy wx none)) (by kernel_rfl) (by kernel_rfl) (gr_drew (World.grownBy.refl _ _)) ?_
        simp only [List.take_succ_cons, List.take_zero, List.drop_succ_cons, List.drop_zero]
        iterate 3 ((refine fix_b (fun K hK => ?_); apply Exists.intro; refine ⟨fun wx hC K' hK' => ?_, ?_⟩; (focus (replace hK' := hide hK'; skip; go_wp2_with fail; exact hK'.out _ hC)); go_simp; refine hK _ ?_; clear hK K))
        (refine fix_b (fun K hK => ?_); apply Exists.intro; refine ⟨fun wx hC K' hK' => ?_, ?_⟩; (focus (replace hK' := hide hK'; (have b0 := hC.k c0; have b1 := hC.k c1; have b2 := hC.k c2); go_wp2_with fail; exact hK'.out _ hC)); go_simp; refine hK _ ?_; clear hK K)
        iterate 3 ((refine fix_b (fun K hK => ?_); apply Exists.intro; refine ⟨fun wx hC K' hK' => ?_, ?_⟩; (focus (replace hK' := hide hK'; skip; go_wp2_with fail; exact hK'.out _ hC)); go_simp; refine hK _ ?_; clear hK K))
        (refine fix_b (fun K hK => ?_); apply Exists.intro; refine ⟨fun wx hC K' hK' => ?_, ?_⟩; (focus (replace hK' := hide hK'; (have b0 := hC.k c0'; have b1 := hC.k c1'; have b2 := hC.k c2'); go_wp2_with fail; exact hK'.out _ hC)); go_simp; refine hK _ ?_; clear hK K)
        refine fix_nil ?_
        intro wz hC
        go_wp2_with fail
        all_goals first
          | (go_ret; exact ⟨ret_bool (HN.out (fun h => by simp_all)).symm, (by repeat (first | exact World.grownBy.refl _ _ | assumption | refine gr_alloc ?_ _ | (apply gr_tail; assumption) | refine gr_drewN ?_ _ | refine gr_drew ?_))⟩)
          | (go_roundw; (case rel => exact ⟨k + 1, by omega, by go_num, (by repeat (first | exact World.grownBy.refl _ _ | assumption | refine gr_alloc ?_ _ | (apply gr_tail; assumption) | refine gr_drewN ?_ _ | refine gr_drew ?_)), HS.out (fc_ext ‹_› ‹_› ‹_›)⟩); (case measure => simp [intOf]; omega))
          | (go_roundw; (case rel => exact ⟨k + 1, by omega, by go_num, (by repeat (first | exact World.grownBy.refl _ _ | assumption | refine gr_alloc ?_ _ | (apply gr_tail; assumption) | refine gr_drewN ?_ _ | refine gr_drew ?_)), HS.out (by apply fc_ext <;> simp_all)⟩); (case measure => simp [intOf]; omega))
      · have HB : Hid (eqB l m = true) := eqB_all hlen.out (by have := hq.out; rwa [show k = l.length by omega] at this)
        go_wp2
        go_ret
        exact ⟨ret_bool HB.out.symm, hg⟩
  · have hb : (l.length != m.length) = true := by simp [hlen]
    have hb2 : ((l.length : Int) != m.length) = true := by simp; omega
    have HB := hide (eqB_len hlen)
    clear hlen
    go_enter Tryz.func48, Tryz.ntmps48
    go_wp2
    go_ret
    exact ⟨ret_bool HB.out.symm, World.grownBy.refl _ _⟩

theorem sameMesh_any (A : Option Addr) (c : Nat) (vs : List V3) (B : Option Addr) (d : Nat) (fs : List Fc) (A2 : Option Addr) (c2 : Nat) (B2 : Option Addr) (d2 : Nat) (w : World) (h1 : Sl w 0 A vs) (h2 : Sl w 0 B fs) (h3 : Sl w 0 A2 vs) (h4 : Sl w 0 B2 fs) :
    Calls Tryz.prog 17 #[.agg #[.slice A vs.length c, .slice B fs.length d], .agg #[.slice A2 vs.length c2, .slice B2 fs.length d2]] w fun e w' => e = .returned (.bool true) ∧ w.grownBy w' none := by
  obtain ⟨W, hW⟩ : ∃ W, W = (w.alloc (.cells #[.slice A vs.length c, .slice B fs.length d] 29)).alloc (.cells #[.slice A2 vs.length c2, .slice B2 fs.length d2] 29) := ⟨_, rfl⟩
  have hlt0 : w.heap.size < w.heap.size + 1 := Nat.lt_succ_self _
  have hg0 : w.grownBy W none := by rw [hW]; exact (by repeat (first | exact World.grownBy.refl _ _ | assumption | refine gr_alloc ?_ _ | (apply gr_tail; assumption) | refine gr_drewN ?_ _ | refine gr_drew ?_))
  have b1 : W.cell? ⟨w.heap.size, 1, none⟩ = some (.slice B fs.length d) := by rw [hW]; go_simp
  have b3 : W.cell? ⟨w.heap.size + 1, 1, none⟩ = some (.slice B2 fs.length d2) := by rw [hW]; go_simp
  replace hW := hide hW.symm
  go_enter Tryz.func17, Tryz.ntmps17
  go_wp2_with fail
  rw [hW.out]
  refine (equalV3_any A c vs A2 c2 vs _ (h1.pure hg0) (h3.pure hg0)).mono ?_
  rintro e w1 ⟨rfl, hg1⟩
  rw [eqB_refl]
  replace b1 := hg1.k b1
  replace b3 := hg1.k b3
  have hg2 := gr_trans hg0 hg1
  clear hg1 hW
  go_wp2_with fail
  refine (equalFc_any B d fs B2 d2 fs _ (h2.pure hg2) (h4.pure hg2)).mono ?_
  rintro e w2 ⟨rfl, hg3⟩
  rw [eqB_refl]
  go_wp2_with fail
  go_ret
  exact ⟨rfl, gr_trans hg2 hg3⟩

end Go.Proofs.YtbpkkgeedkegcaaGreatDoor

namespace Go.Proofs.YtbpkkgeedkegcaaGreatDoor
open Go.RowKit Go.Bl

theorem slNil {α : Type} [Enc α] (w : World) (lo : Nat) (A : Option Addr) : Sl w lo A ([] : List α) := ⟨by simp [maxLen], [], rfl, fun h => absurd rfl h⟩
/-- a mesh that is right, or none -/
def okM (m : MeshV) : MeshV := if meshF m = 0 then m else ⟨[], []⟩

def SMeshE (lo : Nat) (m : MeshV) (F : Int) (w : World) (e : Ending) (w' : World) : Prop :=
  ∃ (A : Option Addr) (c : Nat) (B : Option Addr) (d : Nat), e = .returned (.tuple #[.agg #[.slice A m.vs.length c, .slice B m.fs.length d], .int .i64 F]) ∧ Sl w' lo A m.vs ∧ Sl w' lo B m.fs ∧ w.grownBy w' none

theorem isAxis_any (n : Int) (w : World) : Calls Tryz.prog 39 #[.int .i64 n] w fun e w' => e = .returned (.bool (!outB n 0 2)) ∧ w = w' := by
  go_enter Tryz.func39, Tryz.ntmps39
  go_wp2_with fail
  refine (outside_any _ _ _ _).mono ?_
  rintro e w1 ⟨rfl, rfl⟩
  go_wp2_with fail
  go_ret
  exact ⟨rfl, rfl⟩

def axisF (n : Int) : Int := if outB n 0 2 then 4 else 0

/-- turned by a quarter -/
def qV (axis : Int) (v : V3) : V3 := if axis = 0 then ⟨v.x, -v.z, v.y⟩ else if axis = 1 then ⟨v.z, v.y, -v.x⟩ else ⟨-v.y, v.x, v.z⟩

theorem qV_bd {axis : Int} {v : V3} {K : Int} (h : Bd K v) : Bd K (qV axis v) := by
  unfold qV
  obtain ⟨⟨h1, h2⟩, ⟨h3, h4⟩, h5, h6⟩ := h
  split
  · exact ⟨⟨h1, h2⟩, ⟨by simp only; omega, by simp only; omega⟩, h3, h4⟩
  · split
    · exact ⟨⟨h5, h6⟩, ⟨h3, h4⟩, by simp only; omega, by simp only; omega⟩
    · exact ⟨⟨by simp only; omega, by simp only; omega⟩, ⟨h1, h2⟩, h5, h6⟩

theorem quarter_any (v : V3) (axis : Int) (w : World) (hv : Bd 100000 v) :
    Calls Tryz.prog 43 #[.agg #[.int .i64 v.x, .int .i64 v.y, .int .i64 v.z], .int .i64 axis] w fun e w' => e = .returned (.agg #[.int .i64 (qV axis v).x, .int .i64 (qV axis v).y, .int .i64 (qV axis v).z]) ∧ w.grownBy w' none := by
  obtain ⟨⟨h1, h2⟩, ⟨h3, h4⟩, h5, h6⟩ := hv
  by_cases a0 : axis = 0
  · have hq : Hid (qV axis v = ⟨v.x, -v.z, v.y⟩) := by rw [Hid]; unfold qV; rw [if_pos a0]
    subst a0
    generalize qV 0 v = R at *
    go_enter Tryz.func43, Tryz.ntmps43
    go_wp2_with fail
    have hgs := gr_alloc (gr_alloc (r := none) (World.grownBy.refl w none) (.cells #[.int .i64 v.x, .int .i64 v.y, .int .i64 v.z] 47)) (.cells #[.int .i64 ((⟨v.x, -v.z, v.y⟩ : V3)).x, .int .i64 ((⟨v.x, -v.z, v.y⟩ : V3)).y, .int .i64 ((⟨v.x, -v.z, v.y⟩ : V3)).z] 47)
    exact bodyPost_ret (v := .agg #[.int .i64 ((⟨v.x, -v.z, v.y⟩ : V3)).x, .int .i64 ((⟨v.x, -v.z, v.y⟩ : V3)).y, .int .i64 ((⟨v.x, -v.z, v.y⟩ : V3)).z]) (by simp [results, Tryz.results43, go_sem]) rfl ⟨by rw [hq.out], hgs⟩
  · by_cases a1 : axis = 1
    · have hq : Hid (qV axis v = ⟨v.z, v.y, -v.x⟩) := by rw [Hid]; unfold qV; rw [if_neg a0, if_pos a1]
      subst a1
      generalize qV 1 v = R at *
      go_enter Tryz.func43, Tryz.ntmps43
      go_wp2_with fail
      have hgs := gr_alloc (gr_alloc (r := none) (World.grownBy.refl w none) (.cells #[.int .i64 v.x, .int .i64 v.y, .int .i64 v.z] 47)) (.cells #[.int .i64 ((⟨v.z, v.y, -v.x⟩ : V3)).x, .int .i64 ((⟨v.z, v.y, -v.x⟩ : V3)).y, .int .i64 ((⟨v.z, v.y, -v.x⟩ : V3)).z] 47)
      exact bodyPost_ret (v := .agg #[.int .i64 ((⟨v.z, v.y, -v.x⟩ : V3)).x, .int .i64 ((⟨v.z, v.y, -v.x⟩ : V3)).y, .int .i64 ((⟨v.z, v.y, -v.x⟩ : V3)).z]) (by simp [results, Tryz.results43, go_sem]) rfl ⟨by rw [hq.out], hgs⟩
    · have hq : Hid (qV axis v = ⟨-v.y, v.x, v.z⟩) := by rw [Hid]; unfold qV; rw [if_neg a0, if_neg a1]
      have hb0 : (axis == 0) = false := beq_eq_false_iff_ne.2 a0
      have hb1 : (axis == 1) = false := beq_eq_false_iff_ne.2 a1
      generalize qV axis v = R at *
      clear a0 a1
      go_enter Tryz.func43, Tryz.ntmps43
      go_wp2_with fail
      have hgs := gr_alloc (gr_alloc (r := none) (World.grownBy.refl w none) (.cells #[.int .i64 v.x, .int .i64 v.y, .int .i64 v.z] 47)) (.cells #[.int .i64 ((⟨-v.y, v.x, v.z⟩ : V3)).x, .int .i64 ((⟨-v.y, v.x, v.z⟩ : V3)).y, .int .i64 ((⟨-v.y, v.x, v.z⟩ : V3)).z] 47)
      exact bodyPost_ret (v := .agg #[.int .i64 ((⟨-v.y, v.x, v.z⟩ : V3)).x, .int .i64 ((⟨-v.y, v.x, v.z⟩ : V3)).y, .int .i64 ((⟨-v.y, v.x, v.z⟩ : V3)).z]) (by simp [results, Tryz.results43, go_sem]) rfl ⟨by rw [hq.out], hgs⟩

def clampI (n : Int) : Int := max (-300000) (min n 300000)

end Go.Proofs.YtbpkkgeedkegcaaGreatDoor

namespace Go.Proofs.YtbpkkgeedkegcaaGreatDoor
open Go.RowKit Go.Bl

def turnV (axis : Int) : Nat → V3 → V3
  | 0, v => v
  | k + 1, v => qV axis (turnV axis k v)

theorem turnV_bd {axis : Int} {v : V3} {K : Int} (h : Bd K v) : ∀ k, Bd K (turnV axis k v)
  | 0 => h
  | k + 1 => qV_bd (turnV_bd h k)

/-- the closure's box of v and that of its result, over the world w -/

def VAt (w : World) (g : Nat) (v : V3) : Prop := Cell w g 0 (.int .i64 v.x) ∧ Cell w g 1 (.int .i64 v.y) ∧ Cell w g 2 (.int .i64 v.z)

theorem VAt.gr {w w' : World} {g : Nat} {v : V3} {r : Option Nat} (h : VAt w g v) (hg : w.grownBy w' r) (hr : r ≠ some g) : VAt w' g v := ⟨h.1.gr hg hr, h.2.1.gr hg hr, h.2.2.gr hg hr⟩

theorem VAt.set3 {w : World} {g : Nat} {v : V3} (h : VAt w g v) (u : V3) : VAt (((w.setCell ⟨g, 0, none⟩ (.int .i64 u.x)).setCell ⟨g, 1, none⟩ (.int .i64 u.y)).setCell ⟨g, 2, none⟩ (.int .i64 u.z)) g u :=
  ⟨((h.1.set_ _).set_ne _ (by decide)).set_ne _ (by decide), ((h.2.1.set_ne _ (by decide)).set_ _).set_ne _ (by decide), ((h.2.2.set_ne _ (by decide)).set_ne _ (by decide)).set_ _⟩

theorem gr_setV {w w1 : World} {g : Nat} (h : w.grownBy w1 none) (hg : w.heap.size ≤ g) (a b c : Value) : w.grownBy (((w1.setCell ⟨g, 0, none⟩ a).setCell ⟨g, 1, none⟩ b).setCell ⟨g, 2, none⟩ c) none :=
  gr_set (gr_set (gr_set h (.inr hg) _) (.inr hg) _) (.inr hg) _

def ups (v : V3) (o : Nat) (a : Int) : V3 := if o = 0 then ⟨a, v.y, v.z⟩ else if o = 1 then ⟨v.x, a, v.z⟩ else ⟨v.x, v.y, a⟩

theorem VAt.up {w : World} {g : Nat} {v : V3} (h : VAt w g v) {o : Nat} (a : Int) (ho : o < 3) : VAt (w.setCell ⟨g, o, none⟩ (.int .i64 a)) g (ups v o a) := by
  have : o = 0 ∨ o = 1 ∨ o = 2 := by omega
  obtain ⟨h1, h2, h3⟩ := h
  rcases this with rfl | rfl | rfl
  · exact ⟨h1.set_ _, h2.set_ne _ (by decide), h3.set_ne _ (by decide)⟩
  · exact ⟨h1.set_ne _ (by decide), h2.set_ _, h3.set_ne _ (by decide)⟩
  · exact ⟨h1.set_ne _ (by decide), h2.set_ne _ (by decide), h3.set_ _⟩

set_option maxHeartbeats 1000000 in
set_option maxRecDepth 100000 in
theorem turnClo_any (gq ga n : Nat) (axis : Int) (v : V3) (w : World) (hv : Bd 100000 v) (hn : n ≤ 3) (bq : w.cell? ⟨gq, 0, none⟩ = some (.int .i64 n)) (ba : w.cell? ⟨ga, 0, none⟩ = some (.int .i64 axis)) :
    Calls Tryz.prog 42 #[.agg #[.int .i64 v.x, .int .i64 v.y, .int .i64 v.z], .pointer (some ⟨gq, 0, none⟩), .pointer (some ⟨ga, 0, none⟩)] w fun e w' =>
      e = .returned (.agg #[.int .i64 (turnV axis n v).x, .int .i64 (turnV axis n v).y, .int .i64 (turnV axis n v).z]) ∧ w.grownBy w' none := by
  have hbq := cell_lt bq
  have hba := cell_lt ba
  simp only at hbq hba
  obtain ⟨W, hW⟩ : ∃ W, W = (w.alloc (.cells #[.int .i64 v.x, .int .i64 v.y, .int .i64 v.z] 47)).alloc (.cells #[.int .i64 0, .int .i64 0, .int .i64 0] 47) := ⟨_, rfl⟩
  have hlt0 : w.heap.size < w.heap.size + 1 := Nat.lt_succ_self _
  have hg0 : w.grownBy W none := by rw [hW]; exact (by repeat (first | exact World.grownBy.refl _ _ | assumption | refine gr_alloc ?_ _ | (apply gr_tail; assumption) | refine gr_drewN ?_ _ | refine gr_drew ?_))
  have v0 : Cell W w.heap.size 0 (.int .i64 v.x) := by rw [hW]; exact ⟨by go_simp, by go_simp⟩
  have v1 : Cell W w.heap.size 1 (.int .i64 v.y) := by rw [hW]; exact ⟨by go_simp, by go_simp⟩
  have v2 : Cell W w.heap.size 2 (.int .i64 v.z) := by rw [hW]; exact ⟨by go_simp, by go_simp⟩
  have r0 : Cell W (w.heap.size + 1) 0 (.int .i64 0) := by rw [hW]; exact ⟨by go_simp, by go_simp⟩
  have r1 : Cell W (w.heap.size + 1) 1 (.int .i64 0) := by rw [hW]; exact ⟨by go_simp, by go_simp⟩
  have r2 : Cell W (w.heap.size + 1) 2 (.int .i64 0) := by rw [hW]; exact ⟨by go_simp, by go_simp⟩
  replace hW := hide hW.symm
  have hlim : n ≤ 3 := hn
  have VV : VAt W w.heap.size v := ⟨v0, v1, v2⟩
  have RR : VAt W (w.heap.size + 1) ⟨0, 0, 0⟩ := ⟨r0, r1, r2⟩
  have bqW := hide (hg0.k bq)
  have baW := hide (hg0.k ba)
  have hbq2 : gq < w.heap.size + 1 := by omega
  have hba2 : ga < w.heap.size + 1 := by omega
  clear v0 v1 v2 r0 r1 r2
  replace VV := hide VV
  replace RR := hide RR
  have hlw := hg0.size
  go_enter Tryz.func42, Tryz.ntmps42
  go_wp2_with fail
  rw [hW.out]
  clear hW
  go_loopw [6] (fun i wr => ∃ k : Nat, k ≤ n ∧ i = .int .i64 k ∧ VAt wr w.heap.size (turnV axis k v) ∧ VAt wr (w.heap.size + 1) ⟨0, 0, 0⟩ ∧ w.grownBy wr none ∧ wr.cell? ⟨gq, 0, none⟩ = some (.int .i64 n) ∧ wr.cell? ⟨ga, 0, none⟩ = some (.int .i64 axis)) (fun i _ => n - (intOf i).toNat)
  case atStart => exact ⟨0, by omega, rfl, VV.out, RR.out, hg0, bqW.out, baW.out⟩
  case round =>
    obtain ⟨k, hk, rfl, VV, RR, hg, dq, da⟩ := hrel
    clear hg0 bq ba
    have hbd := turnV_bd (axis := axis) hv k
    by_cases hlt : k < n
    · have hT : Hid (turnV axis (k + 1) v = qV axis (turnV axis k v)) := rfl
      generalize turnV axis k v = u at *
      obtain ⟨⟨x0, y0⟩, ⟨x1, y1⟩, ⟨x2, y2⟩⟩ := id VV
      have hlt1 := cell_lt x0
      have hlt2 := RR.1.lt
      simp only at hlt1
      go_wp2_with fail
      refine (quarter_any u axis _ hbd).mono ?_
      rintro e w1 ⟨rfl, hg1⟩
      have hV1 := VV.gr hg1 (by simp)
      have hR1 := RR.gr hg1 (by simp)
      replace dq := hg1.k dq
      replace da := hg1.k da
      have hg2 := gr_trans hg hg1
      clear x0 y0 x1 y1 x2 y2
      obtain ⟨⟨x0, y0⟩, ⟨x1, y1⟩, ⟨x2, y2⟩⟩ := id hV1
      have hS := hide (hV1.set3 (qV axis u))
      have hgs := fun a b c => gr_set (gr_set (gr_set (World.grownBy.refl w1 (some w.heap.size)) (p := ⟨w.heap.size, 0, none⟩) (.inl rfl) a) (p := ⟨w.heap.size, 1, none⟩) (.inl rfl) b) (p := ⟨w.heap.size, 2, none⟩) (.inl rfl) c
      have hgs := hide hgs
      have hR1 := hide hR1
      clear hV1
      generalize qV axis u = t at *
      go_wp2_with fail
      (go_roundw; (case rel => exact ⟨k + 1, by omega, by go_num, by rw [hT.out]; exact hS.out, hR1.out.gr (hgs.out _ _ _) (by simp), gr_setV hg2 (Nat.le_refl _) _ _ _, gr_cell (hgs.out _ _ _) dq (by simp; omega), gr_cell (hgs.out _ _ _) da (by simp; omega)⟩); (case measure => simp [intOf]; omega))
    · have hkn : k = n := by omega
      subst hkn
      obtain ⟨⟨x0, y0⟩, ⟨x1, y1⟩, ⟨x2, y2⟩⟩ := VV
      obtain ⟨⟨z0, f0⟩, ⟨z1, f1⟩, ⟨z2, f2⟩⟩ := RR
      go_wp2_with fail
      exact bodyPost_ret (v := .agg #[.int .i64 (turnV axis k v).x, .int .i64 (turnV axis k v).y, .int .i64 (turnV axis k v).z]) (by simp [results, Tryz.results42, go_sem, z0, z1, z2, f0, f1, f2]) rfl ⟨rfl, gr_setV hg (Nat.le_succ _) _ _ _⟩

def moveV (t v : V3) : V3 := ⟨v.x + t.x, v.y + t.y, v.z + t.z⟩

def clampV (t : V3) : V3 := ⟨clampI t.x, clampI t.y, clampI t.z⟩

def mirV (axis : Int) (v : V3) : V3 := if axis = 0 then ⟨-v.x, v.y, v.z⟩ else if axis = 1 then ⟨v.x, -v.y, v.z⟩ else ⟨v.x, v.y, -v.z⟩

end Go.Proofs.YtbpkkgeedkegcaaGreatDoor

namespace Go.Proofs.YtbpkkgeedkegcaaGreatDoor
open Go.RowKit Go.Bl

def VOne (lo2 : Nat) (u : V3) : Value → World → Prop := fun v w => ∃ g : Nat, v = .slice (some ⟨g, 0, none⟩) 1 1 ∧ Sl w lo2 (some ⟨g, 0, none⟩) [u]

theorem VOne.stab {lo2 : Nat} {u : V3} {p : Nat → Prop} {v : Value} {w w' : World} (h : VOne lo2 u v w) (hw : Wrt p w w') (hp : ∀ g, p g → g < lo2) : VOne lo2 u v w' := let ⟨g, h1, h2⟩ := h; ⟨g, h1, h2.wrt hw hp⟩

def VMp (lo n1 : Nat) (l : List V3) (u : V3) : Value → World → Prop := fun v w => ∃ (A : Option Addr) (c : Nat), v = .slice A (n1 + 1) c ∧ Own w lo 47 A c (l ++ [u])

theorem VMp.stab {lo n1 : Nat} {l : List V3} {u : V3} {q : Nat → Prop} {v : Value} {w w' : World} (h : VMp lo n1 l u v w) (hw : Wrt q w w') (hq : ∀ g, q g → g < lo) : VMp lo n1 l u v w' := let ⟨A, c, h1, h2⟩ := h; ⟨A, c, h1, h2.wrt hw hq⟩
/-- while a vector is appended to the box's slice -/
def MpI (gm gv lo lo2 n1 cq : Nat) (Aq : Option Addr) (lq : List V3) (vq uq : V3) (bv : Value) (W0 Wb : World) (m : Nat → Bool) (_ : Nat) (w : World) : Prop :=
  W0.grownBy w none ∧ lo2 ≤ w.heap.size ∧ VAt w gv vq ∧ (m 6 = false → Own w lo 47 Aq cq lq) ∧ (m 8 = false → Cell w gm 0 (.slice Aq n1 cq)) ∧ Cell w gm 1 bv ∧ Wb.grownBy w (some gm) ∧
    (m 8 = true → ∃ (A : Option Addr) (c : Nat), Cell w gm 0 (.slice A (n1 + 1) c) ∧ Own w lo 47 A c (lq ++ [uq]))

def MpOk (gm gv lo lo2 : Nat) (Aq : Option Addr) (W0 Wb : World) : Prop := W0.heap.size ≤ gm ∧ gm < lo ∧ lo ≤ gv ∧ gv < lo2 ∧ Wb.heap.size ≤ lo ∧ gm < lo2 ∧ ∀ g, blk Aq = some g → g < lo2 ∧ g ≠ gv
section
variable {gm gv lo lo2 n1 cq k : Nat} {Aq : Option Addr} {lq : List V3} {vq uq : V3} {bv : Value} {W0 Wb w w' : World} {m : Nat → Bool}

theorem MpI.same (h : MpI gm gv lo lo2 n1 cq Aq lq vq uq bv W0 Wb m k w) {j : Nat} (h6 : (6 == j) = false) (h8 : (8 == j) = false) : MpI gm gv lo lo2 n1 cq Aq lq vq uq bv W0 Wb (setm m j) k w := by
  unfold MpI
  rw [setm_ne h6, setm_ne h8]
  exact h

theorem MpI.pure (h : MpI gm gv lo lo2 n1 cq Aq lq vq uq bv W0 Wb m k w) (hg : w.grownBy w' none) : MpI gm gv lo lo2 n1 cq Aq lq vq uq bv W0 Wb m k w' := by
  obtain ⟨h1, h2, h3, h4, h5, h6, h7, h8⟩ := h
  exact ⟨gr_trans h1 hg, Nat.le_trans h2 hg.size, h3.gr hg (by simp), fun h => (h4 h).pure hg, fun h => (h5 h).gr hg (by simp), h6.gr hg (by simp), gr_step h7 hg, fun h => let ⟨A, c, a, b⟩ := h8 h; ⟨A, c, a.gr hg (by simp), b.pure hg⟩⟩

theorem MpI.app (h : MpI gm gv lo lo2 n1 cq Aq lq vq uq bv W0 Wb m k w) (hq : MpOk gm gv lo lo2 Aq W0 Wb) (m6 : m 6 = false) (m8 : m 8 = false) {A5 : Option Addr} (hG : Grew Aq A5 w w') (ho : Own w lo 47 Aq cq lq) : MpI gm gv lo lo2 n1 cq Aq lq vq uq bv W0 Wb (setm m 6) k w' := by
  obtain ⟨h1, h2, h3, h4, h5, h6, h7, h8⟩ := h
  obtain ⟨p1, p2, p3, p4, p5, p6, p7⟩ := hq
  have hne : ∀ g, blk Aq = some g → lo ≤ g ∧ g ≠ gv := fun g e => ⟨(ho.blk_lt e).1, (p7 g e).2⟩
  refine ⟨gr_row h1 hG.1 (fun g e => by have := hne g e; omega), Nat.le_trans h2 hG.1.size, h3.gr hG.1 (fun e => (hne _ e).2 rfl), ?_, ?_, h6.gr hG.1 (fun e => by have := hne _ e; omega), gr_row h7 hG.1 (fun g e => by have := hne g e; omega), ?_⟩
  · intro h; rw [setm_eq] at h; cases h
  · intro h; exact (h5 m8).gr hG.1 (fun e => by have := hne _ e; omega)
  · intro h; rw [setm_ne (by decide), m8] at h; cases h

theorem MpI.fin (h : MpI gm gv lo lo2 n1 cq Aq lq vq uq bv W0 Wb m k w) (hq : MpOk gm gv lo lo2 Aq W0 Wb) {v0 : Value} (c : Cell w gm 0 v0) {A : Option Addr} {d : Nat} (ho : Own w lo 47 A d (lq ++ [uq])) : MpI gm gv lo lo2 n1 cq Aq lq vq uq bv W0 Wb (setm m 8) k (w.setCell ⟨gm, 0, none⟩ (.slice A (n1 + 1) d)) := by
  obtain ⟨h1, h2, h3, h4, h5, h6, h7, h8⟩ := h
  obtain ⟨p1, p2, p3, p4, p5, p6, p7⟩ := hq
  have hg := gr_set (World.grownBy.refl w (some gm)) (p := ⟨gm, 0, none⟩) (.inl rfl) (.slice A (n1 + 1) d)
  have hne : ∀ {B : Option Addr} {e : TypeId} {c : Nat} {l : List V3}, Own w lo e B c l → ∀ g, blk B = some g → some gm ≠ some g := fun h g e1 e2 => by have := (h.blk_lt e1).1; injection e2; omega
  refine ⟨gr_row h1 hg (fun g e => by injection e; omega), by rw [heap_set]; exact h2, h3.gr hg (fun e => by injection e; omega), ?_, ?_, h6.set_ne _ (by decide), gr_trans h7 hg, ?_⟩
  · intro h; rw [setm_ne (by decide)] at h; exact (h4 h).ne hg (hne (h4 h))
  · intro h; rw [setm_eq] at h; cases h
  · intro _; exact ⟨A, d, c.set_ _, ho.ne hg (hne ho)⟩
end

set_option maxHeartbeats 4000000 in
set_option maxRecDepth 100000 in
theorem mapTurn_any (t : V3 → V3) (gq ga : Nat) (A : Option Addr) (c : Nat) (vs : List V3) (B : Option Addr) (d : Nat) (fs : List Fc) (w : World) (hl : Sl w 0 A vs) (hfs : Sl w 0 B fs) (hvl : vs.length ≤ 1000) (hfl : fs.length ≤ 1000)
    (hcl : Hid (∀ v ∈ vs, ∀ wx, w.grownBy wx none → Calls Tryz.prog 42 #[.agg #[.int .i64 v.x, .int .i64 v.y, .int .i64 v.z], .pointer (some ⟨gq, 0, none⟩), .pointer (some ⟨ga, 0, none⟩)] wx fun e w' => e = .returned (.agg #[.int .i64 (t v).x, .int .i64 (t v).y, .int .i64 (t v).z]) ∧ wx.grownBy w' none)) :
    Calls Tryz.prog 41 #[.agg #[.slice A vs.length c, .slice B fs.length d], .func (.func 42) #[] #[.pointer (some ⟨gq, 0, none⟩), .pointer (some ⟨ga, 0, none⟩)]] w fun e w' =>
      ∃ A' c' B' d', e = .returned (.agg #[.slice A' vs.length c', .slice B' fs.length d']) ∧ Own w' w.heap.size 47 A' c' (vs.map t) ∧ Own w' w.heap.size 54 B' d' fs ∧ (∀ g, blk A' = some g → blk B' ≠ some g) ∧ w.grownBy w' none := by
  have hm := hl.1
  unfold maxLen at hm
  obtain ⟨W, hW⟩ : ∃ W, W = (w.alloc (.cells #[.slice A vs.length c, .slice B fs.length d] 29)).alloc (.cells #[.slice none 0 0, .slice none 0 0] 29) := ⟨_, rfl⟩
  have hlt0 : w.heap.size < w.heap.size + 1 := Nat.lt_succ_self _
  have hWs : W.heap.size = w.heap.size + 1 + 1 := by rw [hW]; simp
  have hg0 : w.grownBy W none := by rw [hW]; exact (by repeat (first | exact World.grownBy.refl _ _ | assumption | refine gr_alloc ?_ _ | (apply gr_tail; assumption) | refine gr_drewN ?_ _ | refine gr_drew ?_))
  have b0 : W.cell? ⟨w.heap.size, 0, none⟩ = some (.slice A vs.length c) := by rw [hW]; go_simp
  have b1 : W.cell? ⟨w.heap.size, 1, none⟩ = some (.slice B fs.length d) := by rw [hW]; go_simp
  have q0 : Cell W (w.heap.size + 1) 0 (.slice none 0 0) := by rw [hW]; exact ⟨by go_simp, by go_simp⟩
  have q1 : Cell W (w.heap.size + 1) 1 (.slice none 0 0) := by rw [hW]; exact ⟨by go_simp, by go_simp⟩
  replace hW := hide hW.symm
  replace hWs := hide hWs
  go_enter Tryz.func41, Tryz.ntmps41
  go_wp2_with fail
  rw [hW.out]
  refine (cloneFc_any B d fs W (hfs.pure hg0) (by omega)).mono ?_
  rintro e w1 ⟨B', d', rfl, hB, hg1⟩
  replace b0 := hg1.k b0
  replace q0 := hide (q0.gr hg1 (by simp))
  replace q1 := hide (q1.gr hg1 (by simp))
  have hg2 := gr_trans hg0 hg1
  have hlt1 : w.heap.size + 1 < w1.heap.size := q0.out.lt
  have hlw1 : w.heap.size < w1.heap.size := by omega
  have hlw2 : w.heap.size < w1.heap.size + 1 := by omega
  clear hW hg0
  go_wp2_with fail
  obtain ⟨Wb, hWb⟩ : ∃ Wb, Wb = w1.alloc (.cells #[.slice none 0 0, .slice B' fs.length d'] 29) := ⟨_, rfl⟩
  have hgb : w1.grownBy Wb none := by rw [hWb]; exact gr_alloc (World.grownBy.refl _ _) _
  have m0 : Cell Wb w1.heap.size 0 (.slice none 0 0) := by rw [hWb]; exact Cell.new w1 [.slice none 0 0, .slice B' fs.length d'] 29 0 _ rfl _ rfl
  have m1 : Cell Wb w1.heap.size 1 (.slice B' fs.length d') := by rw [hWb]; exact Cell.new w1 [.slice none 0 0, .slice B' fs.length d'] 29 1 _ rfl _ rfl
  have hWbs : Wb.heap.size = w1.heap.size + 1 := by rw [hWb]; simp
  rw [← hWb]
  clear hWb
  have hg3 := gr_trans hg2 hgb
  replace q0 := hide (q0.out.gr hgb (by simp))
  replace q1 := hide (q1.out.gr hgb (by simp))
  have hBlt := hide (fun g e => (hB.blk_lt (g := g) e))
  replace hB := hB.pure hgb
  have hlw := hg2.size
  go_loopw [15] (fun i wr => ∃ (k : Nat) (Aq : Option Addr) (cq : Nat), k ≤ vs.length ∧ i = .int .i64 k ∧ Own wr Wb.heap.size 47 Aq cq ((vs.take k).map t) ∧ Cell wr w1.heap.size 0 (.slice Aq k cq) ∧ Cell wr w1.heap.size 1 (.slice B' fs.length d') ∧ Wb.grownBy wr (some w1.heap.size)) (fun i _ => vs.length - (intOf i).toNat)
  case atStart => exact ⟨0, none, 0, by omega, rfl, Own.nil _ _ _, m0, m1, World.grownBy.refl _ _⟩
  case round =>
    obtain ⟨n1, Aq, cq, hk, rfl, hown, c0, c1, hg⟩ := hrel
    clear m0 m1
    by_cases hlt : n1 < vs.length
    · have hgw : w.grownBy wr none := gr_row hg3 hg (fun g e => by injection e; omega)
      obtain ⟨g, o, rfl, -, hbg, hcc⟩ := (hl.pure hgw).v3 (by omega)
      obtain ⟨v0, v1, v2⟩ := hcc n1 hlt
      clear hcc
      have hcl1 := fun wx hx => hcl.out vs[n1] (List.getElem_mem hlt) wx hx
      have hls : (vs.take (n1 + 1)).map t = (vs.take n1).map t ++ [t vs[n1]] := by rw [take_snoc hlt, List.map_append]; rfl
      have hq1 : ((vs.take n1).map t).length = n1 := by rw [List.length_map, List.length_take]; omega
      have hn1 : n1 ≤ 1000 := by omega
      generalize vs[n1] = vq at *
      generalize t vq = uq at *
      replace hls := hide hls
      generalize (vs.take n1).map t = lq at *
      have hclo := hide hcl1
      clear hcl1
      replace c0 := hide c0
      replace c1 := hide c1
      replace hq1 := hide hq1
      go_upto_region 5 with fail
      have hal := gr_alloc (r := none) (World.grownBy.refl wr none) (.cells #[.int .i64 vq.x, .int .i64 vq.y, .int .i64 vq.z] 47)
      have hV : VAt (wr.alloc (.cells #[.int .i64 vq.x, .int .i64 vq.y, .int .i64 vq.z] 47)) wr.heap.size vq := ⟨Cell.new wr [.int .i64 vq.x, .int .i64 vq.y, .int .i64 vq.z] 47 0 _ rfl _ rfl, Cell.new wr [.int .i64 vq.x, .int .i64 vq.y, .int .i64 vq.z] 47 1 _ rfl _ rfl, Cell.new wr [.int .i64 vq.x, .int .i64 vq.y, .int .i64 vq.z] 47 2 _ rfl _ rfl⟩
      have hqA0 : ∀ g, blk Aq = some g → g < wr.heap.size := fun g e => (hown.blk_lt e).2
      have hlo2 : wr.heap.size + 1 ≤ (wr.alloc (.cells #[.int .i64 vq.x, .int .i64 vq.y, .int .i64 vq.z] 47)).heap.size := by simp
      have hszb := hg.size
      replace hown := hown.pure hal
      replace c0 := c0.out.gr hal (by simp)
      replace c1 := c1.out.gr hal (by simp)
      replace hg := gr_step hg hal
      replace hgw := gr_trans hgw hal
      generalize (wr.alloc (.cells #[.int .i64 vq.x, .int .i64 vq.y, .int .i64 vq.z] 47)) = wv at *
      clear hal v0 v1 v2 hbg
      generalize hgv : wr.heap.size = gv at *
      generalize hgm : w1.heap.size = gm at *
      obtain ⟨lo, hlo⟩ : ∃ lo, lo = Wb.heap.size := ⟨_, rfl⟩
      obtain ⟨lo2, hlo2e⟩ : ∃ lo2, lo2 = gv + 1 := ⟨_, rfl⟩
      obtain ⟨bv, hbv⟩ : ∃ bv, bv = Value.slice B' fs.length d' := ⟨_, rfl⟩
      have hq : MpOk gm gv lo lo2 Aq w Wb := ⟨by omega, by omega, by omega, by omega, by omega, by omega, fun g e => by have := hqA0 g e; omega⟩
      have hqA : ∀ g, blk Aq = some g → g < lo2 := fun g e => by have := hqA0 g e; omega
      have hgml : gm < lo := by omega
      have hgml2 : gm < lo2 := by omega
      have hlll : lo ≤ wv.heap.size := by omega
      have hlll2 : lo ≤ lo2 := by omega
      have hI0 : ∀ m : Nat → Bool, m 8 = false → MpI gm gv lo lo2 n1 cq Aq lq vq uq bv w Wb m 0 wv.drew := fun m hm => by
        have hd := gr_drew (World.grownBy.refl wv none)
        exact ⟨gr_trans hgw hd, by show lo2 ≤ wv.heap.size; omega, hV.gr hd (by simp), fun _ => by rw [hlo]; exact hown.pure hd, fun _ => c0.gr hd (by simp), by rw [hbv]; exact c1.gr hd (by simp), gr_step hg hd, fun h => by rw [hm] at h; cases h⟩
      replace hI0 := hide hI0
      replace hq := hide hq
      replace hqA := hide hqA
      replace hq1 := hq1.out
      clear hown c0 c1 hg hV hqA0 hgw
      replace hq := hq.out
      replace hqA := hqA.out
      replace hlo := hide hlo
      replace hlo2e := hide hlo2e
      replace hbv := hide hbv
      replace hgv := hide hgv
      replace hgm := hide hgm
      refine wp_region_minvF (MpI gm gv lo lo2 n1 cq Aq lq vq uq bv w Wb) (fun m => Wrt (fun g => g = gm ∨ (m 6 = false ∧ lo ≤ g ∧ g < lo2))) [VIs (.pointer (some ⟨gm, 0, none⟩)), VIs (.slice Aq n1 cq), VIs (.func (.func 42) #[] #[.pointer (some ⟨gq, 0, none⟩), .pointer (some ⟨ga, 0, none⟩)]), VIs (.agg #[.int .i64 vq.x, .int .i64 vq.y, .int .i64 vq.z]), VIs (.agg #[.int .i64 uq.x, .int .i64 uq.y, .int .i64 uq.z]), VOne lo2 uq, VMp lo n1 lq uq, VIs (.pointer (some ⟨gm, 0, none⟩)), (fun _ _ => True)] [0, 0, 0, 0, 0, 0, 0, 0, 0] (by kernel_rfl) (by kernel_rfl) (by intro vs; simp only [putAll, Act.put, List.setIfInBounds_toArray, List.set_cons_zero, List.set_cons_succ, Nat.reduceAdd]; exact rfl) ?iv0 ?iv1 rfl ?iv2 ?iv3
      case iv1 => exact Stab.ok ⟨fun m v w w' _ _ h => h, fun m v w w' _ _ h => h, fun m v w w' _ _ h => h, fun m v w w' _ _ h => h, fun m v w w' _ _ h => h, fun m v w w' _ hw h => h.stab hw (fun g h => by rcases h with h | ⟨_, h1, h2⟩ <;> omega), fun m v w w' hm hw h => h.stab hw (fun g h => by rcases h with h | ⟨h, _⟩ <;> first | omega | (rw [show m 6 = true from hm] at h; cases h)), fun m v w w' _ _ h => h, fun m v w w' _ _ h => h, trivial⟩
      case iv2 =>
        refine MOpsF.op (fun vs wx m k hmj hcl hI hk hf K hK => ?_) ?_
        · clear hf hcl
          replace hK := hide hK
          replace hI := hide hI
          go_wp2_with fail
          replace hK := hK.out (.pointer (some ⟨gm, 0, none⟩))
          simp only [Act.put, List.setIfInBounds_toArray, List.set_cons_zero, List.set_cons_succ, Nat.add_zero] at hK
          exact hK _ ((hI.out.same (by decide) (by decide))) (Wrt.pure (World.grownBy.refl _ _)) (rfl)
        refine MOpsF.op (fun vs wx m k hmj hcl hI hk hf K hK => ?_) ?_
        · have e0 : vs 0 = .pointer (some ⟨gm, 0, none⟩) := hf 0 (by decide) (by kernel_rfl)
          clear hf
          have h8 : m 8 = false := by
            cases hq : m 8 with
            | false => rfl
            | true => exact absurd (hcl 8 1 (by decide) (by decide) hq (by kernel_rfl)) (by rw [show m 1 = false from hmj]; simp)
          have c := (hI.2.2.2.2.1 h8).1
          clear hcl h8
          replace hK := hide hK
          replace hI := hide hI
          rw [e0]
          replace e0 := hide e0
          go_wp2_with fail
          replace hK := hK.out (.slice Aq n1 cq)
          simp only [Act.put, List.setIfInBounds_toArray, List.set_cons_zero, List.set_cons_succ, e0.out, Nat.add_zero] at hK
          exact hK _ ((hI.out.same (by decide) (by decide))) (Wrt.pure (World.grownBy.refl _ _)) (rfl)
        refine MOpsF.op (fun vs wx m k hmj hcl hI hk hf K hK => ?_) ?_
        · clear hf hcl
          replace hK := hide hK
          replace hI := hide hI
          go_wp2_with fail
          replace hK := hK.out (.func (.func 42) #[] #[.pointer (some ⟨gq, 0, none⟩), .pointer (some ⟨ga, 0, none⟩)])
          simp only [Act.put, List.setIfInBounds_toArray, List.set_cons_zero, List.set_cons_succ, Nat.add_zero] at hK
          exact hK _ ((hI.out.same (by decide) (by decide))) (Wrt.pure (World.grownBy.refl _ _)) (rfl)
        refine MOpsF.op (fun vs wx m k hmj hcl hI hk hf K hK => ?_) ?_
        · clear hf hcl
          have hVV := hI.2.2.1
          obtain ⟨⟨z0, -⟩, ⟨z1, -⟩, ⟨z2, -⟩⟩ := hVV
          replace hK := hide hK
          replace hI := hide hI
          go_wp2_with fail
          replace hK := hK.out (.agg #[.int .i64 vq.x, .int .i64 vq.y, .int .i64 vq.z])
          simp only [Act.put, List.setIfInBounds_toArray, List.set_cons_zero, List.set_cons_succ, Nat.add_zero] at hK
          exact hK _ ((hI.out.same (by decide) (by decide))) (Wrt.pure (World.grownBy.refl _ _)) (rfl)
        refine MOpsF.op (fun vs wx m k hmj hcl hI hk hf K hK => ?_) ?_
        · have e2 : vs 2 = .func (.func 42) #[] #[.pointer (some ⟨gq, 0, none⟩), .pointer (some ⟨ga, 0, none⟩)] := hf 2 (by decide) (by kernel_rfl)
          have e3 : vs 3 = .agg #[.int .i64 vq.x, .int .i64 vq.y, .int .i64 vq.z] := hf 3 (by decide) (by kernel_rfl)
          clear hf hcl
          have hCL := hide (hclo.out wx hI.1)
          replace hK := hide hK
          replace hI := hide hI
          rw [e2, e3]
          replace e2 := hide e2
          replace e3 := hide e3
          go_wp2_with fail
          go_at_call 42
          refine hCL.out.mono ?_
          rintro e wy ⟨rfl, hgy⟩
          go_wp2_with fail
          replace hK := hK.out (.agg #[.int .i64 uq.x, .int .i64 uq.y, .int .i64 uq.z])
          simp only [Act.put, List.setIfInBounds_toArray, List.set_cons_zero, List.set_cons_succ, e2.out, e3.out, Nat.add_zero] at hK
          exact hK _ (((hI.out.same (by decide) (by decide)).pure hgy)) (Wrt.pure hgy) (rfl)
        refine MOpsF.op (fun vs wx m k hmj hcl hI hk hf K hK => ?_) ?_
        · have e4 : vs 4 = .agg #[.int .i64 uq.x, .int .i64 uq.y, .int .i64 uq.z] := hf 4 (by decide) (by kernel_rfl)
          clear hf hcl
          replace hK := hide hK
          replace hI := hide hI
          rw [e4]
          replace e4 := hide e4
          go_wp2_with fail
          replace hK := hK.out (.slice (some ⟨wx.heap.size, 0, none⟩) 1 1)
          simp only [Act.put, List.setIfInBounds_toArray, List.set_cons_zero, List.set_cons_succ, e4.out, Nat.add_zero] at hK
          exact hK _ (((hI.out.same (by decide) (by decide)).pure (gr_alloc (World.grownBy.refl _ _) _))) (Wrt.pure (gr_alloc (World.grownBy.refl _ _) _)) (⟨wx.heap.size, rfl, sl_oneAt _ _ _ _ _ _ rfl hI.out.2.1 rfl⟩)
        refine MOpsF.op (fun vs wx m k hmj hcl hI hk hf K hK => ?_) ?_
        · have e1 : vs 1 = .slice Aq n1 cq := hf 1 (by decide) (by kernel_rfl)
          obtain ⟨g5, e5, hsl⟩ := hf 5 (by decide) (by kernel_rfl)
          clear hf
          have h8 : m 8 = false := by
            cases hq : m 8 with
            | false => rfl
            | true => exact absurd (hcl 8 6 (by decide) (by decide) hq (by kernel_rfl)) (by rw [show m 6 = false from hmj]; simp)
          have hown := hI.2.2.2.1 hmj
          obtain ⟨i0, hi, hz, h1, h2⟩ := info_parts info_v3
          replace hK := hide hK
          replace hI := hide hI
          rw [e1, e5]
          replace e1 := hide e1
          replace e5 := hide e5
          refine wp_pushAt (α := V3) _ (.tmp 20) (.tmp 24) _ rfl lo 47 i0 _ 24 Tryz.underlying26 hi hz h1 h2 rfl _ _ _ lq rfl ?_ hown lo2 ⟨g5, 0, none⟩ 1 1 [uq] rfl ?_ hsl ?_ ?_ ?_ ?_
          · exact hq1.symm
          · rfl
          · simp; omega
          · simp [maxLen]; omega
          · have := hI.out.2.1; omega
          intro A5 c5 w5 hown5 hG5
          simp only [Act.put, List.setIfInBounds_toArray, List.set_cons_zero, List.set_cons_succ]
          replace hK := hK.out (.slice A5 (lq ++ [uq]).length c5)
          simp only [Act.put, List.setIfInBounds_toArray, List.set_cons_zero, List.set_cons_succ, e1.out, e5.out, Nat.add_zero] at hK
          exact hK _ ((hI.out.app hq (show m 6 = false from hmj) h8 hG5 hown)) (⟨_, hG5.1, fun g e => .inr ⟨hmj, (hown.blk_lt e).1, hqA g e⟩⟩) (⟨A5, c5, by rw [List.length_append, hq1]; rfl, hown5⟩)
        refine MOpsF.op (fun vs wx m k hmj hcl hI hk hf K hK => ?_) ?_
        · clear hf hcl
          replace hK := hide hK
          replace hI := hide hI
          go_wp2_with fail
          replace hK := hK.out (.pointer (some ⟨gm, 0, none⟩))
          simp only [Act.put, List.setIfInBounds_toArray, List.set_cons_zero, List.set_cons_succ, Nat.add_zero] at hK
          exact hK _ ((hI.out.same (by decide) (by decide))) (Wrt.pure (World.grownBy.refl _ _)) (rfl)
        refine MOpsF.op (fun vs wx m k hmj hcl hI hk hf K hK => ?_) ?_
        · have e7 : vs 7 = .pointer (some ⟨gm, 0, none⟩) := hf 7 (by decide) (by kernel_rfl)
          obtain ⟨A6, c6, e6, ho6⟩ := hf 6 (by decide) (by kernel_rfl)
          clear hf hcl
          have c := hI.2.2.2.2.1 hmj
          obtain ⟨c, fz⟩ := c
          have hgs := gr_set (World.grownBy.refl wx (some gm)) (p := ⟨gm, 0, none⟩) (.inl rfl) (.slice A6 (n1 + 1) c6)
          replace hgs := hide hgs
          replace ho6 := hide ho6
          replace hK := hide hK
          replace hI := hide hI
          rw [e7, e6]
          replace e7 := hide e7
          replace e6 := hide e6
          go_wp2_with fail
          replace hK := hK.out (undef)
          simp only [Act.put, List.setIfInBounds_toArray, List.set_cons_zero, List.set_cons_succ, e7.out, e6.out, Nat.add_zero] at hK
          exact hK _ ((hI.out.fin hq ⟨c, fz⟩ ho6.out)) (Wrt.one hgs.out (.inl rfl)) (trivial)
        exact MOpsF.done
      case iv0 => exact fun m hm => hI0.out m (hm 8 (by decide))
      case iv3 =>
        intro vs' w9 m hm' hI hf
        have h8 := hm' 8 (by decide)
        obtain ⟨-, -, -, -, -, k6, k7, k8⟩ := hI
        obtain ⟨A2, c2, k0, kO⟩ := k8 h8
        clear hf hm' h8 hI0 hq hqA k8
        rw [hlo.out] at kO
        rw [hbv.out] at k6
        obtain rfl := hgm.out
        obtain rfl := hgv.out
        go_wp2_with fail
        (go_roundw; (case rel => exact ⟨n1 + 1, A2, c2, by omega, by go_num, by rw [hls.out]; exact kO, k0, k6, k7⟩); (case measure => simp [intOf]; omega))
    · have hkn : n1 = vs.length := by omega
      subst hkn
      rw [List.take_length] at hown
      have hgw : w.grownBy wr none := gr_row hg3 hg (fun g e => by injection e; omega)
      have hB2 := hB.ne hg (fun g e1 e2 => by have := hBlt.out g e1; injection e2; omega)
      obtain ⟨x0, y0⟩ := q0.out.gr hg (fun e => by injection e; omega)
      obtain ⟨x1, y1⟩ := q1.out.gr hg (fun e => by injection e; omega)
      obtain ⟨c0, -⟩ := c0
      obtain ⟨c1, -⟩ := c1
      have hltb : w1.heap.size < wr.heap.size := cell_lt c0
      clear hg hcl
      go_wp2_with fail
      have hgs := fun (v1 v2 : Value) => gr_set (gr_set (World.grownBy.refl wr (some (w.heap.size + 1))) (p := ⟨w.heap.size + 1, 0, none⟩) (.inl rfl) v1) (p := ⟨w.heap.size + 1, 1, none⟩) (.inl rfl) v2
      have hWs' := hWs.out
      refine bodyPost_ret (v := .agg #[.slice Aq vs.length cq, .slice B' fs.length d']) (by simp [results, Tryz.results41, go_sem, x0, x1, y0, y1]) rfl ⟨Aq, cq, B', d', rfl, ?_, ?_, ?_, gr_row hgw (hgs _ _) (fun g e => by injection e; omega)⟩
      · exact (hown.ne (hgs _ _) (fun g e1 e2 => by have := (hown.blk_lt e1).1; injection e2; omega)).lower (by omega)
      · exact (hB2.ne (hgs _ _) (fun g e1 e2 => by have := (hB2.blk_lt e1).1; injection e2; omega)).lower (by omega)
      · intro g e1 e2
        have := (hown.blk_lt e1).1
        have := hBlt.out g e2
        omega

end Go.Proofs.YtbpkkgeedkegcaaGreatDoor

namespace Go.Proofs.YtbpkkgeedkegcaaGreatDoor
open Go.RowKit Go.Bl

end Go.Proofs.YtbpkkgeedkegcaaGreatDoor

namespace Go.Proofs.YtbpkkgeedkegcaaGreatDoor
open Go.RowKit Go.Bl

theorem right_bd {vs : List V3} {fs : List Fc} (h : meshF ⟨vs, fs⟩ = 0) : (∀ v ∈ vs, Bd 100000 v) ∧ vs.length ≤ 1000 ∧ fs.length ≤ 1000 ∧ fs ≠ [] ∧ vs ≠ [] := by
  by_cases h1 : fs = []
  · rw [meshF_none h1] at h; cases h
  by_cases h2 : 1000 < vs.length ∨ 1000 < fs.length
  · rw [meshF_large h1 h2] at h; cases h
  cases h3 : vs.any farV with
  | true => rw [meshF_far h1 h2 h3] at h; cases h
  | false =>
    by_cases h4 : facesF vs fs = 0
    · refine ⟨fun v hv => farV_no (by have := List.any_eq_false.1 h3 v hv; simpa using this), by omega, by omega, h1, ?_⟩
      rintro rfl
      obtain ⟨f, r, rfl⟩ := List.exists_cons_of_ne_nil h1
      have := faceF_in (facesF_mem h4 f (List.mem_cons_self ..))
      simp only [inF, inI, List.length_nil, Bool.and_eq_true, decide_eq_true_eq] at this
      omega
    · rw [meshF_face h1 h2 h3 h4] at h; exact absurd h h4

def turnR (m : MeshV) (axis q : Int) : MeshV × Int :=
  if meshF m = 0 then (if outB axis 0 2 = true then (⟨[], []⟩, 4) else if outB q 0 3 = true then (⟨[], []⟩, 1) else (okM ⟨m.vs.map (turnV axis q.toNat), m.fs⟩, meshF ⟨m.vs.map (turnV axis q.toNat), m.fs⟩)) else (⟨[], []⟩, meshF m)

end Go.Proofs.YtbpkkgeedkegcaaGreatDoor

namespace Go.Proofs.YtbpkkgeedkegcaaGreatDoor
open Go.RowKit Go.Bl

def in3 (n : Int) : Bool := inB n (-300000) 300000

def allIn (t : V3) : Bool := in3 t.x && in3 t.y && in3 t.z

def movR (m : MeshV) (t : V3) : MeshV × Int := if allIn t = true then (okM ⟨m.vs.map (moveV t), m.fs⟩, meshF ⟨m.vs.map (moveV t), m.fs⟩) else (⟨[], []⟩, 1)

def moveR (m : MeshV) (t : V3) : MeshV × Int := if meshF m = 0 then (okM ⟨m.vs.map (moveV (clampV t)), m.fs⟩, meshF ⟨m.vs.map (moveV (clampV t)), m.fs⟩) else (⟨[], []⟩, meshF m)

end Go.Proofs.YtbpkkgeedkegcaaGreatDoor

namespace Go.Proofs.YtbpkkgeedkegcaaGreatDoor
open Go.RowKit Go.Bl

/-- a row from lo on that is not frozen -/
def OpA (w : World) (lo : Nat) (A : Option Addr) : Prop := ∀ g, blk A = some g → lo ≤ g ∧ g < w.heap.size ∧ ∀ j, w.frozen? ⟨g, j, none⟩ = false

theorem OpA.nil (w : World) (lo : Nat) : OpA w lo none := fun g e => by cases e

theorem OpA.gr {w w' : World} {lo : Nat} {A : Option Addr} {r : Option Nat} (h : OpA w lo A) (hg : w.grownBy w' r) (hr : ∀ g, r = some g → g < lo) : OpA w' lo A := fun g e => by
  obtain ⟨h1, h2, h3⟩ := h g e
  exact ⟨h1, Nat.lt_of_lt_of_le h2 hg.size, fun j => (World.frozen?_of_block (hg.block g h2 (fun e => by have := hr g e.symm; omega))).trans (h3 j)⟩

theorem OpA.pure {w w' : World} {lo : Nat} {A : Option Addr} (h : OpA w lo A) (hg : w.grownBy w' none) : OpA w' lo A := h.gr hg (fun g e => by cases e)

theorem OpA.mono {w : World} {lo lo' : Nat} {A : Option Addr} (h : OpA w lo A) (hl : lo' ≤ lo) : OpA w lo' A := fun g e => ⟨Nat.le_trans hl (h g e).1, (h g e).2⟩

theorem OpA.own {α : Type} [Enc α] {w : World} {lo : Nat} {e : TypeId} {A : Option Addr} {c : Nat} {l : List α} (h : Own w lo e A c l) : OpA w lo A := fun g hg => by
  refine ⟨(h.blk_lt hg).1, (h.blk_lt hg).2, fun j => ?_⟩
  rcases A with _ | ⟨b, o, s⟩
  · cases hg
  · obtain ⟨hx, cs, hr, h1, h2⟩ := h
    have h : Own w lo e (some ⟨b, o, s⟩) c l := ⟨hx, cs, hr, h1, h2⟩
    rcases h2 with ⟨hv, _⟩ | ⟨g', cap, cur, hv, _⟩
    · cases hv
    · injection hv with e1 _ _
      injection e1 with e1
      cases e1
      have e2 : b = g := by simpa [blk] using hg
      subst e2
      exact h.frozen j

def SMeshT (lo : Nat) (m : MeshV) (F : Int) (w : World) (e : Ending) (w' : World) : Prop :=
  ∃ (A : Option Addr) (c : Nat) (B : Option Addr) (d : Nat), e = .returned (.tuple #[.agg #[.slice A m.vs.length c, .slice B m.fs.length d], .int .i64 F]) ∧ Sl w' lo A m.vs ∧ Sl w' lo B m.fs ∧ OpA w' lo A ∧ OpA w' lo B ∧ w.grownBy w' none

set_option maxRecDepth 100000 in
theorem checkedT_any (A : Option Addr) (c : Nat) (vs : List V3) (B : Option Addr) (d : Nat) (fs : List Fc) (w : World) (lo : Nat) (hl : Sl w lo A vs) (hfs : Sl w lo B fs) (hoA : OpA w lo A) (hoB : OpA w lo B) :
    Calls Tryz.prog 32 #[.agg #[.slice A vs.length c, .slice B fs.length d]] w (SMeshT lo (okM ⟨vs, fs⟩) (meshF ⟨vs, fs⟩) w) := by
  have hl0 := hl
  have hfs0 := hfs
  obtain ⟨W, hW⟩ : ∃ W, W = (w.alloc (.cells #[.slice A vs.length c, .slice B fs.length d] 29)).alloc (.cells #[.slice none 0 0, .slice none 0 0] 29) := ⟨_, rfl⟩
  have hlt0 : w.heap.size < w.heap.size + 1 := Nat.lt_succ_self _
  have hg0 : w.grownBy W none := by rw [hW]; exact (by repeat (first | exact World.grownBy.refl _ _ | assumption | refine gr_alloc ?_ _ | (apply gr_tail; assumption) | refine gr_drewN ?_ _ | refine gr_drew ?_))
  have b0 : W.cell? ⟨w.heap.size, 0, none⟩ = some (.slice A vs.length c) := by rw [hW]; go_simp
  have b1 : W.cell? ⟨w.heap.size, 1, none⟩ = some (.slice B fs.length d) := by rw [hW]; go_simp
  have q0 : Cell W (w.heap.size + 1) 0 (.slice none 0 0) := by rw [hW]; exact ⟨by go_simp, by go_simp⟩
  have q1 : Cell W (w.heap.size + 1) 1 (.slice none 0 0) := by rw [hW]; exact ⟨by go_simp, by go_simp⟩
  have hCM := checkMesh_any A c vs B d fs W ((hl.mono (Nat.zero_le _)).pure hg0) ((hfs.mono (Nat.zero_le _)).pure hg0)
  replace hW := hide hW.symm
  by_cases hM : meshF ⟨vs, fs⟩ = 0
  · rw [show okM ⟨vs, fs⟩ = ⟨vs, fs⟩ by unfold okM; rw [if_pos hM], hM]
    rw [hM] at hCM
    clear hM
    replace hCM := hide hCM
    go_enter Tryz.func32, Tryz.ntmps32
    go_wp2_with fail
    rw [hW.out]
    refine hCM.out.mono ?_
    rintro e w1 ⟨rfl, hg1⟩
    replace b0 := hg1.k b0
    replace b1 := hg1.k b1
    obtain ⟨x0, y0⟩ := q0.gr hg1 (by simp)
    obtain ⟨x1, y1⟩ := q1.gr hg1 (by simp)
    replace hl := (hl.pure hg0).pure hg1
    replace hfs := (hfs.pure hg0).pure hg1
    have hg2 := gr_trans hg0 hg1
    clear hCM hW q0 q1
    go_wp2_with fail
    have hgs := fun (v1 v2 : Value) => gr_set (gr_set (World.grownBy.refl w1 (some (w.heap.size + 1))) (p := ⟨w.heap.size + 1, 0, none⟩) (.inl rfl) v1) (p := ⟨w.heap.size + 1, 1, none⟩) (.inl rfl) v2
    have hk := fun v1 v2 => gr_row hg2 (hgs v1 v2) (fun g e => by injection e; omega)
    refine bodyPost_ret (v := .tuple #[.agg #[.slice A vs.length c, .slice B fs.length d], .int .i64 0]) (by simp [results, Tryz.results32, go_sem, x0, x1, y0, y1]) rfl ⟨A, c, B, d, rfl, hl0.pure (hk _ _), hfs0.pure (hk _ _), hoA.pure (hk _ _), hoB.pure (hk _ _), hk _ _⟩
  · rw [show okM ⟨vs, fs⟩ = ⟨[], []⟩ by unfold okM; rw [if_neg hM]]
    generalize meshF ⟨vs, fs⟩ = F at *
    replace hCM := hide hCM
    go_enter Tryz.func32, Tryz.ntmps32
    go_wp2_with fail
    rw [hW.out]
    refine hCM.out.mono ?_
    rintro e w1 ⟨rfl, hg1⟩
    obtain ⟨x0, y0⟩ := q0.gr hg1 (by simp)
    obtain ⟨x1, y1⟩ := q1.gr hg1 (by simp)
    have hg2 := gr_trans hg0 hg1
    clear hCM hW q0 q1
    go_wp2_with fail
    have hgs := fun (v1 v2 : Value) => gr_set (gr_set (World.grownBy.refl w1 (some (w.heap.size + 1))) (p := ⟨w.heap.size + 1, 0, none⟩) (.inl rfl) v1) (p := ⟨w.heap.size + 1, 1, none⟩) (.inl rfl) v2
    have hk := fun v1 v2 => gr_row hg2 (hgs v1 v2) (fun g e => by injection e; omega)
    exact bodyPost_ret (v := .tuple #[.agg #[.slice none 0 0, .slice none 0 0], .int .i64 F]) (by simp [results, Tryz.results32, go_sem, x0, x1, y0, y1]) rfl ⟨none, 0, none, 0, rfl, slNil _ _ _, slNil _ _ _, OpA.nil _ _, OpA.nil _ _, hk _ _⟩

end Go.Proofs.YtbpkkgeedkegcaaGreatDoor

namespace Go.Proofs.YtbpkkgeedkegcaaGreatDoor
open Go.RowKit Go.Bl

set_option maxHeartbeats 1000000 in
set_option maxRecDepth 100000 in
theorem turnedT_any (A : Option Addr) (c : Nat) (vs : List V3) (B : Option Addr) (d : Nat) (fs : List Fc) (axis q : Int) (w : World) (hl : Sl w 0 A vs) (hfs : Sl w 0 B fs) :
    Calls Tryz.prog 14 #[.agg #[.slice A vs.length c, .slice B fs.length d], .int .i64 axis, .int .i64 q] w (SMeshT w.heap.size (turnR ⟨vs, fs⟩ axis q).1 (turnR ⟨vs, fs⟩ axis q).2 w) := by
  have hmf : ∀ (fn : Fn) (first cap : Array Value) (w : World), (Instr.makeFunc fn first cap).run Tryz.prog w = .ok (.func fn first cap) w := fun _ _ _ _ => rfl
  obtain ⟨W, hW⟩ : ∃ W, W = (((w.alloc (.cells #[.slice A vs.length c, .slice B fs.length d] 29)).alloc (.cells #[.int .i64 axis] 3)).alloc (.cells #[.int .i64 q] 3)).alloc (.cells #[.slice none 0 0, .slice none 0 0] 29) := ⟨_, rfl⟩
  have hlt0 : w.heap.size < w.heap.size + 1 := Nat.lt_succ_self _
  have hlt1 : w.heap.size < w.heap.size + 1 + 1 := by omega
  have hlt2 : w.heap.size < w.heap.size + 1 + 1 + 1 := by omega
  have hlt3 : w.heap.size + 1 < w.heap.size + 1 + 1 + 1 := by omega
  have hWs : W.heap.size = w.heap.size + 1 + 1 + 1 + 1 := by rw [hW]; simp
  have hg0 : w.grownBy W none := by rw [hW]; exact (by repeat (first | exact World.grownBy.refl _ _ | assumption | refine gr_alloc ?_ _ | (apply gr_tail; assumption) | refine gr_drewN ?_ _ | refine gr_drew ?_))
  have b0 : W.cell? ⟨w.heap.size, 0, none⟩ = some (.slice A vs.length c) := by rw [hW]; go_simp
  have b1 : W.cell? ⟨w.heap.size, 1, none⟩ = some (.slice B fs.length d) := by rw [hW]; go_simp
  have ba : W.cell? ⟨w.heap.size + 1, 0, none⟩ = some (.int .i64 axis) := by rw [hW]; go_simp
  have bq : W.cell? ⟨w.heap.size + 1 + 1, 0, none⟩ = some (.int .i64 q) := by rw [hW]; go_simp
  have q0 : Cell W (w.heap.size + 1 + 1 + 1) 0 (.slice none 0 0) := by rw [hW]; exact ⟨by go_simp, by go_simp⟩
  have q1 : Cell W (w.heap.size + 1 + 1 + 1) 1 (.slice none 0 0) := by rw [hW]; exact ⟨by go_simp, by go_simp⟩
  replace hW := hide hW.symm
  replace hWs := hide hWs
  have hlW := hl.pure hg0
  have hfW := hfs.pure hg0
  have hCM := checkMesh_any A c vs B d fs W hlW hfW
  by_cases hM : meshF ⟨vs, fs⟩ = 0
  · rw [hM] at hCM
    replace hCM := hide hCM
    cases hax : outB axis 0 2 with
    | true =>
      rw [show turnR ⟨vs, fs⟩ axis q = (⟨[], []⟩, 4) by unfold turnR; rw [if_pos hM, if_pos hax]]
      replace hax := hide hax
      clear hM
      go_enter Tryz.func14, Tryz.ntmps14
      go_wp2_with fail
      rw [hW.out]
      refine hCM.out.mono ?_
      rintro e w1 ⟨rfl, hg1⟩
      replace ba := hg1.k ba
      obtain ⟨x0, y0⟩ := q0.gr hg1 (by simp)
      obtain ⟨x1, y1⟩ := q1.gr hg1 (by simp)
      have hg2 := gr_trans hg0 hg1
      go_wp2_with fail
      refine (isAxis_any _ _).mono ?_
      rintro e w2 ⟨rfl, rfl⟩
      rw [hax.out]
      go_wp2_with fail
      have hk := fun (v1 v2 : Value) => gr_set (gr_set hg2 (p := ⟨w.heap.size + 1 + 1 + 1, 0, none⟩) (.inr (by simp only; omega)) v1) (p := ⟨w.heap.size + 1 + 1 + 1, 1, none⟩) (.inr (by simp only; omega)) v2
      exact bodyPost_ret (v := .tuple #[.agg #[.slice none 0 0, .slice none 0 0], .int .i64 (4)]) (by simp [results, Tryz.results14, go_sem, x0, x1, y0, y1]) rfl ⟨none, 0, none, 0, rfl, slNil _ _ _, slNil _ _ _, OpA.nil _ _, OpA.nil _ _, hk _ _⟩
    | false =>
      cases hqq : outB q 0 3 with
      | true =>
        rw [show turnR ⟨vs, fs⟩ axis q = (⟨[], []⟩, 1) by unfold turnR; rw [if_pos hM, if_neg (by rw [hax]; simp), if_pos hqq]]
        replace hax := hide hax
        replace hqq := hide hqq
        clear hM
        go_enter Tryz.func14, Tryz.ntmps14
        go_wp2_with fail
        rw [hW.out]
        refine hCM.out.mono ?_
        rintro e w1 ⟨rfl, hg1⟩
        replace ba := hg1.k ba
        replace bq := hg1.k bq
        obtain ⟨x0, y0⟩ := q0.gr hg1 (by simp)
        obtain ⟨x1, y1⟩ := q1.gr hg1 (by simp)
        have hg2 := gr_trans hg0 hg1
        go_wp2_with fail
        refine (isAxis_any _ _).mono ?_
        rintro e w2 ⟨rfl, rfl⟩
        rw [hax.out]
        go_wp2_with fail
        refine (outside_any _ _ _ _).mono ?_
        rintro e w2 ⟨rfl, rfl⟩
        rw [hqq.out]
        go_wp2_with fail
        have hk := fun (v1 v2 : Value) => gr_set (gr_set hg2 (p := ⟨w.heap.size + 1 + 1 + 1, 0, none⟩) (.inr (by simp only; omega)) v1) (p := ⟨w.heap.size + 1 + 1 + 1, 1, none⟩) (.inr (by simp only; omega)) v2
        exact bodyPost_ret (v := .tuple #[.agg #[.slice none 0 0, .slice none 0 0], .int .i64 (1)]) (by simp [results, Tryz.results14, go_sem, x0, x1, y0, y1]) rfl ⟨none, 0, none, 0, rfl, slNil _ _ _, slNil _ _ _, OpA.nil _ _, OpA.nil _ _, hk _ _⟩
      | false =>
        rw [show turnR ⟨vs, fs⟩ axis q = (okM ⟨vs.map (turnV axis q.toNat), fs⟩, meshF ⟨vs.map (turnV axis q.toNat), fs⟩) by unfold turnR; rw [if_pos hM, if_neg (by rw [hax]; simp), if_neg (by rw [hqq]; simp)]]
        obtain ⟨hbd, hvl, hfl, _, _⟩ := right_bd hM
        obtain ⟨n, rfl, hn⟩ : ∃ n : Nat, q = n ∧ n ≤ 3 := ⟨q.toNat, by simp [outB] at hqq; omega, by simp [outB] at hqq; omega⟩
        rw [Int.toNat_natCast]
        have hcl : ∀ w1, W.grownBy w1 none → Hid (∀ v ∈ vs, ∀ wx, w1.grownBy wx none → Calls Tryz.prog 42 #[.agg #[.int .i64 v.x, .int .i64 v.y, .int .i64 v.z], .pointer (some ⟨w.heap.size + 1 + 1, 0, none⟩), .pointer (some ⟨w.heap.size + 1, 0, none⟩)] wx fun e w' => e = .returned (.agg #[.int .i64 (turnV axis n v).x, .int .i64 (turnV axis n v).y, .int .i64 (turnV axis n v).z]) ∧ wx.grownBy w' none) :=
          fun w1 hg v hv wx hx => turnClo_any _ _ n axis v wx (hbd v hv) hn ((gr_trans hg hx).k bq) ((gr_trans hg hx).k ba)
        replace hcl := hide hcl
        replace hax := hide hax
        replace hqq := hide hqq
        replace hbd := hide hbd
        clear hM
        go_enter Tryz.func14, Tryz.ntmps14
        go_wp2_with fail
        rw [hW.out]
        refine hCM.out.mono ?_
        rintro e w1 ⟨rfl, hg1⟩
        have ba := hg1.k ba
        have bq := hg1.k bq
        replace b0 := hg1.k b0
        replace b1 := hg1.k b1
        replace q0 := hide (q0.gr hg1 (by simp))
        replace q1 := hide (q1.gr hg1 (by simp))
        have hg2 := gr_trans hg0 hg1
        go_wp2_with fail
        refine (isAxis_any _ _).mono ?_
        rintro e w2 ⟨rfl, rfl⟩
        rw [hax.out]
        go_wp2_with fail
        refine (outside_any _ _ _ _).mono ?_
        rintro e w2 ⟨rfl, rfl⟩
        rw [hqq.out]
        go_wp2_with fail
        refine (mapTurn_any (turnV axis n) _ _ A c vs B d fs _ (hlW.pure hg1) (hfW.pure hg1) hvl hfl (hcl.out _ hg1)).mono ?_
        rintro e w2 ⟨A2, c2, B2, d2, rfl, hA2, hB2, -, hg3⟩
        replace q0 := hide (q0.out.gr hg3 (by simp))
        replace q1 := hide (q1.out.gr hg3 (by simp))
        have hgX := gr_trans hg2 hg3
        have hlm : (vs.map (turnV axis n)).length = vs.length := List.length_map _
        have hsz1 := hg1.size
        have hR := checkedT_any A2 c2 (vs.map (turnV axis n)) B2 d2 fs w2 w1.heap.size hA2.sl hB2.sl (OpA.own hA2) (OpA.own hB2)
        rw [hlm] at hR
        replace hR := hide hR
        clear hg2 hcl hCM hW
        go_wp2_with fail
        refine hR.out.mono ?_
        rintro e w9 ⟨A9, c9, B9, d9, rfl, s1, s2, o1, o2, hg9⟩
        obtain ⟨x0, y0⟩ := q0.out.gr hg9 (by simp)
        obtain ⟨x1, y1⟩ := q1.out.gr hg9 (by simp)
        have hg2 := gr_trans hgX hg9
        have hWl := hWs.out
        clear hR
        go_wp2_with fail
        have hk := fun (v1 v2 : Value) => gr_set (gr_set hg2 (p := ⟨w.heap.size + 1 + 1 + 1, 0, none⟩) (.inr (by simp only; omega)) v1) (p := ⟨w.heap.size + 1 + 1 + 1, 1, none⟩) (.inr (by simp only; omega)) v2
        have hgs := fun (v1 v2 : Value) => gr_set (gr_set (World.grownBy.refl w9 (some (w.heap.size + 1 + 1 + 1))) (p := ⟨w.heap.size + 1 + 1 + 1, 0, none⟩) (.inl rfl) v1) (p := ⟨w.heap.size + 1 + 1 + 1, 1, none⟩) (.inl rfl) v2
        refine bodyPost_ret (v := .tuple #[.agg #[.slice A9 (okM ⟨vs.map (turnV axis n), fs⟩).vs.length c9, .slice B9 (okM ⟨vs.map (turnV axis n), fs⟩).fs.length d9], .int .i64 (meshF ⟨vs.map (turnV axis n), fs⟩)]) (by simp [results, Tryz.results14, go_sem, x0, x1, y0, y1]) rfl ⟨A9, c9, B9, d9, rfl, (s1.gr (hgs _ _) (fun g e => by injection e; omega)).mono (by omega), (s2.gr (hgs _ _) (fun g e => by injection e; omega)).mono (by omega), (o1.gr (hgs _ _) (fun g e => by injection e; omega)).mono (by omega), (o2.gr (hgs _ _) (fun g e => by injection e; omega)).mono (by omega), hk _ _⟩
  · rw [show turnR ⟨vs, fs⟩ axis q = (⟨[], []⟩, meshF ⟨vs, fs⟩) by unfold turnR; rw [if_neg hM]]
    generalize meshF ⟨vs, fs⟩ = F at *
    replace hCM := hide hCM
    go_enter Tryz.func14, Tryz.ntmps14
    go_wp2_with fail
    rw [hW.out]
    refine hCM.out.mono ?_
    rintro e w1 ⟨rfl, hg1⟩
    obtain ⟨x0, y0⟩ := q0.gr hg1 (by simp)
    obtain ⟨x1, y1⟩ := q1.gr hg1 (by simp)
    have hg2 := gr_trans hg0 hg1
    go_wp2_with fail
    have hk := fun (v1 v2 : Value) => gr_set (gr_set hg2 (p := ⟨w.heap.size + 1 + 1 + 1, 0, none⟩) (.inr (by simp only; omega)) v1) (p := ⟨w.heap.size + 1 + 1 + 1, 1, none⟩) (.inr (by simp only; omega)) v2
    exact bodyPost_ret (v := .tuple #[.agg #[.slice none 0 0, .slice none 0 0], .int .i64 (F)]) (by simp [results, Tryz.results14, go_sem, x0, x1, y0, y1]) rfl ⟨none, 0, none, 0, rfl, slNil _ _ _, slNil _ _ _, OpA.nil _ _, OpA.nil _ _, hk _ _⟩

end Go.Proofs.YtbpkkgeedkegcaaGreatDoor

/- Contracts of functions that this seat's laws reach, each: what one call returns and what it leaves in memory; no condition beyond each theorem's own hypotheses. -/
import Derived.Test.YtanioobepfllgaaGreatDoorZqFlrJ
import Derived.Test.YtanioobepfllgaaGreatDoorZqRefData
set_option linter.unusedVariables false
set_option linter.unusedSimpArgs false
namespace Go.Proofs.YtanioobepfllgaaGreatDoor
open Go Go.RowKit Go.Bl Go.Maps Go.WideShapes

def badI (F : Flr) (l : List Ev) : List Int := (badL F l 0).map fun i : Nat => (i : Int)

theorem badI_take {l : List Ev} {F : Flr} {j : Nat} (h : j < l.length) : badI F (l.take (j + 1)) = addB (badI F (l.take j)) (doE (runS F (l.take j)) l[j]) j := by
  unfold badI addB
  rw [badL_take h, List.map_append, Nat.zero_add]
  by_cases h0 : doE (runS F (l.take j)) l[j] = 0
  · rw [if_pos h0, if_pos h0]; rfl
  · rw [if_neg h0, if_neg h0]; rfl

theorem whyL_take' {l : List Ev} {F : Flr} {j : Nat} (h : j < l.length) : whyL F (l.take (j + 1)) = addB (whyL F (l.take j)) (doE (runS F (l.take j)) l[j]) (doE (runS F (l.take j)) l[j]) := by
  unfold addB
  rw [whyL_take h]

theorem badI_len (F : Flr) (l : List Ev) : (badI F l).length ≤ l.length ∧ (whyL F l).length = (badI F l).length := by
  unfold badI
  rw [List.length_map]
  exact ⟨badL_len l F 0, (bad_why l F 0).symm⟩

/-- Refused's world while events are followed -/
def RefI (w : World) (lo x8 x9 : Nat) (p : List Prn) (l : List Ev) (k : Nat) (wx : World) : Prop :=
  w.grownBy wx none ∧ lo ≤ wx.heap.size ∧ ∃ A1 c1 A2 c2, Box wx x8 22 [.slice A1 (badI (newF p) (l.take k)).length c1] ∧ Box wx x9 61 [.slice A2 (whyL (newF p) (l.take k)).length c2] ∧
    Own wx lo 3 A1 c1 (badI (newF p) (l.take k)) ∧ Own wx lo 33 A2 c2 (whyL (newF p) (l.take k))

theorem RefI.grs {w : World} {lo x8 x9 : Nat} {p : List Prn} {l : List Ev} {k : Nat} {wx wy : World} {q : Nat → Prop} (h : RefI w lo x8 x9 p l k wx) (hG : GrS q wx wy) (hw : w.heap.size ≤ lo) (hq : ∀ x, q x → lo ≤ x ∧ ∃ es ck, wx.heap[x]? = some (.map es ck)) : RefI w lo x8 x9 p l k wy := by
  obtain ⟨h1, h2, A1, c1, A2, c2, h8, h9, o1, o2⟩ := h
  exact ⟨hG.new h1 fun x hx => by have := (hq x hx).1; omega, by have := hG.size; omega, A1, c1, A2, c2, hG.box h8 fun hx => map_noBox (hq _ hx).2 h8, hG.box h9 fun hx => map_noBox (hq _ hx).2 h9,
    Own.blkE o1 fun g hg => hG.block g (o1.blk_lt hg).2 fun hx => Own.noMap o1 hg (hq _ hx).2, Own.blkE o2 fun g hg => hG.block g (o2.blk_lt hg).2 fun hx => Own.noMap o2 hg (hq _ hx).2⟩

set_option maxHeartbeats 1000000 in
theorem refI_step (w : World) (lo x8 x9 : Nat) (p : List Prn) (l : List Ev) (hl5 : l.length ≤ 5000) (hx : x8 < lo ∧ x9 < lo) (hw : w.heap.size ≤ x8 ∧ w.heap.size ≤ x9 ∧ w.heap.size ≤ lo) (k : Nat) (hk : k < l.length) (wx : World) (hI : RefI w lo x8 x9 p l k wx) :
    Calls Tryz.prog 54 (#[] ++ (#[.int .i64 k, stdV ((runS (newF p) (l.take k)).s l[k].pr), .int .i64 (doE (runS (newF p) (l.take k)) l[k])] ++ #[.pointer (some ⟨x8, 0, none⟩), .pointer (some ⟨x9, 0, none⟩)])) wx fun e w' => e = .returned (.tuple #[]) ∧ RefI w lo x8 x9 p l (k + 1) w' ∧ KeepM lo wx w' := by
  obtain ⟨h1, h2, A1, c1, A2, c2, h8, h9, o1, o2⟩ := hI
  have hb := badI_len (newF p) (l.take k)
  have ht : (l.take k).length ≤ 5000 := by rw [List.length_take]; omega
  refine (refClo_any lo w.heap.size x8 x9 A1 A2 c1 c2 _ _ _ _ k _ (doE (runS (newF p) (l.take k)) l[k]) wx h8 h9 o1 o2 rfl rfl (by omega) (by omega) hx h2 hw).mono ?_
  rintro e w' ⟨rfl, ⟨A1', c1', A2', c2', g8, g9, q1, q2⟩, hG, hK⟩
  refine ⟨rfl, ⟨hG.new h1 fun x hx => hx, by have := hG.size; omega, A1', c1', A2', c2', ?_⟩, hK⟩
  rw [badI_take hk, whyL_take' hk]
  exact ⟨g8, g9, q1, q2⟩

set_option maxHeartbeats 4000000 in
set_option maxRecDepth 100000 in
theorem refused_any (P A : Option Addr) (pc c : Nat) (p : List Prn) (l : List Ev) (w : World)
    (hpl : Sl w 0 P p) (hpk : ∀ x ∈ p, okK x.key) (h50 : p.length ≤ 50) (hl5 : l.length ≤ 5000) (hev : ∀ e ∈ l, EvOk e) (hl : Sl w 0 A l) (hck : chkF p l = 0) :
    Calls Tryz.prog 25 #[.slice P p.length pc, .slice A l.length c] w fun e w' => ∃ A1 c1 A2 c2, e = .returned (.tuple #[.slice A1 (badI (newF p) l).length c1, .slice A2 (whyL (newF p) l).length c2, .int .i64 0]) ∧
      Sl w' w.heap.size A1 (badI (newF p) l) ∧ Sl w' w.heap.size A2 (whyL (newF p) l) ∧ w.grownBy w' none := by
  have hC := hide fun wx (h : w.grownBy wx none) => checkEvents_any P A pc c p l wx (hpl.pure h) (hl.pure h)
  rw [hck] at hC
  clear hck
  have hlim : limN l 345686400000 = l.length := limN_all fun e he => by have := (hev e he).at1.2; omega
  have hen : ∀ (xs : Array Value) wx, (callFunc 54 xs).run Tryz.prog wx = .ok (.enter 54 xs) wx := fun xs wx => run_enterF Tryz.func54 (by kernel_rfl) rfl xs wx
  have hFl := hide fun (w9 : World) (hg : w.grownBy w9 none) (x8 x9 : Nat) (hx : x8 < w9.heap.size ∧ x9 < w9.heap.size) (hw : w.heap.size ≤ x8 ∧ w.heap.size ≤ x9 ∧ w.heap.size ≤ w9.heap.size) (h0 : RefI w w9.heap.size x8 x9 p l 0 w9) =>
    follow_any P A pc c p l 345686400000 54 #[] #[.pointer (some ⟨x8, 0, none⟩), .pointer (some ⟨x9, 0, none⟩)] (RefI w w9.heap.size x8 x9 p l) w9 (hpl.pure hg) hpk h50 hl5 hev (fun k wx h => hl.pure h.1)
      (fun k wx wy q h1 h2 h3 => h1.grs h2 hw.2.2 h3) (fun k hk wx _ h1 => refI_step w w9.heap.size x8 x9 p l hl5 hx hw k hk wx h1) hen h0
  rw [hlim] at hFl
  clear hpl hpk hev hl hen hlim
  have hB0 : badI (newF p) l = badI (newF p) (l.take l.length) := by rw [List.take_length]
  have hY0 : whyL (newF p) l = whyL (newF p) (l.take l.length) := by rw [List.take_length]
  rw [hB0, hY0]
  clear hB0 hY0
  obtain ⟨BB, hBB⟩ : ∃ x, x = badI (newF p) (l.take l.length) := ⟨_, rfl⟩
  obtain ⟨YY, hYY⟩ : ∃ x, x = whyL (newF p) (l.take l.length) := ⟨_, rfl⟩
  rw [← hBB, ← hYY]
  replace hBB := hide hBB
  replace hYY := hide hYY
  go_enter Tryz.func25, Tryz.ntmps25
  go_wp2_with fail
  refine (hC.out _ (World.grownBy.refl _ _)).mono ?_
  rintro e w1 ⟨rfl, hg1⟩
  go_upto_region 5 with fail
  obtain ⟨w8, hw8⟩ : ∃ x, x = (w1).alloc (.cells [.slice none 0 0].toArray 22) := ⟨_, rfl⟩
  have hg8 : (w1).grownBy w8 none := by rw [hw8]; exact gr_alloc (World.grownBy.refl _ _) _
  have hb8 : Box w8 (w1).heap.size 22 [.slice none 0 0] := by rw [hw8]; exact Box.new _ _ _
  have hxs8 := hb8.lt
  rw [← hw8]
  clear hw8
  obtain ⟨x8, hx8⟩ : ∃ x, x = (w1).heap.size := ⟨_, rfl⟩
  rw [← hx8] at hb8 hxs8 ⊢
  have hxl8 : (w1).heap.size ≤ x8 := by omega
  clear hx8
  go_upto_region 6 with fail
  obtain ⟨w9, hw9⟩ : ∃ x, x = (w8).alloc (.cells [.slice none 0 0].toArray 61) := ⟨_, rfl⟩
  have hg9 : (w8).grownBy w9 none := by rw [hw9]; exact gr_alloc (World.grownBy.refl _ _) _
  have hb9 : Box w9 (w8).heap.size 61 [.slice none 0 0] := by rw [hw9]; exact Box.new _ _ _
  have hxs9 := hb9.lt
  rw [← hw9]
  clear hw9
  obtain ⟨x9, hx9⟩ : ∃ x, x = (w8).heap.size := ⟨_, rfl⟩
  rw [← hx9] at hb9 hxs9 ⊢
  have hxl9 : (w8).heap.size ≤ x9 := by omega
  clear hx9
  have hgw := hg1.t (hg8.t hg9)
  have hsw := hg1.size
  have hI0 : RefI w w9.heap.size x8 x9 p l 0 w9 := ⟨hgw, Nat.le_refl _, none, 0, none, 0, hb8.pure hg9, hb9, Own.nil _ _ _, Own.nil _ _ _⟩
  have hF := hide (hFl.out w9 hgw x8 x9 ⟨by omega, by omega⟩ ⟨by omega, by omega, hgw.size⟩ hI0)
  clear hFl hC hI0 hb8 hb9
  go_wp2_with fail
  refine hF.out.mono ?_
  rintro e w10 ⟨f, b1, b2, b3, b4, rfl, hF10, ⟨hg10, -, A1, c1, A2, c2, g8, g9, q1, q2⟩, hlo⟩
  rw [← hBB.out] at g8 q1
  rw [← hYY.out] at g9 q2
  obtain ⟨d8, -⟩ := g8.c 0 rfl
  obtain ⟨d9, -⟩ := g9.c 0 rfl
  clear hF hF10 hlo
  go_upto_region 7 with fail
  go_quiet (fail)
  go_wp2_with fail
  exact bodyPost_ret (v := .tuple #[.slice A1 BB.length c1, .slice A2 YY.length c2, .int .i64 0]) (by simp [results, Tryz.results25, go_sem]) rfl ⟨A1, c1, A2, c2, rfl, (q1.sl.mono hgw.size).pure (gr_drewN (World.grownBy.refl _ _) _), (q2.sl.mono hgw.size).pure (gr_drewN (World.grownBy.refl _ _) _), hg10.t (gr_drewN (World.grownBy.refl _ _) _)⟩

end Go.Proofs.YtanioobepfllgaaGreatDoor

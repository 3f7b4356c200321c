/- Contracts of functions that this seat's laws reach, each: what one call returns and what it leaves in memory; no condition beyond each theorem's own hypotheses. -/
import Derived.Test.YtmgcohfeijcgdaaGreatDoorMPathG
import Derived.Test.YtmgcohfeijcgdaaGreatDoorMPathE
import Derived.Test.YtmgcohfeijcgdaaGreatDoorMHead
set_option linter.unusedVariables false
set_option linter.unusedSimpArgs false
namespace Go.Bl
open Go

theorem Sl.drop {α : Type} [Enc α] {w : World} {lo g o : Nat} {l : List α} (h : Sl w lo (some ⟨g, o, none⟩) l) (k : Nat) : Sl w lo (some ⟨g, o + k * Enc.sz α, none⟩) (l.drop k) := by
  obtain ⟨hm, cs, hr, hl⟩ := h
  refine ⟨by rw [List.length_drop]; omega, _, hr.drop k, fun hne => ?_⟩
  obtain ⟨ad, e, hb, hc⟩ := hl (by rintro rfl; simp at hne)
  injection e with e
  subst e
  refine ⟨_, rfl, hb, fun j u hu => ?_⟩
  rw [List.getElem?_drop] at hu
  have := hc _ u hu
  rw [Addr.add_lit] at this ⊢
  rwa [Nat.add_assoc]

def VOwn {α : Type} [Enc α] (lo : Nat) (e : TypeId) (l : List α) : Value → World → Prop := fun v w => ∃ (A : Option Addr) (c : Nat), v = .slice A l.length c ∧ Own w lo e A c l
/-- a right visit of a path -/
def VOk (p : PathV) (s : Nat) (b : Bool) : Prop := p.pts.length ≤ 500 ∧ (∀ q ∈ p.pts, farP q = false) ∧ s < p.pts.length ∧ (p.cl = true → b = false) ∧ (p.cl = false → s = 0)

theorem turned_len {p : PathV} {s : Nat} {b : Bool} {k : Int} (h : VOk p s b) : 0 < (turned p ⟨k, s, b⟩).length ∧ (turned p ⟨k, s, b⟩).length ≤ 501 := by
  obtain ⟨h1, _, h3, _, _⟩ := h
  unfold turned
  simp only [Int.toNat_natCast]
  split
  · simp; omega
  · split <;> simp <;> omega

theorem turned_near {p : PathV} {s : Nat} {b : Bool} {k : Int} (h : VOk p s b) : ∀ q ∈ turned p ⟨k, s, b⟩, farP q = false := by
  obtain ⟨_, h2, _, _, _⟩ := h
  intro q hq
  refine h2 q ?_
  unfold turned at hq
  simp only [Int.toNat_natCast] at hq
  have hm : ∀ q, q ∈ p.pts.drop s ++ p.pts.take s → q ∈ p.pts := fun q hq => by
    rcases List.mem_append.1 hq with hq | hq
    · exact List.mem_of_mem_drop hq
    · exact List.mem_of_mem_take hq
  split at hq
  · rcases List.mem_append.1 hq with hq | hq
    · exact hm q hq
    · exact hm q (List.mem_of_mem_take hq)
  · split at hq
    · exact hm q (List.mem_reverse.1 hq)
    · exact hm q hq

end Go.Bl
namespace Go.Proofs.YtmgcohfeijcgdaaGreatDoor
open Go.RowKit Go.Bl

theorem clonePtN_any (A : Option Addr) (n c : Nat) (l : List Pt) (hn : l.length = n) (w : World) (hl : Sl w 0 A l) (hlen : l.length ≤ 1000000) :
    Calls Tryz.prog 57 #[.slice A n c] w fun e w' => ∃ A' c', e = .returned (.slice A' l.length c') ∧ Own w' w.heap.size 50 A' c' l ∧ w.grownBy w' none := by
  subst hn
  exact clonePt_any A c l w hl hlen

theorem reversePtN_any (lo g n c : Nat) (l : List Pt) (hnl : l.length = n) (w : World) (ho : Own w lo 50 (some ⟨g, 0, none⟩) c l) (hn : 0 < l.length) (hs : l.length ≤ 1000000) :
    Calls Tryz.prog 58 #[.slice (some ⟨g, 0, none⟩) n c] w fun e w' => (∃ v, e = .returned v) ∧ Own w' lo 50 (some ⟨g, 0, none⟩) c l.reverse ∧ w.grownBy w' (some g) := by
  subst hnl
  exact reversePt_any lo g c l w ho hn hs

set_option maxHeartbeats 1000000 in
set_option maxRecDepth 100000 in
theorem printed_any (A : Option Addr) (c : Nat) (l : List PathV) (k s : Nat) (b : Bool) (w : World) (hl : Sl w 0 A l) (hk : k < l.length) (hv : VOk l[k] s b) :
    Calls Tryz.prog 33 #[.slice A l.length c, .agg #[.int .i64 k, .int .i64 s, .bool b]] w fun e w' => ∃ A' c', e = .returned (.slice A' (turned l[k] ⟨k, s, b⟩).length c') ∧ Own w' w.heap.size 50 A' c' (turned l[k] ⟨k, s, b⟩) ∧ w.grownBy w' none := by
  have hm := hl.1
  unfold maxLen at hm
  obtain ⟨g, o, cx, rfl, hb0, hb1, ⟨A', c', rfl, hcp, hpts⟩, hc⟩ := hl.at_ (by decide) hk
  have c0 : w.cell? ⟨g, o + k * 2, none⟩ = some (.slice A' l[k].pts.length c') := hc 0 _ rfl
  have c1 : w.cell? ⟨g, o + k * 2 + 1, none⟩ = some (.bool l[k].cl) := hc 1 _ rfl
  clear hc
  generalize l[k] = p at *
  obtain ⟨pts, cl⟩ := p
  obtain ⟨hv1, hv2, hv3, hv4, hv5⟩ := hv
  simp only at c0 c1 hcp hpts hv1 hv2 hv3 hv4 hv5
  obtain ⟨g', o', cx, rfl, hb0', hb1', -, -⟩ := hpts.at_ (by decide) hv3
  have hT : Hid (turned ⟨pts, cl⟩ ⟨k, s, b⟩ = if cl then (pts.drop s ++ pts.take s) ++ (pts.drop s ++ pts.take s).take 1 else if b then (pts.drop s ++ pts.take s).reverse else pts.drop s ++ pts.take s) := rfl
  generalize turned ⟨pts, cl⟩ ⟨k, s, b⟩ = T at *
  obtain ⟨i0, hi, hz, h1, h2⟩ := info_parts info_pt
  have hgne : g ≠ w.heap.size := by omega
  have hgne2 : g' ≠ w.heap.size := by omega
  go_enter Tryz.func33, Tryz.ntmps33
  go_wp2_with fail
  have d0 := (Cell.new (w.alloc (.cells #[.int .i64 k, .int .i64 s, .bool b] 70)) [.slice (some ⟨g', o', none⟩) pts.length c', .bool cl] 47 0 _ rfl (w.heap.size + 1) (by simp)).1
  have d1 := (Cell.new (w.alloc (.cells #[.int .i64 k, .int .i64 s, .bool b] 70)) [.slice (some ⟨g', o', none⟩) pts.length c', .bool cl] 47 1 _ rfl (w.heap.size + 1) (by simp)).1
  have b1 := ((Cell.new w [.int .i64 k, .int .i64 s, .bool b] 70 1 _ rfl w.heap.size rfl).gr (gr_alloc (r := none) (World.grownBy.refl _ _) (.cells #[.slice (some ⟨g', o', none⟩) pts.length c', .bool cl] 47)) (by simp)).1
  have b2 := ((Cell.new w [.int .i64 k, .int .i64 s, .bool b] 70 2 _ rfl w.heap.size rfl).gr (gr_alloc (r := none) (World.grownBy.refl _ _) (.cells #[.slice (some ⟨g', o', none⟩) pts.length c', .bool cl] 47)) (by simp)).1
  have gW := gr_alloc (gr_alloc (r := none) (World.grownBy.refl w none) (.cells #[.int .i64 k, .int .i64 s, .bool b] 70)) (.cells #[.slice (some ⟨g', o', none⟩) pts.length c', .bool cl] 47)
  have zW : ((w.alloc (.cells #[.int .i64 k, .int .i64 s, .bool b] 70)).alloc (.cells #[.slice (some ⟨g', o', none⟩) pts.length c', .bool cl] 47)).heap.size = w.heap.size + 2 := by simp
  generalize (w.alloc (.cells #[.int .i64 k, .int .i64 s, .bool b] 70)).alloc (.cells #[.slice (some ⟨g', o', none⟩) pts.length c', .bool cl] 47) = W at *
  have hpW := hpts.pure gW
  replace zW := hide zW
  have hdl : Hid ((pts.drop s).length = pts.length - s) := by simp [Hid]
  have htl : Hid ((pts.take s).length = s) := by simp [Hid]; omega
  refine wp_region_hd 11 ((fun wx => W.grownBy wx none)) ((fun x y => x.grownBy y none)) [VIs (.pointer (some ⟨w.heap.size + 1, 0, none⟩)), VIs (.slice (some ⟨g', o', none⟩) pts.length c'), VIs (.pointer (some ⟨w.heap.size, 1, none⟩)), VIs (.int .i64 s), VIs (.slice (some ⟨g', o' + s * 2, none⟩) (pts.length - s) (c' - s)), VOwn W.heap.size 50 (pts.drop s), VIs (.pointer (some ⟨w.heap.size + 1, 0, none⟩)), VIs (.slice (some ⟨g', o', none⟩) pts.length c'), VIs (.pointer (some ⟨w.heap.size, 1, none⟩)), VIs (.int .i64 s), VIs (.slice (some ⟨g', o', none⟩) s c')] (by kernel_rfl) (by kernel_rfl) (by intro vs; simp only [List.take_succ_cons, List.take_zero, putAll, Act.put, List.setIfInBounds_toArray, List.set_cons_zero, List.set_cons_succ, Nat.reduceAdd]; exact rfl) (gr_drew (World.grownBy.refl _ _)) (⟨fun _ _ _ _ h => h, fun _ _ _ _ h => h, fun _ _ _ _ h => h, fun _ _ _ _ h => h, fun _ _ _ _ h => h, fun _ _ _ hg ⟨A, c, h1, h2⟩ => ⟨A, c, h1, h2.pure hg⟩, fun _ _ _ _ h => h, fun _ _ _ _ h => h, fun _ _ _ _ h => h, fun _ _ _ _ h => h, fun _ _ _ _ h => h, trivial⟩) ?hdO ?hdE
  case hdO =>
    refine HOps.op (fun vs wx hI hf K hK => ?_) ?_
    · clear hf
      replace hK := hide hK
      go_wp2_with fail
      replace hK := hK.out (.pointer (some ⟨w.heap.size + 1, 0, none⟩))
      simp only [Act.put, List.setIfInBounds_toArray, List.set_cons_zero, List.set_cons_succ, Nat.add_zero] at hK
      exact hK _ (hI) (World.grownBy.refl _ _) (rfl)
    refine HOps.op (fun vs wx hI hf K hK => ?_) ?_
    · have e0 : vs 0 = .pointer (some ⟨w.heap.size + 1, 0, none⟩) := hf 0 (by decide) (by kernel_rfl)
      clear hf
      replace hK := hide hK
      rw [e0]
      replace e0 := hide e0
      have y0 := hI.k d0
      replace hI := hide hI
      go_wp2_with fail
      replace hK := hK.out (.slice (some ⟨g', o', none⟩) pts.length c')
      simp only [Act.put, List.setIfInBounds_toArray, List.set_cons_zero, List.set_cons_succ, e0.out] at hK
      exact hK _ (hI.out) (World.grownBy.refl _ _) (rfl)
    refine HOps.op (fun vs wx hI hf K hK => ?_) ?_
    · clear hf
      replace hK := hide hK
      go_wp2_with fail
      replace hK := hK.out (.pointer (some ⟨w.heap.size, 1, none⟩))
      simp only [Act.put, List.setIfInBounds_toArray, List.set_cons_zero, List.set_cons_succ, Nat.add_zero] at hK
      exact hK _ (hI) (World.grownBy.refl _ _) (rfl)
    refine HOps.op (fun vs wx hI hf K hK => ?_) ?_
    · have e0 : vs 2 = .pointer (some ⟨w.heap.size, 1, none⟩) := hf 2 (by decide) (by kernel_rfl)
      clear hf
      replace hK := hide hK
      rw [e0]
      replace e0 := hide e0
      have y0 := hI.k b1
      replace hI := hide hI
      go_wp2_with fail
      replace hK := hK.out (.int .i64 s)
      simp only [Act.put, List.setIfInBounds_toArray, List.set_cons_zero, List.set_cons_succ, e0.out] at hK
      exact hK _ (hI.out) (World.grownBy.refl _ _) (rfl)
    refine HOps.op (fun vs wx hI hf K hK => ?_) ?_
    · have e1 : vs 1 = .slice (some ⟨g', o', none⟩) pts.length c' := hf 1 (by decide) (by kernel_rfl)
      have e3 : vs 3 = .int .i64 s := hf 3 (by decide) (by kernel_rfl)
      clear hf
      replace hK := hide hK
      rw [e1, e3]
      replace e1 := hide e1
      replace e3 := hide e3
      go_wp2_with fail
      replace hK := hK.out (.slice (some ⟨g', o' + s * 2, none⟩) (pts.length - s) (c' - s))
      simp only [Act.put, List.setIfInBounds_toArray, List.set_cons_zero, List.set_cons_succ, e1.out, e3.out] at hK
      exact hK _ (hI) (World.grownBy.refl _ _) (rfl)
    refine HOps.op (fun vs wx hI hf K hK => ?_) ?_
    · have e1 : vs 4 = .slice (some ⟨g', o' + s * 2, none⟩) (pts.length - s) (c' - s) := hf 4 (by decide) (by kernel_rfl)
      clear hf
      replace hK := hide hK
      rw [e1]
      replace e1 := hide e1
      go_wp2_with fail
      refine (clonePtN_any _ _ _ (pts.drop s) hdl.out _ ((hpW.drop s).pure hI) (by rw [hdl.out]; omega)).mono ?_
      rintro e wy ⟨A2, c2, rfl, ho2, hg2⟩
      go_wp2_with fail
      have hzy := (show W.grownBy wx none from hI).size
      replace hK := hK.out (.slice A2 (pts.length - s) c2)
      simp only [Act.put, List.setIfInBounds_toArray, List.set_cons_zero, List.set_cons_succ, e1.out] at hK
      exact hK _ (gr_trans hI hg2) (hg2) (⟨A2, c2, by rw [hdl.out], ho2.lower hzy⟩)
    refine HOps.op (fun vs wx hI hf K hK => ?_) ?_
    · clear hf
      replace hK := hide hK
      go_wp2_with fail
      replace hK := hK.out (.pointer (some ⟨w.heap.size + 1, 0, none⟩))
      simp only [Act.put, List.setIfInBounds_toArray, List.set_cons_zero, List.set_cons_succ, Nat.add_zero] at hK
      exact hK _ (hI) (World.grownBy.refl _ _) (rfl)
    refine HOps.op (fun vs wx hI hf K hK => ?_) ?_
    · have e0 : vs 6 = .pointer (some ⟨w.heap.size + 1, 0, none⟩) := hf 6 (by decide) (by kernel_rfl)
      clear hf
      replace hK := hide hK
      rw [e0]
      replace e0 := hide e0
      have y0 := hI.k d0
      replace hI := hide hI
      go_wp2_with fail
      replace hK := hK.out (.slice (some ⟨g', o', none⟩) pts.length c')
      simp only [Act.put, List.setIfInBounds_toArray, List.set_cons_zero, List.set_cons_succ, e0.out] at hK
      exact hK _ (hI.out) (World.grownBy.refl _ _) (rfl)
    refine HOps.op (fun vs wx hI hf K hK => ?_) ?_
    · clear hf
      replace hK := hide hK
      go_wp2_with fail
      replace hK := hK.out (.pointer (some ⟨w.heap.size, 1, none⟩))
      simp only [Act.put, List.setIfInBounds_toArray, List.set_cons_zero, List.set_cons_succ, Nat.add_zero] at hK
      exact hK _ (hI) (World.grownBy.refl _ _) (rfl)
    refine HOps.op (fun vs wx hI hf K hK => ?_) ?_
    · have e0 : vs 8 = .pointer (some ⟨w.heap.size, 1, none⟩) := hf 8 (by decide) (by kernel_rfl)
      clear hf
      replace hK := hide hK
      rw [e0]
      replace e0 := hide e0
      have y0 := hI.k b1
      replace hI := hide hI
      go_wp2_with fail
      replace hK := hK.out (.int .i64 s)
      simp only [Act.put, List.setIfInBounds_toArray, List.set_cons_zero, List.set_cons_succ, e0.out] at hK
      exact hK _ (hI.out) (World.grownBy.refl _ _) (rfl)
    refine HOps.op (fun vs wx hI hf K hK => ?_) ?_
    · have e1 : vs 7 = .slice (some ⟨g', o', none⟩) pts.length c' := hf 7 (by decide) (by kernel_rfl)
      have e3 : vs 9 = .int .i64 s := hf 9 (by decide) (by kernel_rfl)
      clear hf
      replace hK := hide hK
      rw [e1, e3]
      replace e1 := hide e1
      replace e3 := hide e3
      go_wp2_with fail
      replace hK := hK.out (.slice (some ⟨g', o', none⟩) s c')
      simp only [Act.put, List.setIfInBounds_toArray, List.set_cons_zero, List.set_cons_succ, e1.out, e3.out] at hK
      exact hK _ (hI) (World.grownBy.refl _ _) (rfl)
    exact HOps.done
  case hdE =>
  intro vs w2 hI hf
  obtain ⟨A2, c2, e5, hO⟩ := hf 5 (by decide)
  have e10 : vs 10 = .slice (some ⟨g', o', none⟩) s c' := hf 10 (by decide)
  clear hf
  simp only [List.drop_succ_cons, List.drop_zero]
  rw [e5, e10]
  clear e5 e10
  have hzw : W.heap.size ≤ w2.heap.size := hI.size
  have hpt2 := (hpW.pure hI).take s
  generalize pts.drop s = D at *
  generalize pts.take s = E at *
  go_wp2_with (at_builtin; refine wpList_push (α := Pt) _ rfl (.tmp 17) (.tmp 22) _ rfl W.heap.size 50 i0 _ 16 Tryz.underlying45 hi hz h1 h2 rfl _ _ _ D rfl rfl (by exact hO) 0 ⟨g', o', none⟩ _ _ E rfl htl.out.symm (by exact hpt2) ?c2 ?c3 ?c4 ?_)
  case c2 => rw [hdl.out, htl.out]; omega
  case c3 => rw [hdl.out, htl.out]; unfold maxLen; omega
  case c4 => exact hzw
  intro A3 c3 w3 hO3 hup
  have gW3 := hup.gr (Nat.le_refl _) hI
  have e1 := gW3.k d1
  have e2 := gW3.k b2
  have gw3 := gr_trans gW gW3
  obtain ⟨L, hL⟩ : ∃ L, L = D ++ E := ⟨_, rfl⟩
  have hLl : L.length = D.length + E.length := by rw [hL, List.length_append]
  rw [← hL] at hO3 hT
  have hT2 := hT.out
  have hL0 : 0 < L.length := by have := hdl.out; have := htl.out; omega
  have hL5 : L.length ≤ 500 := by have := hdl.out; have := htl.out; omega
  clear hv2 hv4 hv5 d0 d1 b1 b2 hT hO hpt2 hpW hpts hdl htl hup hI c0 c1 hL
  obtain ⟨g3, rfl, hg3, hg3s⟩ := hO3.shape hL0
  replace hLl := hide hLl
  have hzW3 : w.heap.size ≤ W.heap.size := by have := zW.out; omega
  cases cl
  · cases b
    · have hT3 : Hid (T = L) := by rw [Hid, hT2]; rfl
      clear hT2
      go_wp2_with fail
      go_ret
      exact ⟨some ⟨g3, 0, none⟩, c3, by rw [hT3.out, hLl.out]; exact rfl, by rw [hT3.out]; exact hO3.lower hzW3, gw3⟩
    · have hT3 : Hid (T = L.reverse) := by rw [Hid, hT2]; rfl
      clear hT2
      go_wp2_with fail
      refine (reversePtN_any _ g3 _ c3 L hLl.out _ hO3 hL0 (by omega)).mono ?_
      rintro e w4 ⟨⟨v, rfl⟩, hO4, hg4⟩
      go_wp2_with fail
      go_ret
      exact ⟨some ⟨g3, 0, none⟩, c3, by rw [hT3.out, List.length_reverse, hLl.out]; exact rfl, by rw [hT3.out]; exact hO4.lower hzW3, gr_new gw3 hg4 (by omega)⟩
  · have hDE : 0 < D.length + E.length := by have := hLl.out; omega
    have hT3 : Hid (T = L ++ [L[0]]) := by
      have : L.take 1 = [L[0]] := by cases L with
        | nil => simp at hL0
        | cons x r => rfl
      rw [Hid, hT2, this]; rfl
    obtain ⟨y0, y1⟩ := hO3.cell_pt hL0
    rw [Nat.zero_mul] at y0
    rw [Nat.zero_mul, Nat.zero_add] at y1
    clear hT2
    go_wp2_with (at_builtin; refine wpList_push (α := Pt) _ rfl (.tmp 27) (.tmp 31) _ rfl W.heap.size 50 i0 _ 16 Tryz.underlying45 hi hz h1 h2 rfl _ _ _ L rfl hLl.out.symm (by exact hO3.pure (gr_alloc (World.grownBy.refl _ _) _)) 0 ⟨w3.heap.size, 0, none⟩ 1 1 [L[0]] rfl rfl (by exact sl_oneAt _ 0 [.int .i64 L[0].x, .int .i64 L[0].y] _ _ _ rfl (Nat.zero_le _) rfl) ?c2 ?c3 ?c4 ?_)
    case c2 => simp; omega
    case c3 => simp [maxLen]; omega
    case c4 => simp; have := gW3.size; omega
    intro A4 c4 w4 hO4 hup4
    have g4 := hup4.gr (w0 := W) (Nat.le_refl _) (gr_alloc gW3 _)
    go_wp2_with fail
    go_ret
    exact ⟨A4, c4, by rw [hT3.out]; simp, by rw [hT3.out]; exact hO4.lower hzW3, gr_trans gW g4⟩

def PPair (p q : Pt) (w : World) (e : Ending) (w' : World) : Prop := e = .returned (.tuple #[.agg #[.int .i64 p.x, .int .i64 p.y], .agg #[.int .i64 q.x, .int .i64 q.y]]) ∧ w.grownBy w' none

end Go.Proofs.YtmgcohfeijcgdaaGreatDoor

namespace Go.Bl
open Go Go.Proofs.YtmgcohfeijcgdaaGreatDoor

def endA (p : PathV) (s : Nat) (b : Bool) : Pt := if p.cl then p.pts.getD s default else if b then p.pts.getD (p.pts.length - 1) default else p.pts.getD 0 default

def endB (p : PathV) (s : Nat) (b : Bool) : Pt := if p.cl then p.pts.getD s default else if b then p.pts.getD 0 default else p.pts.getD (p.pts.length - 1) default

theorem headD_getD {α : Type} (l : List α) (d : α) : l.headD d = l.getD 0 d := by cases l <;> rfl

theorem lastD_getD {α : Type} (l : List α) (d : α) : l.getLastD d = l.getD (l.length - 1) d := by
  rw [List.getLastD_eq_getLast?, List.getLast?_eq_getElem?]; rfl

theorem turned_A {p : PathV} {s : Nat} {b : Bool} {k : Int} (h : VOk p s b) : (turned p ⟨k, s, b⟩).headD default = endA p s b := by
  obtain ⟨h1, _, h3, _, h5⟩ := h
  rw [headD_getD]
  unfold turned endA
  simp only [Int.toNat_natCast]
  by_cases hc : p.cl = true
  · rw [if_pos hc, if_pos hc]
    simp [List.getD, List.getElem?_append, h3, show 0 < p.pts.length - s by omega]
  · rw [if_neg hc, if_neg hc]
    have hs := h5 (by simpa using hc)
    subst hs
    cases b
    · simp
    · simp [List.getD, List.getElem?_reverse, h3, show p.pts.length - 1 < p.pts.length by omega]

theorem turned_B {p : PathV} {s : Nat} {b : Bool} {k : Int} (h : VOk p s b) : (turned p ⟨k, s, b⟩).getLastD default = endB p s b := by
  obtain ⟨h1, _, h3, _, h5⟩ := h
  rw [lastD_getD]
  unfold turned endB
  simp only [Int.toNat_natCast]
  by_cases hc : p.cl = true
  · rw [if_pos hc, if_pos hc]
    have hl : (p.pts.drop s ++ p.pts.take s).length = p.pts.length := by simp; omega
    have ht : ((p.pts.drop s ++ p.pts.take s).take 1).length = 1 := by rw [List.length_take, hl]; omega
    rw [List.length_append, hl, ht, List.getD, List.getElem?_append_right (by rw [hl]; omega), hl, show p.pts.length + 1 - 1 - p.pts.length = 0 by omega, List.getElem?_take, if_pos (by omega), List.getElem?_append_left (by simp; omega), List.getElem?_drop]
    rfl
  · rw [if_neg hc, if_neg hc]
    have hs := h5 (by simpa using hc)
    subst hs
    cases b
    · simp
    · simp only [List.drop_zero, List.take_zero, List.append_nil, List.length_reverse, if_true]
      rw [List.getD, List.getElem?_reverse (by omega), show p.pts.length - 1 - (p.pts.length - 1) = 0 by omega]
      rfl

theorem near_pts {p : PathV} {s : Nat} {b : Bool} (h : VOk p s b) {i : Nat} (hi : i < p.pts.length) : near (p.pts.getD i default) := by
  have e : p.pts.getD i default = p.pts[i] := by simp [List.getD, hi]
  rw [e]
  exact near_of (h.2.1 _ (List.getElem_mem _))

theorem near_A {p : PathV} {s : Nat} {b : Bool} (h : VOk p s b) : near (endA p s b) := by
  have h3 := h.2.2.1
  unfold endA
  split
  · exact near_pts h h3
  · split <;> exact near_pts h (by omega)

theorem near_B {p : PathV} {s : Nat} {b : Bool} (h : VOk p s b) : near (endB p s b) := by
  have h3 := h.2.2.1
  unfold endB
  split
  · exact near_pts h h3
  · split <;> exact near_pts h (by omega)

/-- a visit that is right among these paths -/
def VisOk (l : List PathV) (v : Vis) : Prop := ∃ (k s : Nat) (hk : k < l.length), v.path = (k : Int) ∧ v.start = (s : Int) ∧ VOk l[k] s v.back

theorem pathF_zero {p : PathV} (h : pathF p = 0) : 0 < p.pts.length ∧ p.pts.length ≤ 500 ∧ ∀ q ∈ p.pts, farP q = false := by
  unfold pathF at h
  split at h
  · cases h
  · split at h
    · cases h
    · split at h
      · cases h
      · split at h
        · cases h
        · rename_i h1 h2 _ h4
          refine ⟨by omega, by omega, fun q hq => ?_⟩
          rcases hf : farP q with _ | _
          · rfl
          · exact absurd (List.any_eq_true.2 ⟨q, hq, hf⟩) h4

theorem orL_zero {l : List Int} (h : orL l = 0) : ∀ x ∈ l, x = 0 := by
  induction l with
  | nil => simp
  | cons y l ih =>
    unfold orL at h
    split at h
    · rename_i hy; exact absurd h hy
    · rename_i hy
      intro x hx
      rcases List.mem_cons.1 hx with rfl | hx
      · simpa using hy
      · exact ih h x hx

theorem pathsF_zero {l : List PathV} (h : pathsF l = 0) : l.length ≤ 200 ∧ ∀ p ∈ l, pathF p = 0 := by
  unfold pathsF at h
  split at h
  · cases h
  · exact ⟨by omega, fun p hp => orL_zero h _ (List.mem_map_of_mem hp)⟩

theorem formF_zero {p : PathV} {v : Vis} (h : formF p v = 0) (hp : pathF p = 0) : ∃ s : Nat, v.start = s ∧ VOk p s v.back := by
  obtain ⟨h1, h2, h3⟩ := pathF_zero hp
  rw [formF_eq] at h
  split at h
  · cases h
  · rename_i hg
    have hs := spanF_zero h
    obtain ⟨s, hs2⟩ := Int.eq_ofNat_of_zero_le hs.1
    refine ⟨s, hs2, h2, h3, by omega, fun hc => ?_, fun hc => ?_⟩
    · rcases hb : v.back with _ | _
      · rfl
      · exact absurd (by simp [hc, hb]) hg
    · by_cases h0 : v.start = 0
      · omega
      · exact absurd (by simp [hc, h0]) hg

theorem visitF_zero {l : List PathV} {b : List Vis} {v : Vis} (h : visitF l b v = 0) (hp : pathsF l = 0) : VisOk l v := by
  unfold visitF at h
  split at h
  · cases h
  · rename_i hin
    split at h
    · cases h
    · have hin2 : 0 ≤ v.path ∧ v.path ≤ l.length - 1 := by simpa [inB] using hin
      obtain ⟨k, hk⟩ := Int.eq_ofNat_of_zero_le hin2.1
      have hkl : k < l.length := by omega
      rw [hk] at h
      have e : l.getD (k : Int).toNat default = l[k] := by simp [List.getD, hkl]
      rw [e] at h
      obtain ⟨s, h1, h2⟩ := formF_zero h ((pathsF_zero hp).2 _ (List.getElem_mem _))
      exact ⟨k, s, hkl, hk, h1, h2⟩

theorem oneF_zero {l : List PathV} {v : Vis} (h : oneF l v = 0) : VisOk l v := by
  obtain ⟨h1, h2⟩ := orS_eq_zero h
  exact visitF_zero h2 h1

theorem visitsF_zero {l : List PathV} (hp : pathsF l = 0) : ∀ {o b : List Vis}, visitsF l b o = 0 → ∀ v ∈ o, VisOk l v
  | [], _, _ => by simp
  | x :: o, b, h => by
    obtain ⟨h1, h2⟩ := orS_eq_zero h
    intro v hv
    rcases List.mem_cons.1 hv with rfl | hv
    · exact visitF_zero h1 hp
    · exact visitsF_zero hp h2 v hv

theorem orderF_zero {l : List PathV} {o : List Vis} (h : orderF l o = 0) : l.length ≤ 200 ∧ o.length = l.length ∧ ∀ v ∈ o, VisOk l v := by
  obtain ⟨h1, h2⟩ := orS_eq_zero h
  split at h2
  · cases h2
  · rename_i hl
    exact ⟨(pathsF_zero h1).1, by simpa using hl, visitsF_zero h1 h2⟩

def eA (l : List PathV) (v : Vis) : Pt := endA (l.getD v.path.toNat default) v.start.toNat v.back

def eB (l : List PathV) (v : Vis) : Pt := endB (l.getD v.path.toNat default) v.start.toNat v.back

theorem eA_of {l : List PathV} {k s : Nat} {b : Bool} (hk : k < l.length) : eA l ⟨k, s, b⟩ = endA l[k] s b := by simp [eA, List.getD, hk]

theorem eB_of {l : List PathV} {k s : Nat} {b : Bool} (hk : k < l.length) : eB l ⟨k, s, b⟩ = endB l[k] s b := by simp [eB, List.getD, hk]

def travS (l : List PathV) (st : Pt) (o : List Vis) : Pt × Int := o.foldl (fun a v => (eB l v, a.2 + distP a.1 (eA l v))) (st, 0)

theorem travS_snoc (l : List PathV) (st : Pt) (o : List Vis) (v : Vis) : travS l st (o ++ [v]) = (eB l v, (travS l st o).2 + distP (travS l st o).1 (eA l v)) := by unfold travS; rw [List.foldl_append]; rfl

theorem VisOk.nA {l : List PathV} {v : Vis} (h : VisOk l v) : near (eA l v) := by
  obtain ⟨k, s, hk, h1, h2, h3⟩ := h
  obtain ⟨vp, vs, vb⟩ := v
  simp only at h1 h2 h3
  subst h1; subst h2
  rw [eA_of hk]; exact near_A h3

theorem VisOk.nB {l : List PathV} {v : Vis} (h : VisOk l v) : near (eB l v) := by
  obtain ⟨k, s, hk, h1, h2, h3⟩ := h
  obtain ⟨vp, vs, vb⟩ := v
  simp only at h1 h2 h3
  subst h1; subst h2
  rw [eB_of hk]; exact near_B h3

theorem travS_bd {l : List PathV} {st : Pt} (hst : near st) : ∀ {o : List Vis}, (∀ v ∈ o, VisOk l v) → ∀ k, k ≤ o.length → near (travS l st (o.take k)).1 ∧ 0 ≤ (travS l st (o.take k)).2 ∧ (travS l st (o.take k)).2 ≤ k * 200000 := by
  intro o ho k
  induction k with
  | zero => intro _; exact ⟨hst, by simp [travS], by simp [travS]⟩
  | succ k ih =>
    intro hk
    obtain ⟨h1, h2, h3⟩ := ih (by omega)
    rw [take_snoc (show k < o.length by omega), travS_snoc]
    have hv := ho o[k] (List.getElem_mem _)
    have := distP_bd h1 hv.nA
    refine ⟨hv.nB, ?_, ?_⟩ <;> simp only <;> omega

end Go.Bl
namespace Go.Proofs.YtmgcohfeijcgdaaGreatDoor
open Go.RowKit Go.Bl

end Go.Proofs.YtmgcohfeijcgdaaGreatDoor

/- Contracts of functions that this seat's laws reach, each: what one call returns and what it leaves in memory; no condition beyond each theorem's own hypotheses. -/
import Derived.Test.YtmhnjpcjagbdhaaGreatZqRegRev
import Derived.Test.YtmhnjpcjagbdhaaGreatZqPathE
import Derived.Test.YtmhnjpcjagbdhaaGreatZqHead
set_option linter.unusedVariables false
set_option linter.unusedSimpArgs false
namespace Go.Bl
open Go

theorem Sl.drop {α : Type} [Enc α] {w : World} {lo g o : Nat} {l : List α} (h : Sl w lo (some ⟨g, o, none⟩) l) (k : Nat) : Sl w lo (some ⟨g, o + k * Enc.sz α, none⟩) (l.drop k) := by
  obtain ⟨hm, cs, hr, hl⟩ := h
  refine ⟨by rw [List.length_drop]; omega, _, hr.drop k, fun hne => ?_⟩
  obtain ⟨ad, e, hb, hc⟩ := hl (by rintro rfl; simp at hne)
  injection e with e
  subst e
  refine ⟨_, rfl, hb, fun j u hu => ?_⟩
  rw [List.getElem?_drop] at hu
  have := hc _ u hu
  rw [Addr.add_lit] at this ⊢
  rwa [Nat.add_assoc]

def VOwn {α : Type} [Enc α] (lo : Nat) (e : TypeId) (l : List α) : Value → World → Prop := fun v w => ∃ (A : Option Addr) (c : Nat), v = .slice A l.length c ∧ Own w lo e A c l
/-- a right visit of a path -/
def VOk (p : PathV) (s : Nat) (b : Bool) : Prop := p.pts.length ≤ 500 ∧ (∀ q ∈ p.pts, farP q = false) ∧ s < p.pts.length ∧ (p.cl = true → b = false) ∧ (p.cl = false → s = 0)

theorem turned_len {p : PathV} {s : Nat} {b : Bool} {k : Int} (h : VOk p s b) : 0 < (turned p ⟨k, s, b⟩).length ∧ (turned p ⟨k, s, b⟩).length ≤ 501 := by
  obtain ⟨h1, _, h3, _, _⟩ := h
  unfold turned
  simp only [Int.toNat_natCast]
  split
  · simp; omega
  · split <;> simp <;> omega

theorem turned_near {p : PathV} {s : Nat} {b : Bool} {k : Int} (h : VOk p s b) : ∀ q ∈ turned p ⟨k, s, b⟩, farP q = false := by
  obtain ⟨_, h2, _, _, _⟩ := h
  intro q hq
  refine h2 q ?_
  unfold turned at hq
  simp only [Int.toNat_natCast] at hq
  have hm : ∀ q, q ∈ p.pts.drop s ++ p.pts.take s → q ∈ p.pts := fun q hq => by
    rcases List.mem_append.1 hq with hq | hq
    · exact List.mem_of_mem_drop hq
    · exact List.mem_of_mem_take hq
  split at hq
  · rcases List.mem_append.1 hq with hq | hq
    · exact hm q hq
    · exact hm q (List.mem_of_mem_take hq)
  · split at hq
    · exact hm q (List.mem_reverse.1 hq)
    · exact hm q hq

end Go.Bl
namespace Go.Proofs.YtmhnjpcjagbdhaaGreat
open Go.RowKit Go.Bl

theorem clonePtN_any (A : Option Addr) (n c : Nat) (l : List Pt) (hn : l.length = n) (w : World) (hl : Sl w 0 A l) (hlen : l.length ≤ 1000000) :
    Calls Tryz.prog 46 #[.slice A n c] w fun e w' => ∃ A' c', e = .returned (.slice A' l.length c') ∧ Own w' w.heap.size 29 A' c' l ∧ w.grownBy w' none := by
  subst hn
  exact clonePt_any A c l w hl hlen

theorem reversePtN_any (lo g n c : Nat) (l : List Pt) (hnl : l.length = n) (w : World) (ho : Own w lo 29 (some ⟨g, 0, none⟩) c l) (hn : 0 < l.length) (hs : l.length ≤ 1000000) :
    Calls Tryz.prog 95 #[.slice (some ⟨g, 0, none⟩) n c] w fun e w' => (∃ v, e = .returned v) ∧ Own w' lo 29 (some ⟨g, 0, none⟩) c l.reverse ∧ w.grownBy w' (some g) := by
  subst hnl
  exact reversePt_any lo g c l w ho hn hs

set_option maxHeartbeats 1000000 in
set_option maxRecDepth 100000 in
theorem printed_any (A : Option Addr) (c : Nat) (l : List PathV) (k s : Nat) (b : Bool) (w : World) (hl : Sl w 0 A l) (hk : k < l.length) (hv : VOk l[k] s b) :
    Calls Tryz.prog 81 #[.slice A l.length c, .agg #[.int .i64 k, .int .i64 s, .bool b]] w fun e w' => ∃ A' c', e = .returned (.slice A' (turned l[k] ⟨k, s, b⟩).length c') ∧ Own w' w.heap.size 29 A' c' (turned l[k] ⟨k, s, b⟩) ∧ w.grownBy w' none := by
  have hm := hl.1
  unfold maxLen at hm
  obtain ⟨g, o, cx, rfl, hb0, hb1, ⟨A', c', rfl, hcp, hpts⟩, hc⟩ := hl.at_ (by decide) hk
  have c0 : w.cell? ⟨g, o + k * 2, none⟩ = some (.slice A' l[k].pts.length c') := hc 0 _ rfl
  have c1 : w.cell? ⟨g, o + k * 2 + 1, none⟩ = some (.bool l[k].cl) := hc 1 _ rfl
  clear hc
  generalize l[k] = p at *
  obtain ⟨pts, cl⟩ := p
  obtain ⟨hv1, hv2, hv3, hv4, hv5⟩ := hv
  simp only at c0 c1 hcp hpts hv1 hv2 hv3 hv4 hv5
  obtain ⟨g', o', cx, rfl, hb0', hb1', -, -⟩ := hpts.at_ (by decide) hv3
  have hT : Hid (turned ⟨pts, cl⟩ ⟨k, s, b⟩ = if cl then (pts.drop s ++ pts.take s) ++ (pts.drop s ++ pts.take s).take 1 else if b then (pts.drop s ++ pts.take s).reverse else pts.drop s ++ pts.take s) := rfl
  generalize turned ⟨pts, cl⟩ ⟨k, s, b⟩ = T at *
  obtain ⟨i0, hi, hz, h1, h2⟩ := info_parts info_pt
  have hgne : g ≠ w.heap.size := by omega
  have hgne2 : g' ≠ w.heap.size := by omega
  go_enter Tryz.func81, Tryz.ntmps81
  go_wp2_with fail
  have d0 := (Cell.new (w.alloc (.cells #[.int .i64 k, .int .i64 s, .bool b] 68)) [.slice (some ⟨g', o', none⟩) pts.length c', .bool cl] 62 0 _ rfl (w.heap.size + 1) (by simp)).1
  have d1 := (Cell.new (w.alloc (.cells #[.int .i64 k, .int .i64 s, .bool b] 68)) [.slice (some ⟨g', o', none⟩) pts.length c', .bool cl] 62 1 _ rfl (w.heap.size + 1) (by simp)).1
  have b1 := ((Cell.new w [.int .i64 k, .int .i64 s, .bool b] 68 1 _ rfl w.heap.size rfl).gr (gr_alloc (r := none) (World.grownBy.refl _ _) (.cells #[.slice (some ⟨g', o', none⟩) pts.length c', .bool cl] 62)) (by simp)).1
  have b2 := ((Cell.new w [.int .i64 k, .int .i64 s, .bool b] 68 2 _ rfl w.heap.size rfl).gr (gr_alloc (r := none) (World.grownBy.refl _ _) (.cells #[.slice (some ⟨g', o', none⟩) pts.length c', .bool cl] 62)) (by simp)).1
  have gW := gr_alloc (gr_alloc (r := none) (World.grownBy.refl w none) (.cells #[.int .i64 k, .int .i64 s, .bool b] 68)) (.cells #[.slice (some ⟨g', o', none⟩) pts.length c', .bool cl] 62)
  have zW : ((w.alloc (.cells #[.int .i64 k, .int .i64 s, .bool b] 68)).alloc (.cells #[.slice (some ⟨g', o', none⟩) pts.length c', .bool cl] 62)).heap.size = w.heap.size + 2 := by simp
  generalize (w.alloc (.cells #[.int .i64 k, .int .i64 s, .bool b] 68)).alloc (.cells #[.slice (some ⟨g', o', none⟩) pts.length c', .bool cl] 62) = W at *
  have hpW := hpts.pure gW
  replace zW := hide zW
  have hdl : Hid ((pts.drop s).length = pts.length - s) := by simp [Hid]
  have htl : Hid ((pts.take s).length = s) := by simp [Hid]; omega
  refine wp_region_hd 11 ((fun wx => W.grownBy wx none)) ((fun x y => x.grownBy y none)) [VIs (.pointer (some ⟨w.heap.size + 1, 0, none⟩)), VIs (.slice (some ⟨g', o', none⟩) pts.length c'), VIs (.pointer (some ⟨w.heap.size, 1, none⟩)), VIs (.int .i64 s), VIs (.slice (some ⟨g', o' + s * 2, none⟩) (pts.length - s) (c' - s)), VOwn W.heap.size 29 (pts.drop s), VIs (.pointer (some ⟨w.heap.size + 1, 0, none⟩)), VIs (.slice (some ⟨g', o', none⟩) pts.length c'), VIs (.pointer (some ⟨w.heap.size, 1, none⟩)), VIs (.int .i64 s), VIs (.slice (some ⟨g', o', none⟩) s c')] (by kernel_rfl) (by kernel_rfl) (by intro vs; simp only [List.take_succ_cons, List.take_zero, putAll, Act.put, List.setIfInBounds_toArray, List.set_cons_zero, List.set_cons_succ, Nat.reduceAdd]; exact rfl) (gr_drew (World.grownBy.refl _ _)) (⟨fun _ _ _ _ h => h, fun _ _ _ _ h => h, fun _ _ _ _ h => h, fun _ _ _ _ h => h, fun _ _ _ _ h => h, fun _ _ _ hg ⟨A, c, h1, h2⟩ => ⟨A, c, h1, h2.pure hg⟩, fun _ _ _ _ h => h, fun _ _ _ _ h => h, fun _ _ _ _ h => h, fun _ _ _ _ h => h, fun _ _ _ _ h => h, trivial⟩) ?hdO ?hdE
  case hdO =>
    refine HOps.op (fun vs wx hI hf K hK => ?_) ?_
    · clear hf
      replace hK := hide hK
      go_wp2_with fail
      replace hK := hK.out (.pointer (some ⟨w.heap.size + 1, 0, none⟩))
      simp only [Act.put, List.setIfInBounds_toArray, List.set_cons_zero, List.set_cons_succ, Nat.add_zero] at hK
      exact hK _ (hI) (World.grownBy.refl _ _) (rfl)
    refine HOps.op (fun vs wx hI hf K hK => ?_) ?_
    · have e0 : vs 0 = .pointer (some ⟨w.heap.size + 1, 0, none⟩) := hf 0 (by decide) (by kernel_rfl)
      clear hf
      replace hK := hide hK
      rw [e0]
      replace e0 := hide e0
      have y0 := hI.k d0
      replace hI := hide hI
      go_wp2_with fail
      replace hK := hK.out (.slice (some ⟨g', o', none⟩) pts.length c')
      simp only [Act.put, List.setIfInBounds_toArray, List.set_cons_zero, List.set_cons_succ, e0.out] at hK
      exact hK _ (hI.out) (World.grownBy.refl _ _) (rfl)
    refine HOps.op (fun vs wx hI hf K hK => ?_) ?_
    · clear hf
      replace hK := hide hK
      go_wp2_with fail
      replace hK := hK.out (.pointer (some ⟨w.heap.size, 1, none⟩))
      simp only [Act.put, List.setIfInBounds_toArray, List.set_cons_zero, List.set_cons_succ, Nat.add_zero] at hK
      exact hK _ (hI) (World.grownBy.refl _ _) (rfl)
    refine HOps.op (fun vs wx hI hf K hK => ?_) ?_
    · have e0 : vs 2 = .pointer (some ⟨w.heap.size, 1, none⟩) := hf 2 (by decide) (by kernel_rfl)
      clear hf
      replace hK := hide hK
      rw [e0]
      replace e0 := hide e0
      have y0 := hI.k b1
      replace hI := hide hI
      go_wp2_with fail
      replace hK := hK.out (.int .i64 s)
      simp only [Act.put, List.setIfInBounds_toArray, List.set_cons_zero, List.set_cons_succ, e0.out] at hK
      exact hK _ (hI.out) (World.grownBy.refl _ _) (rfl)
    refine HOps.op (fun vs wx hI hf K hK => ?_) ?_
    · have e1 : vs 1 = .slice (some ⟨g', o', none⟩) pts.length c' := hf 1 (by decide) (by kernel_rfl)
      have e3 : vs 3 = .int .i64 s := hf 3 (by decide) (by kernel_rfl)
      clear hf
      replace hK := hide hK
      rw [e1, e3]
      replace e1 := hide e1
      replace e3 := hide e3
      go_wp2_with fail
      replace hK := hK.out (.slice (some ⟨g', o' + s * 2, none⟩) (pts.length - s) (c' - s))
      simp only [Act.put, List.setIfInBounds_toArray, List.set_cons_zero, List.set_cons_succ, e1.out, e3.out] at hK
      exact hK _ (hI) (World.grownBy.refl _ _) (rfl)
    refine HOps.op (fun vs wx hI hf K hK => ?_) ?_
    · have e1 : vs 4 = .slice (some ⟨g', o' + s * 2, none⟩) (pts.length - s) (c' - s) := hf 4 (by decide) (by kernel_rfl)
      clear hf
      replace hK := hide hK
      rw [e1]
      replace e1 := hide e1
      go_wp2_with fail
      refine (clonePtN_any _ _ _ (pts.drop s) hdl.out _ ((hpW.drop s).pure hI) (by rw [hdl.out]; omega)).mono ?_
      rintro e wy ⟨A2, c2, rfl, ho2, hg2⟩
      go_wp2_with fail
      have hzy := (show W.grownBy wx none from hI).size
      replace hK := hK.out (.slice A2 (pts.length - s) c2)
      simp only [Act.put, List.setIfInBounds_toArray, List.set_cons_zero, List.set_cons_succ, e1.out] at hK
      exact hK _ (gr_trans hI hg2) (hg2) (⟨A2, c2, by rw [hdl.out], ho2.lower hzy⟩)
    refine HOps.op (fun vs wx hI hf K hK => ?_) ?_
    · clear hf
      replace hK := hide hK
      go_wp2_with fail
      replace hK := hK.out (.pointer (some ⟨w.heap.size + 1, 0, none⟩))
      simp only [Act.put, List.setIfInBounds_toArray, List.set_cons_zero, List.set_cons_succ, Nat.add_zero] at hK
      exact hK _ (hI) (World.grownBy.refl _ _) (rfl)
    refine HOps.op (fun vs wx hI hf K hK => ?_) ?_
    · have e0 : vs 6 = .pointer (some ⟨w.heap.size + 1, 0, none⟩) := hf 6 (by decide) (by kernel_rfl)
      clear hf
      replace hK := hide hK
      rw [e0]
      replace e0 := hide e0
      have y0 := hI.k d0
      replace hI := hide hI
      go_wp2_with fail
      replace hK := hK.out (.slice (some ⟨g', o', none⟩) pts.length c')
      simp only [Act.put, List.setIfInBounds_toArray, List.set_cons_zero, List.set_cons_succ, e0.out] at hK
      exact hK _ (hI.out) (World.grownBy.refl _ _) (rfl)
    refine HOps.op (fun vs wx hI hf K hK => ?_) ?_
    · clear hf
      replace hK := hide hK
      go_wp2_with fail
      replace hK := hK.out (.pointer (some ⟨w.heap.size, 1, none⟩))
      simp only [Act.put, List.setIfInBounds_toArray, List.set_cons_zero, List.set_cons_succ, Nat.add_zero] at hK
      exact hK _ (hI) (World.grownBy.refl _ _) (rfl)
    refine HOps.op (fun vs wx hI hf K hK => ?_) ?_
    · have e0 : vs 8 = .pointer (some ⟨w.heap.size, 1, none⟩) := hf 8 (by decide) (by kernel_rfl)
      clear hf
      replace hK := hide hK
      rw [e0]
      replace e0 := hide e0
      have y0 := hI.k b1
      replace hI := hide hI
      go_wp2_with fail
      replace hK := hK.out (.int .i64 s)
      simp only [Act.put, List.setIfInBounds_toArray, List.set_cons_zero, List.set_cons_succ, e0.out] at hK
      exact hK _ (hI.out) (World.grownBy.refl _ _) (rfl)
    refine HOps.op (fun vs wx hI hf K hK => ?_) ?_
    · have e1 : vs 7 = .slice (some ⟨g', o', none⟩) pts.length c' := hf 7 (by decide) (by kernel_rfl)
      have e3 : vs 9 = .int .i64 s := hf 9 (by decide) (by kernel_rfl)
      clear hf
      replace hK := hide hK
      rw [e1, e3]
      replace e1 := hide e1
      replace e3 := hide e3
      go_wp2_with fail
      replace hK := hK.out (.slice (some ⟨g', o', none⟩) s c')
      simp only [Act.put, List.setIfInBounds_toArray, List.set_cons_zero, List.set_cons_succ, e1.out, e3.out] at hK
      exact hK _ (hI) (World.grownBy.refl _ _) (rfl)
    exact HOps.done
  case hdE =>
  intro vs w2 hI hf
  obtain ⟨A2, c2, e5, hO⟩ := hf 5 (by decide)
  have e10 : vs 10 = .slice (some ⟨g', o', none⟩) s c' := hf 10 (by decide)
  clear hf
  simp only [List.drop_succ_cons, List.drop_zero]
  rw [e5, e10]
  clear e5 e10
  have hzw : W.heap.size ≤ w2.heap.size := hI.size
  have hpt2 := (hpW.pure hI).take s
  generalize pts.drop s = D at *
  generalize pts.take s = E at *
  go_wp2_with (at_builtin; refine wpList_push (α := Pt) _ rfl (.tmp 17) (.tmp 22) _ rfl W.heap.size 29 i0 _ 16 Tryz.underlying56 hi hz h1 h2 rfl _ _ _ D rfl rfl (by exact hO) 0 ⟨g', o', none⟩ _ _ E rfl htl.out.symm (by exact hpt2) ?c2 ?c3 ?c4 ?_)
  case c2 => rw [hdl.out, htl.out]; omega
  case c3 => rw [hdl.out, htl.out]; unfold maxLen; omega
  case c4 => exact hzw
  intro A3 c3 w3 hO3 hup
  have gW3 := hup.gr (Nat.le_refl _) hI
  have e1 := gW3.k d1
  have e2 := gW3.k b2
  have gw3 := gr_trans gW gW3
  obtain ⟨L, hL⟩ : ∃ L, L = D ++ E := ⟨_, rfl⟩
  have hLl : L.length = D.length + E.length := by rw [hL, List.length_append]
  rw [← hL] at hO3 hT
  have hT2 := hT.out
  have hL0 : 0 < L.length := by have := hdl.out; have := htl.out; omega
  have hL5 : L.length ≤ 500 := by have := hdl.out; have := htl.out; omega
  clear hv2 hv4 hv5 d0 d1 b1 b2 hT hO hpt2 hpW hpts hdl htl hup hI c0 c1 hL
  obtain ⟨g3, rfl, hg3, hg3s⟩ := hO3.shape hL0
  replace hLl := hide hLl
  have hzW3 : w.heap.size ≤ W.heap.size := by have := zW.out; omega
  cases cl
  · cases b
    · have hT3 : Hid (T = L) := by rw [Hid, hT2]; rfl
      clear hT2
      go_wp2_with fail
      go_ret
      exact ⟨some ⟨g3, 0, none⟩, c3, by rw [hT3.out, hLl.out]; exact rfl, by rw [hT3.out]; exact hO3.lower hzW3, gw3⟩
    · have hT3 : Hid (T = L.reverse) := by rw [Hid, hT2]; rfl
      clear hT2
      go_wp2_with fail
      refine (reversePtN_any _ g3 _ c3 L hLl.out _ hO3 hL0 (by omega)).mono ?_
      rintro e w4 ⟨⟨v, rfl⟩, hO4, hg4⟩
      go_wp2_with fail
      go_ret
      exact ⟨some ⟨g3, 0, none⟩, c3, by rw [hT3.out, List.length_reverse, hLl.out]; exact rfl, by rw [hT3.out]; exact hO4.lower hzW3, gr_new gw3 hg4 (by omega)⟩
  · have hDE : 0 < D.length + E.length := by have := hLl.out; omega
    have hT3 : Hid (T = L ++ [L[0]]) := by
      have : L.take 1 = [L[0]] := by cases L with
        | nil => simp at hL0
        | cons x r => rfl
      rw [Hid, hT2, this]; rfl
    obtain ⟨y0, y1⟩ := hO3.cell_pt hL0
    rw [Nat.zero_mul] at y0
    rw [Nat.zero_mul, Nat.zero_add] at y1
    clear hT2
    go_wp2_with (at_builtin; refine wpList_push (α := Pt) _ rfl (.tmp 27) (.tmp 31) _ rfl W.heap.size 29 i0 _ 16 Tryz.underlying56 hi hz h1 h2 rfl _ _ _ L rfl hLl.out.symm (by exact hO3.pure (gr_alloc (World.grownBy.refl _ _) _)) 0 ⟨w3.heap.size, 0, none⟩ 1 1 [L[0]] rfl rfl (by exact sl_oneAt _ 0 [.int .i64 L[0].x, .int .i64 L[0].y] _ _ _ rfl (Nat.zero_le _) rfl) ?c2 ?c3 ?c4 ?_)
    case c2 => simp; omega
    case c3 => simp [maxLen]; omega
    case c4 => simp; have := gW3.size; omega
    intro A4 c4 w4 hO4 hup4
    have g4 := hup4.gr (w0 := W) (Nat.le_refl _) (gr_alloc gW3 _)
    go_wp2_with fail
    go_ret
    exact ⟨A4, c4, by rw [hT3.out]; simp, by rw [hT3.out]; exact hO4.lower hzW3, gr_trans gW g4⟩

def PPair (p q : Pt) (w : World) (e : Ending) (w' : World) : Prop := e = .returned (.tuple #[.agg #[.int .i64 p.x, .int .i64 p.y], .agg #[.int .i64 q.x, .int .i64 q.y]]) ∧ w.grownBy w' none

set_option maxHeartbeats 2000000 in
theorem endsOf_any (A : Option Addr) (c : Nat) (l : List PathV) (k s : Nat) (b : Bool) (w : World) (hl : Sl w 0 A l) (hk : k < l.length) (hv : VOk l[k] s b) :
    Calls Tryz.prog 52 #[.slice A l.length c, .agg #[.int .i64 k, .int .i64 s, .bool b]] w (PPair ((turned l[k] ⟨k, s, b⟩).headD default) ((turned l[k] ⟨k, s, b⟩).getLastD default) w) := by
  have hTl := turned_len (k := k) hv
  go_enter Tryz.func52, Tryz.ntmps52
  go_wp2_with fail
  refine (printed_any _ _ l k s b _ (((hl.pure (gr_alloc (World.grownBy.refl _ _) _)).pure (gr_alloc (World.grownBy.refl _ _) _)).pure (gr_alloc (World.grownBy.refl _ _) _)) hk hv).mono ?_
  rintro e w1 ⟨A', c', rfl, hO, hg⟩
  generalize hT : turned l[k] ⟨k, s, b⟩ = T at *
  obtain ⟨m, hm⟩ : ∃ m : Nat, T.length = m + 1 := ⟨T.length - 1, by omega⟩
  have hh : Hid (T.headD default = T[0]'(by omega)) := by cases T with
    | nil => simp at hm
    | cons x r => rfl
  have hla : Hid (T.getLastD default = T[m]'(by omega)) := by
    simp only [Hid, List.getLastD_eq_getLast?]
    have e : T.length - 1 = m := by omega
    rw [List.getLast?_eq_getElem?, e]; simp [hm]
  obtain ⟨g, rfl, hg0, hg1⟩ := hO.shape (by omega)
  obtain ⟨y0, y1⟩ := hO.cell_pt (i := 0) (by omega)
  rw [Nat.zero_mul] at y0
  rw [Nat.zero_mul, Nat.zero_add] at y1
  obtain ⟨z0, z1⟩ := hO.cell_pt (i := m) (by omega)
  generalize T[0]'_ = P0 at *
  generalize T[m]'_ = P1 at *
  rw [hm]
  have hm5 : m ≤ 500 := by omega
  have hh2 : Hid ((turned l[k] ⟨k, s, b⟩).headD default = P0) := by rw [Hid, hT]; exact hh.out
  have hla2 : Hid ((turned l[k] ⟨k, s, b⟩).getLastD default = P1) := by rw [Hid, hT]; exact hla.out
  clear hh hla hT
  have A0 := Cell.new (w.alloc (.cells #[.int .i64 k, .int .i64 s, .bool b] 68)) [.int .i64 0, .int .i64 0] 29 0 _ rfl (w.heap.size + 1) (by simp)
  have A1 := Cell.new (w.alloc (.cells #[.int .i64 k, .int .i64 s, .bool b] 68)) [.int .i64 0, .int .i64 0] 29 1 _ rfl (w.heap.size + 1) (by simp)
  have B0 := Cell.new ((w.alloc (.cells #[.int .i64 k, .int .i64 s, .bool b] 68)).alloc (.cells #[.int .i64 0, .int .i64 0] 29)) [.int .i64 0, .int .i64 0] 29 0 _ rfl (w.heap.size + 1 + 1) (by simp)
  have B1 := Cell.new ((w.alloc (.cells #[.int .i64 k, .int .i64 s, .bool b] 68)).alloc (.cells #[.int .i64 0, .int .i64 0] 29)) [.int .i64 0, .int .i64 0] 29 1 _ rfl (w.heap.size + 1 + 1) (by simp)
  have hgn := gr_alloc (r := none) (World.grownBy.refl ((w.alloc (.cells #[.int .i64 k, .int .i64 s, .bool b] 68)).alloc (.cells #[.int .i64 0, .int .i64 0] 29)) _) (.cells #[.int .i64 0, .int .i64 0] 29)
  obtain ⟨a0, af0⟩ := (A0.gr hgn (by simp)).gr hg (by simp)
  obtain ⟨a1, af1⟩ := (A1.gr hgn (by simp)).gr hg (by simp)
  obtain ⟨b0, bf0⟩ := B0.gr hg (by simp)
  obtain ⟨b1, bf1⟩ := B1.gr hg (by simp)
  have hw := gr_trans (gr_alloc (gr_alloc (gr_alloc (World.grownBy.refl w none) _) _) _) hg
  have hgne : g ≠ w.heap.size + 1 ∧ g ≠ w.heap.size + 2 := by simp at hg0; omega
  have hw1 : w.heap.size + 3 ≤ w1.heap.size := by have := hg.size; simp at this; omega
  clear A0 A1 B0 B1 hgn hg hO hg0 hTl hm
  go_wp2_with fail
  go_region
  all_goals
    go_wp2
    refine bodyPost_ret (v := .tuple #[.agg #[.int .i64 P0.x, .int .i64 P0.y], .agg #[.int .i64 P1.x, .int .i64 P1.y]]) (by simp [results, Tryz.results52, go_sem, a0, a1, b0, b1, af0, af1, bf0, bf1]) rfl ⟨by rw [hh2.out, hla2.out], ?_⟩
    exact gr_drew (gr_set (gr_set (gr_set (gr_set hw (.inr (by simp)) _) (.inr (by simp)) _) (.inr (by simp; omega)) _) (.inr (by simp; omega)) _)

end Go.Proofs.YtmhnjpcjagbdhaaGreat

namespace Go.Bl
open Go Go.Proofs.YtmhnjpcjagbdhaaGreat

def endA (p : PathV) (s : Nat) (b : Bool) : Pt := if p.cl then p.pts.getD s default else if b then p.pts.getD (p.pts.length - 1) default else p.pts.getD 0 default

def endB (p : PathV) (s : Nat) (b : Bool) : Pt := if p.cl then p.pts.getD s default else if b then p.pts.getD 0 default else p.pts.getD (p.pts.length - 1) default

theorem headD_getD {α : Type} (l : List α) (d : α) : l.headD d = l.getD 0 d := by cases l <;> rfl

theorem lastD_getD {α : Type} (l : List α) (d : α) : l.getLastD d = l.getD (l.length - 1) d := by
  rw [List.getLastD_eq_getLast?, List.getLast?_eq_getElem?]; rfl

theorem turned_A {p : PathV} {s : Nat} {b : Bool} {k : Int} (h : VOk p s b) : (turned p ⟨k, s, b⟩).headD default = endA p s b := by
  obtain ⟨h1, _, h3, _, h5⟩ := h
  rw [headD_getD]
  unfold turned endA
  simp only [Int.toNat_natCast]
  by_cases hc : p.cl = true
  · rw [if_pos hc, if_pos hc]
    simp [List.getD, List.getElem?_append, h3, show 0 < p.pts.length - s by omega]
  · rw [if_neg hc, if_neg hc]
    have hs := h5 (by simpa using hc)
    subst hs
    cases b
    · simp
    · simp [List.getD, List.getElem?_reverse, h3, show p.pts.length - 1 < p.pts.length by omega]

theorem turned_B {p : PathV} {s : Nat} {b : Bool} {k : Int} (h : VOk p s b) : (turned p ⟨k, s, b⟩).getLastD default = endB p s b := by
  obtain ⟨h1, _, h3, _, h5⟩ := h
  rw [lastD_getD]
  unfold turned endB
  simp only [Int.toNat_natCast]
  by_cases hc : p.cl = true
  · rw [if_pos hc, if_pos hc]
    have hl : (p.pts.drop s ++ p.pts.take s).length = p.pts.length := by simp; omega
    have ht : ((p.pts.drop s ++ p.pts.take s).take 1).length = 1 := by rw [List.length_take, hl]; omega
    rw [List.length_append, hl, ht, List.getD, List.getElem?_append_right (by rw [hl]; omega), hl, show p.pts.length + 1 - 1 - p.pts.length = 0 by omega, List.getElem?_take, if_pos (by omega), List.getElem?_append_left (by simp; omega), List.getElem?_drop]
    rfl
  · rw [if_neg hc, if_neg hc]
    have hs := h5 (by simpa using hc)
    subst hs
    cases b
    · simp
    · simp only [List.drop_zero, List.take_zero, List.append_nil, List.length_reverse, if_true]
      rw [List.getD, List.getElem?_reverse (by omega), show p.pts.length - 1 - (p.pts.length - 1) = 0 by omega]
      rfl

theorem near_pts {p : PathV} {s : Nat} {b : Bool} (h : VOk p s b) {i : Nat} (hi : i < p.pts.length) : near (p.pts.getD i default) := by
  have e : p.pts.getD i default = p.pts[i] := by simp [List.getD, hi]
  rw [e]
  exact near_of (h.2.1 _ (List.getElem_mem _))

theorem near_A {p : PathV} {s : Nat} {b : Bool} (h : VOk p s b) : near (endA p s b) := by
  have h3 := h.2.2.1
  unfold endA
  split
  · exact near_pts h h3
  · split <;> exact near_pts h (by omega)

theorem near_B {p : PathV} {s : Nat} {b : Bool} (h : VOk p s b) : near (endB p s b) := by
  have h3 := h.2.2.1
  unfold endB
  split
  · exact near_pts h h3
  · split <;> exact near_pts h (by omega)

/-- a visit that is right among these paths -/
def VisOk (l : List PathV) (v : Vis) : Prop := ∃ (k s : Nat) (hk : k < l.length), v.path = (k : Int) ∧ v.start = (s : Int) ∧ VOk l[k] s v.back

theorem pathF_zero {p : PathV} (h : pathF p = 0) : 0 < p.pts.length ∧ p.pts.length ≤ 500 ∧ ∀ q ∈ p.pts, farP q = false := by
  unfold pathF at h
  split at h
  · cases h
  · split at h
    · cases h
    · split at h
      · cases h
      · split at h
        · cases h
        · rename_i h1 h2 _ h4
          refine ⟨by omega, by omega, fun q hq => ?_⟩
          rcases hf : farP q with _ | _
          · rfl
          · exact absurd (List.any_eq_true.2 ⟨q, hq, hf⟩) h4

theorem orL_zero {l : List Int} (h : orL l = 0) : ∀ x ∈ l, x = 0 := by
  induction l with
  | nil => simp
  | cons y l ih =>
    unfold orL at h
    split at h
    · rename_i hy; exact absurd h hy
    · rename_i hy
      intro x hx
      rcases List.mem_cons.1 hx with rfl | hx
      · simpa using hy
      · exact ih h x hx

theorem pathsF_zero {l : List PathV} (h : pathsF l = 0) : l.length ≤ 200 ∧ ∀ p ∈ l, pathF p = 0 := by
  unfold pathsF at h
  split at h
  · cases h
  · exact ⟨by omega, fun p hp => orL_zero h _ (List.mem_map_of_mem hp)⟩

theorem formF_zero {p : PathV} {v : Vis} (h : formF p v = 0) (hp : pathF p = 0) : ∃ s : Nat, v.start = s ∧ VOk p s v.back := by
  obtain ⟨h1, h2, h3⟩ := pathF_zero hp
  rw [formF_eq] at h
  split at h
  · cases h
  · rename_i hg
    have hs := spanF_zero h
    obtain ⟨s, hs2⟩ := Int.eq_ofNat_of_zero_le hs.1
    refine ⟨s, hs2, h2, h3, by omega, fun hc => ?_, fun hc => ?_⟩
    · rcases hb : v.back with _ | _
      · rfl
      · exact absurd (by simp [hc, hb]) hg
    · by_cases h0 : v.start = 0
      · omega
      · exact absurd (by simp [hc, h0]) hg

theorem visitF_zero {l : List PathV} {b : List Vis} {v : Vis} (h : visitF l b v = 0) (hp : pathsF l = 0) : VisOk l v := by
  unfold visitF at h
  split at h
  · cases h
  · rename_i hin
    split at h
    · cases h
    · have hin2 : 0 ≤ v.path ∧ v.path ≤ l.length - 1 := by simpa [inB] using hin
      obtain ⟨k, hk⟩ := Int.eq_ofNat_of_zero_le hin2.1
      have hkl : k < l.length := by omega
      rw [hk] at h
      have e : l.getD (k : Int).toNat default = l[k] := by simp [List.getD, hkl]
      rw [e] at h
      obtain ⟨s, h1, h2⟩ := formF_zero h ((pathsF_zero hp).2 _ (List.getElem_mem _))
      exact ⟨k, s, hkl, hk, h1, h2⟩

theorem oneF_zero {l : List PathV} {v : Vis} (h : oneF l v = 0) : VisOk l v := by
  obtain ⟨h1, h2⟩ := orS_eq_zero h
  exact visitF_zero h2 h1

theorem visitsF_zero {l : List PathV} (hp : pathsF l = 0) : ∀ {o b : List Vis}, visitsF l b o = 0 → ∀ v ∈ o, VisOk l v
  | [], _, _ => by simp
  | x :: o, b, h => by
    obtain ⟨h1, h2⟩ := orS_eq_zero h
    intro v hv
    rcases List.mem_cons.1 hv with rfl | hv
    · exact visitF_zero h1 hp
    · exact visitsF_zero hp h2 v hv

theorem orderF_zero {l : List PathV} {o : List Vis} (h : orderF l o = 0) : l.length ≤ 200 ∧ o.length = l.length ∧ ∀ v ∈ o, VisOk l v := by
  obtain ⟨h1, h2⟩ := orS_eq_zero h
  split at h2
  · cases h2
  · rename_i hl
    exact ⟨(pathsF_zero h1).1, by simpa using hl, visitsF_zero h1 h2⟩

def eA (l : List PathV) (v : Vis) : Pt := endA (l.getD v.path.toNat default) v.start.toNat v.back

def eB (l : List PathV) (v : Vis) : Pt := endB (l.getD v.path.toNat default) v.start.toNat v.back

theorem eA_of {l : List PathV} {k s : Nat} {b : Bool} (hk : k < l.length) : eA l ⟨k, s, b⟩ = endA l[k] s b := by simp [eA, List.getD, hk]

theorem eB_of {l : List PathV} {k s : Nat} {b : Bool} (hk : k < l.length) : eB l ⟨k, s, b⟩ = endB l[k] s b := by simp [eB, List.getD, hk]

def travS (l : List PathV) (st : Pt) (o : List Vis) : Pt × Int := o.foldl (fun a v => (eB l v, a.2 + distP a.1 (eA l v))) (st, 0)

theorem travS_snoc (l : List PathV) (st : Pt) (o : List Vis) (v : Vis) : travS l st (o ++ [v]) = (eB l v, (travS l st o).2 + distP (travS l st o).1 (eA l v)) := by unfold travS; rw [List.foldl_append]; rfl

theorem VisOk.nA {l : List PathV} {v : Vis} (h : VisOk l v) : near (eA l v) := by
  obtain ⟨k, s, hk, h1, h2, h3⟩ := h
  obtain ⟨vp, vs, vb⟩ := v
  simp only at h1 h2 h3
  subst h1; subst h2
  rw [eA_of hk]; exact near_A h3

theorem VisOk.nB {l : List PathV} {v : Vis} (h : VisOk l v) : near (eB l v) := by
  obtain ⟨k, s, hk, h1, h2, h3⟩ := h
  obtain ⟨vp, vs, vb⟩ := v
  simp only at h1 h2 h3
  subst h1; subst h2
  rw [eB_of hk]; exact near_B h3

theorem travS_bd {l : List PathV} {st : Pt} (hst : near st) : ∀ {o : List Vis}, (∀ v ∈ o, VisOk l v) → ∀ k, k ≤ o.length → near (travS l st (o.take k)).1 ∧ 0 ≤ (travS l st (o.take k)).2 ∧ (travS l st (o.take k)).2 ≤ k * 200000 := by
  intro o ho k
  induction k with
  | zero => intro _; exact ⟨hst, by simp [travS], by simp [travS]⟩
  | succ k ih =>
    intro hk
    obtain ⟨h1, h2, h3⟩ := ih (by omega)
    rw [take_snoc (show k < o.length by omega), travS_snoc]
    have hv := ho o[k] (List.getElem_mem _)
    have := distP_bd h1 hv.nA
    refine ⟨hv.nB, ?_, ?_⟩ <;> simp only <;> omega

end Go.Bl
namespace Go.Proofs.YtmhnjpcjagbdhaaGreat
open Go.RowKit Go.Bl

theorem endsRef_any (A : Option Addr) (c : Nat) (l : List PathV) (v : Vis) (w : World) (hl : Sl w 0 A l) (hv : VisOk l v) :
    Calls Tryz.prog 52 #[.slice A l.length c, .agg #[.int .i64 v.path, .int .i64 v.start, .bool v.back]] w (PPair (eA l v) (eB l v) w) := by
  obtain ⟨k, s, hk, h1, h2, h3⟩ := hv
  obtain ⟨vp, vs, vb⟩ := v
  simp only at h1 h2 h3
  subst h1; subst h2
  rw [eA_of hk, eB_of hk, ← turned_A (k := k) h3, ← turned_B (k := k) h3]
  exact endsOf_any A c l k s vb w hl hk h3

set_option maxHeartbeats 2000000 in
theorem ends_any (A : Option Addr) (c : Nat) (l : List PathV) (v : Vis) (w : World) (hl : Sl w 0 A l) (hv : VisOk l v) :
    Calls Tryz.prog 43 #[.slice A l.length c, .agg #[.int .i64 v.path, .int .i64 v.start, .bool v.back]] w (PPair (eA l v) (eB l v) w) := by
  have hm := hl.1
  unfold maxLen at hm
  obtain ⟨k, s, hk, h1, h2, h3⟩ := hv
  obtain ⟨vp, vs, vb⟩ := v
  simp only at h1 h2 h3
  subst h1; subst h2
  obtain ⟨g, o, cx, rfl, hb0, hb1, ⟨A', c', rfl, hcp, hpts⟩, hc⟩ := hl.at_ (by decide) hk
  have c0 : w.cell? ⟨g, o + k * 2, none⟩ = some (.slice A' l[k].pts.length c') := hc 0 _ rfl
  have c1 : w.cell? ⟨g, o + k * 2 + 1, none⟩ = some (.bool l[k].cl) := hc 1 _ rfl
  clear hc
  rw [eA_of hk, eB_of hk]
  obtain ⟨hv1, hv2, hv3, hv4, hv5⟩ := h3
  obtain ⟨m, hm1⟩ : ∃ m : Nat, l[k].pts.length = m + 1 := ⟨l[k].pts.length - 1, by omega⟩
  obtain ⟨g', o', cx, rfl, hb0', hb1', rfl, hc⟩ := hpts.at_ (by decide) hv3
  have p0 : w.cell? ⟨g', o' + s * 2, none⟩ = some (.int .i64 l[k].pts[s].x) := hc 0 _ rfl
  have p1 : w.cell? ⟨g', o' + s * 2 + 1, none⟩ = some (.int .i64 l[k].pts[s].y) := hc 1 _ rfl
  clear hc
  obtain ⟨g2, o2, cx, e2, _, _, rfl, hc⟩ := hpts.at_ (k := 0) (by decide) (by omega)
  injection e2 with e2; injection e2 with e2 e3; subst e2; subst e3
  have q0 : w.cell? ⟨g', o', none⟩ = some (.int .i64 (l[k].pts[0]'(by omega)).x) := by have := hc 0 _ rfl; rwa [Nat.zero_mul] at this
  have q1 : w.cell? ⟨g', o' + 1, none⟩ = some (.int .i64 (l[k].pts[0]'(by omega)).y) := by have := hc 1 _ rfl; rwa [Nat.zero_mul, Nat.add_zero] at this
  clear hc
  obtain ⟨g2, o2, cx, e2, _, _, rfl, hc⟩ := hpts.at_ (k := m) (by decide) (by omega)
  injection e2 with e2; injection e2 with e2 e3; subst e2; subst e3
  have r0 : w.cell? ⟨g', o' + m * 2, none⟩ = some (.int .i64 (l[k].pts[m]'(by omega)).x) := hc 0 _ rfl
  have r1 : w.cell? ⟨g', o' + m * 2 + 1, none⟩ = some (.int .i64 (l[k].pts[m]'(by omega)).y) := hc 1 _ rfl
  clear hc
  have HA : Hid (endA l[k] s vb = if l[k].cl then l[k].pts[s] else if vb then l[k].pts[m]'(by omega) else l[k].pts[0]'(by omega)) := by
    simp [Hid, endA, List.getD, hm1, hv3, show s < m + 1 by omega]
  have HB : Hid (endB l[k] s vb = if l[k].cl then l[k].pts[s] else if vb then l[k].pts[0]'(by omega) else l[k].pts[m]'(by omega)) := by
    simp [Hid, endB, List.getD, hm1, hv3, show s < m + 1 by omega]
  generalize l[k].pts[s] = Ps at *
  generalize l[k].pts[0]'_ = P0 at *
  generalize l[k].pts[m]'_ = Pm at *
  generalize hcl : l[k].cl = cl at *
  generalize endA l[k] s vb = EA at *
  generalize endB l[k] s vb = EB at *
  rw [hm1] at hv1 hv3 hcp c0
  generalize l[k] = p at *
  clear hm1 hv2 hv4 hv5 hpts hcl p
  have A0 := Cell.new (w.alloc (.cells #[.int .i64 k, .int .i64 s, .bool vb] 68)) [.int .i64 0, .int .i64 0] 29 0 _ rfl (w.heap.size + 1) (by simp)
  have A1 := Cell.new (w.alloc (.cells #[.int .i64 k, .int .i64 s, .bool vb] 68)) [.int .i64 0, .int .i64 0] 29 1 _ rfl (w.heap.size + 1) (by simp)
  have B0 := Cell.new ((w.alloc (.cells #[.int .i64 k, .int .i64 s, .bool vb] 68)).alloc (.cells #[.int .i64 0, .int .i64 0] 29)) [.int .i64 0, .int .i64 0] 29 0 _ rfl (w.heap.size + 1 + 1) (by simp)
  have B1 := Cell.new ((w.alloc (.cells #[.int .i64 k, .int .i64 s, .bool vb] 68)).alloc (.cells #[.int .i64 0, .int .i64 0] 29)) [.int .i64 0, .int .i64 0] 29 1 _ rfl (w.heap.size + 1 + 1) (by simp)
  have hgn := gr_alloc (r := none) (World.grownBy.refl ((w.alloc (.cells #[.int .i64 k, .int .i64 s, .bool vb] 68)).alloc (.cells #[.int .i64 0, .int .i64 0] 29)) _) (.cells #[.int .i64 0, .int .i64 0] 29)
  obtain ⟨a0, af0⟩ := (A0.gr hgn (by simp))
  obtain ⟨a1, af1⟩ := (A1.gr hgn (by simp))
  obtain ⟨b0, bf0⟩ := B0
  obtain ⟨b1, bf1⟩ := B1
  have hw := gr_alloc (gr_alloc (gr_alloc (World.grownBy.refl w none) (.cells #[.int .i64 k, .int .i64 s, .bool vb] 68)) (.cells #[.int .i64 0, .int .i64 0] 29)) (.cells #[.int .i64 0, .int .i64 0] 29)
  obtain ⟨v1, _⟩ := ((Cell.new w [.int .i64 k, .int .i64 s, .bool vb] 68 1 _ rfl w.heap.size rfl).gr (gr_alloc (r := none) (World.grownBy.refl _ _) (.cells #[.int .i64 0, .int .i64 0] 29)) (by simp)).gr hgn (by simp)
  clear A0 A1 hgn
  replace c0 := hw.k c0
  replace c1 := hw.k c1
  replace p0 := hw.k p0
  replace p1 := hw.k p1
  replace q0 := hw.k q0
  replace q1 := hw.k q1
  replace r0 := hw.k r0
  replace r1 := hw.k r1
  have hgne : g' ≠ w.heap.size ∧ g' ≠ w.heap.size + 1 ∧ g' ≠ w.heap.size + 1 + 1 := by omega
  have hgn2 : g ≠ w.heap.size ∧ g ≠ w.heap.size + 1 ∧ g ≠ w.heap.size + 1 + 1 := by omega
  cases cl
  · cases vb
    · go_enter Tryz.func43, Tryz.ntmps43
      go_wp2_with fail
      generalize ((w.alloc _).alloc _).alloc _ = W at *
      go_region
      all_goals
        go_wp2
        refine bodyPost_ret (v := .tuple #[.agg #[.int .i64 (P0).x, .int .i64 (P0).y], .agg #[.int .i64 (Pm).x, .int .i64 (Pm).y]]) (by simp [results, Tryz.results43, go_sem, a0, a1, b0, b1, af0, af1, bf0, bf1]) rfl ⟨by rw [HA.out, HB.out]; rfl, ?_⟩
        exact gr_drew (gr_set (gr_set (gr_set (gr_set hw (.inr (by simp)) _) (.inr (by simp)) _) (.inr (by simp [Nat.add_assoc])) _) (.inr (by simp [Nat.add_assoc])) _)
    · go_enter Tryz.func43, Tryz.ntmps43
      go_wp2_with fail
      generalize ((w.alloc _).alloc _).alloc _ = W at *
      go_region
      all_goals
        go_wp2
        refine bodyPost_ret (v := .tuple #[.agg #[.int .i64 (Pm).x, .int .i64 (Pm).y], .agg #[.int .i64 (P0).x, .int .i64 (P0).y]]) (by simp [results, Tryz.results43, go_sem, a0, a1, b0, b1, af0, af1, bf0, bf1]) rfl ⟨by rw [HA.out, HB.out]; rfl, ?_⟩
        exact gr_drew (gr_set (gr_set (gr_set (gr_set hw (.inr (by simp)) _) (.inr (by simp)) _) (.inr (by simp [Nat.add_assoc])) _) (.inr (by simp [Nat.add_assoc])) _)
  · go_enter Tryz.func43, Tryz.ntmps43
    go_wp2_with fail
    generalize ((w.alloc _).alloc _).alloc _ = W at *
    go_region
    all_goals
      go_wp2
      refine bodyPost_ret (v := .tuple #[.agg #[.int .i64 (Ps).x, .int .i64 (Ps).y], .agg #[.int .i64 (Ps).x, .int .i64 (Ps).y]]) (by simp [results, Tryz.results43, go_sem, a0, a1, b0, b1, af0, af1, bf0, bf1]) rfl ⟨by rw [HA.out, HB.out]; rfl, ?_⟩
      exact gr_drew (gr_set (gr_set (gr_set (gr_set hw (.inr (by simp)) _) (.inr (by simp)) _) (.inr (by simp [Nat.add_assoc])) _) (.inr (by simp [Nat.add_assoc])) _)

end Go.Proofs.YtmhnjpcjagbdhaaGreat

namespace Go.Bl
open Go Go.Proofs.YtmhnjpcjagbdhaaGreat

structure Chc where
  v : Vis
  a : Pt
  b : Pt
deriving DecidableEq, Inhabited

instance : Enc Chc where
  sz := 7
  rep := fun _ _ p cs => cs = [.int .i64 p.v.path, .int .i64 p.v.start, .bool p.v.back, .int .i64 p.a.x, .int .i64 p.a.y, .int .i64 p.b.x, .int .i64 p.b.y]
  len := by rintro w lo x cs rfl; rfl
  one := by rintro w lo x cs rfl u hu; simp at hu; rcases hu with rfl | rfl | rfl | rfl | rfl | rfl | rfl <;> rfl
  keep := fun h _ => h
  mono := fun h _ => h

instance : Flat Chc := ⟨fun h => h, by decide⟩

/-- all visits of a path -/
def chV (p : PathV) (i : Nat) : List Vis := if p.cl then (List.range p.pts.length).map fun (k : Nat) => ⟨i, k, false⟩ else [⟨i, 0, false⟩, ⟨i, 0, true⟩]

def chO (l : List PathV) (v : Vis) : Chc := ⟨v, eA l v, eB l v⟩

def chs (l : List PathV) (i : Nat) : List Chc := (chV (l.getD i default) i).map (chO l)

theorem chV_ok {l : List PathV} (hp : pathsF l = 0) {i : Nat} (hi : i < l.length) : ∀ v ∈ chV l[i] i, v.path = i ∧ VisOk l v ∧ formF l[i] v = 0 := by
  obtain ⟨h1, h2, h3⟩ := pathF_zero ((pathsF_zero hp).2 _ (List.getElem_mem hi))
  intro v hv
  have fin : ∀ s b, s < l[i].pts.length → (l[i].cl = true → b = false) → (l[i].cl = false → s = 0) → v = ⟨i, s, b⟩ → v.path = i ∧ VisOk l v ∧ formF l[i] v = 0 := by
    rintro s b hs hc1 hc2 rfl
    refine ⟨rfl, ⟨i, s, hi, rfl, rfl, h2, h3, hs, hc1, hc2⟩, ?_⟩
    rw [formF_eq, if_neg]
    · unfold spanF outB
      simp; omega
    · cases hc : l[i].cl with
      | true => simp [hc1 hc]
      | false => simp [hc2 hc]
  unfold chV at hv
  cases hc : l[i].cl with
  | true =>
    rw [if_pos hc] at hv
    obtain ⟨k, hk, rfl⟩ := List.mem_map.1 hv
    exact fin k false (by simpa using hk) (fun _ => rfl) (fun h => by rw [hc] at h; cases h) rfl
  | false =>
    rw [if_neg (by rw [hc]; simp)] at hv
    simp only [List.mem_cons, List.not_mem_nil, or_false] at hv
    rcases hv with rfl | rfl
    · exact fin 0 false h1 (fun h => rfl) (fun _ => rfl) rfl
    · exact fin 0 true h1 (fun h => by rw [hc] at h; cases h) (fun _ => rfl) rfl

theorem chV_ne {l : List PathV} (hp : pathsF l = 0) {i : Nat} (hi : i < l.length) : chV l[i] i ≠ [] := by
  obtain ⟨h1, -, -⟩ := pathF_zero ((pathsF_zero hp).2 _ (List.getElem_mem hi))
  unfold chV
  cases hc : l[i].cl with
  | true =>
    rw [if_pos rfl]
    intro h
    have := congrArg List.length h
    simp at this
    rw [this] at h1
    simp at h1
  | false => simp

theorem getD_path {l : List PathV} {i : Nat} (hi : i < l.length) : l.getD i default = l[i] := by
  rw [List.getD_eq_getElem?_getD, List.getElem?_eq_getElem hi, Option.getD_some]

theorem chs_mem {l : List PathV} (hp : pathsF l = 0) {i : Nat} (hi : i < l.length) {c : Chc} (hc : c ∈ chs l i) : c.v.path = i ∧ VisOk l c.v ∧ formF l[i] c.v = 0 ∧ c.a = eA l c.v ∧ c.b = eB l c.v := by
  unfold chs at hc
  rw [getD_path hi] at hc
  obtain ⟨v, hv, rfl⟩ := List.mem_map.1 hc
  obtain ⟨h1, h2, h3⟩ := chV_ok hp hi v hv
  exact ⟨h1, h2, h3, rfl, rfl⟩

theorem chs_ne {l : List PathV} (hp : pathsF l = 0) {i : Nat} (hi : i < l.length) : chs l i ≠ [] := by
  unfold chs
  rw [getD_path hi]
  intro h
  exact chV_ne hp hi (List.map_eq_nil_iff.1 h)

theorem chs_len {l : List PathV} (hp : pathsF l = 0) {i : Nat} (hi : i < l.length) : (chs l i).length ≤ 500 := by
  obtain ⟨-, h2, -⟩ := pathF_zero ((pathsF_zero hp).2 _ (List.getElem_mem hi))
  unfold chs chV
  rw [getD_path hi, List.length_map]
  split
  · simpa using h2
  · simp

/-- the nearer one of two -/
def stepC (at_ : Pt) (acc : Option Chc) (c : Chc) : Option Chc := match acc with
  | none => some c
  | some b => if distP at_ c.a < distP at_ b.a then some c else some b

def bestTo (l : List PathV) (at_ : Pt) (o : List Vis) : Nat → Option Chc
  | 0 => none
  | k + 1 => if hasP o k then bestTo l at_ o k else (chs l k).foldl (stepC at_) (bestTo l at_ o k)

def nearK (l : List PathV) (st : Pt) : Nat → List Vis × Pt
  | 0 => ([], st)
  | m + 1 => let s := nearK l st m; match bestTo l s.2 s.1 l.length with
    | none => (s.1 ++ [default], default)
    | some c => (s.1 ++ [c.v], c.b)

theorem stepC_some (at_ : Pt) (acc : Option Chc) (c : Chc) : ∃ d, stepC at_ acc c = some d ∧ (d = c ∨ acc = some d) := by
  cases acc with
  | none => exact ⟨c, rfl, .inl rfl⟩
  | some b =>
    unfold stepC
    simp only
    split
    · exact ⟨c, rfl, .inl rfl⟩
    · exact ⟨b, rfl, .inr rfl⟩

theorem foldC_mem (at_ : Pt) : ∀ (L : List Chc) (acc : Option Chc) (d : Chc), L.foldl (stepC at_) acc = some d → d ∈ L ∨ acc = some d
  | [], acc, d, h => .inr h
  | c :: L, acc, d, h => by
    rcases foldC_mem at_ L _ d h with h1 | h1
    · exact .inl (List.mem_cons_of_mem _ h1)
    · obtain ⟨d', e, h2⟩ := stepC_some at_ acc c
      rw [e] at h1
      injection h1 with h1
      subst h1
      rcases h2 with rfl | h2
      · exact .inl (List.mem_cons_self ..)
      · exact .inr h2

theorem foldC_some (at_ : Pt) : ∀ (L : List Chc) (acc : Option Chc), L ≠ [] ∨ acc.isSome = true → ∃ d, L.foldl (stepC at_) acc = some d
  | [], acc, h => by
    rcases h with h | h
    · exact absurd rfl h
    · exact Option.isSome_iff_exists.1 h
  | c :: L, acc, _ => by
    obtain ⟨d, e, -⟩ := stepC_some at_ acc c
    rw [List.foldl_cons]
    exact foldC_some at_ L _ (.inr (by rw [e]; rfl))

theorem bestTo_mem (l : List PathV) (at_ : Pt) (o : List Vis) : ∀ k c, bestTo l at_ o k = some c → ∃ i, i < k ∧ hasP o i = false ∧ c ∈ chs l i
  | 0, c, h => by cases h
  | k + 1, c, h => by
    unfold bestTo at h
    by_cases hu : hasP o k = true
    · rw [if_pos hu] at h
      obtain ⟨i, h1, h2, h3⟩ := bestTo_mem l at_ o k c h
      exact ⟨i, by omega, h2, h3⟩
    · rw [if_neg hu] at h
      rcases foldC_mem at_ _ _ c h with h1 | h1
      · exact ⟨k, by omega, by simpa using hu, h1⟩
      · obtain ⟨i, h1, h2, h3⟩ := bestTo_mem l at_ o k c h1
        exact ⟨i, by omega, h2, h3⟩

theorem bestTo_some {l : List PathV} (hp : pathsF l = 0) (at_ : Pt) (o : List Vis) : ∀ k, k ≤ l.length → (∃ i, i < k ∧ hasP o i = false) → ∃ c, bestTo l at_ o k = some c
  | 0, _, ⟨i, h, _⟩ => by omega
  | k + 1, hk, ⟨i, h1, h2⟩ => by
    unfold bestTo
    by_cases hu : hasP o k = true
    · rw [if_pos hu]
      refine bestTo_some hp at_ o k (by omega) ⟨i, ?_, h2⟩
      have : i ≠ k := by rintro rfl; rw [hu] at h2; cases h2
      omega
    · rw [if_neg hu]
      exact foldC_some at_ _ _ (.inl (chs_ne hp (by omega)))

theorem len_inj {α β : Type} [DecidableEq β] (f : α → β) (hf : ∀ a b, f a = f b → a = b) {l : List α} {m : List β} (hl : l.Nodup) (hm : ∀ x ∈ l, f x ∈ m) : l.length ≤ m.length := by
  induction l generalizing m with
  | nil => exact Nat.zero_le _
  | cons x l ih =>
    obtain ⟨h1, h2⟩ := List.nodup_cons.1 hl
    have hx := hm x (List.mem_cons_self ..)
    have := ih (m := m.erase (f x)) h2 fun y hy => by
      rw [List.mem_erase_of_ne (fun e => h1 (by rw [← hf _ _ e]; exact hy))]
      exact hm y (List.mem_cons_of_mem _ hy)
    rw [List.length_erase_of_mem hx] at this
    have hp := List.length_pos_of_mem hx
    simp only [List.length_cons]; omega

theorem has_free (o : List Vis) {n : Nat} (h : o.length < n) : ∃ i, i < n ∧ hasP o i = false := by
  refine Classical.byContradiction fun hc => ?_
  have hall : ∀ i, i < n → hasP o i = true := fun i hi => by
    rcases hb : hasP o i with _ | _
    · exact absurd ⟨i, hi, hb⟩ hc
    · rfl
  have := len_inj (fun i : Nat => (i : Int)) (fun a b e => Int.ofNat.inj e) (l := List.range n) (m := o.map Vis.path) List.nodup_range fun i hi => by
    have := hall i (by simpa using hi)
    unfold hasP at this
    obtain ⟨v, hv, e⟩ := List.any_eq_true.1 this
    exact List.mem_map.2 ⟨v, hv, by simpa using e⟩
  simp at this
  omega

theorem orS_z {a b : Int} (h1 : a = 0) (h2 : b = 0) : orS a b = 0 := by subst h1; subst h2; rfl

theorem visitsF_snoc (l : List PathV) (v : Vis) : ∀ (o b : List Vis), visitsF l b o = 0 → visitF l (b ++ o) v = 0 → visitsF l b (o ++ [v]) = 0
  | [], b, _, h => by
    rw [List.append_nil] at h
    exact orS_z h rfl
  | x :: o, b, h1, h2 => by
    obtain ⟨h3, h4⟩ := orS_eq_zero h1
    refine orS_z h3 (visitsF_snoc l v o (b ++ [x]) h4 ?_)
    rw [List.append_assoc]; exact h2

theorem near_ok {l : List PathV} (hp : pathsF l = 0) (st : Pt) : ∀ m, m ≤ l.length → (nearK l st m).1.length = m ∧ visitsF l [] (nearK l st m).1 = 0 ∧ (nearK l st m).2 = (travS l st (nearK l st m).1).1
  | 0, _ => ⟨rfl, rfl, rfl⟩
  | m + 1, hm => by
    obtain ⟨h1, h2, h3⟩ := near_ok hp st m (by omega)
    obtain ⟨i, hi, hf⟩ := has_free (nearK l st m).1 (n := l.length) (by omega)
    obtain ⟨c, hc⟩ := bestTo_some hp (nearK l st m).2 (nearK l st m).1 l.length (Nat.le_refl _) ⟨i, hi, hf⟩
    have e : nearK l st (m + 1) = ((nearK l st m).1 ++ [c.v], c.b) := by
      conv => lhs; unfold nearK
      simp only [hc]
    obtain ⟨j, hj, hjf, hjc⟩ := bestTo_mem _ _ _ _ _ hc
    obtain ⟨c1, c2, c3, c4, c5⟩ := chs_mem hp hj hjc
    rw [e]
    refine ⟨by simp [h1], visitsF_snoc l c.v _ [] h2 ?_, ?_⟩
    · rw [List.nil_append]
      unfold visitF
      rw [if_neg (by rw [c1]; simp [inB]; omega), c1, hjf, if_neg (by simp), Int.toNat_natCast, getD_path hj]
      exact c3
    · simp only [travS_snoc, c5]

theorem near_order {l : List PathV} (hp : pathsF l = 0) (st : Pt) : orderF l (nearK l st l.length).1 = 0 := by
  obtain ⟨h1, h2, -⟩ := near_ok hp st l.length (Nat.le_refl _)
  unfold orderF
  refine orS_z hp ?_
  rw [if_neg (by simp [h1])]
  exact h2

theorem seenL_snoc {n : Nat} {o : List Vis} {v : Vis} {i : Nat} (h : v.path = (i : Int)) : seenL n (o ++ [v]) = (seenL n o).set i true := by
  have := seenL_set (n := n) (o := o ++ [v]) (k := o.length) (by simp) (i := i) (by simpa using h)
  rwa [show o.length + 1 = (o ++ [v]).length by simp, List.take_length, List.take_left] at this

theorem near_vis {l : List PathV} (hp : pathsF l = 0) (st : Pt) {m : Nat} (hm : m ≤ l.length) : ∀ v ∈ (nearK l st m).1, VisOk l v := visitsF_zero hp (near_ok hp st m hm).2.1

theorem near_near {l : List PathV} (hp : pathsF l = 0) {st : Pt} (hst : near st) {m : Nat} (hm : m ≤ l.length) : near (nearK l st m).2 := by
  rw [(near_ok hp st m hm).2.2]
  have := (travS_bd hst (near_vis hp st hm) (nearK l st m).1.length (Nat.le_refl _)).1
  rwa [List.take_length] at this

theorem near_next {l : List PathV} (hp : pathsF l = 0) (st : Pt) {m : Nat} (hm : m < l.length) : ∃ c i, bestTo l (nearK l st m).2 (nearK l st m).1 l.length = some c ∧ nearK l st (m + 1) = ((nearK l st m).1 ++ [c.v], c.b) ∧ i < l.length ∧ c.v.path = (i : Int) := by
  obtain ⟨h1, h2, h3⟩ := near_ok hp st m (by omega)
  obtain ⟨i, hi, hf⟩ := has_free (nearK l st m).1 (n := l.length) (by omega)
  obtain ⟨c, hc⟩ := bestTo_some hp (nearK l st m).2 (nearK l st m).1 l.length (Nat.le_refl _) ⟨i, hi, hf⟩
  have e : nearK l st (m + 1) = ((nearK l st m).1 ++ [c.v], c.b) := by
    conv => lhs; unfold nearK
    simp only [hc]
  obtain ⟨j, hj, hjf, hjc⟩ := bestTo_mem _ _ _ _ _ hc
  exact ⟨c, j, hc, e, hj, (chs_mem hp hj hjc).1⟩

theorem best_near {l : List PathV} (hp : pathsF l = 0) (at_ : Pt) (o : List Vis) {k : Nat} (hk : k ≤ l.length) {c : Chc} (h : bestTo l at_ o k = some c) : near c.a := by
  obtain ⟨i, hi, -, hc⟩ := bestTo_mem l at_ o k c h
  obtain ⟨-, h2, -, h4, -⟩ := chs_mem hp (show i < l.length by omega) hc
  rw [h4]; exact h2.nA

theorem fold_near {l : List PathV} (hp : pathsF l = 0) (at_ : Pt) (o : List Vis) {k : Nat} (hk : k < l.length) {L : List Chc} (hL : ∀ c ∈ L, c ∈ chs l k) {c : Chc} (h : L.foldl (stepC at_) (bestTo l at_ o k) = some c) : near c.a := by
  rcases foldC_mem at_ _ _ c h with h1 | h1
  · obtain ⟨-, h2, -, h4, -⟩ := chs_mem hp hk (hL c h1)
    rw [h4]; exact h2.nA
  · exact best_near hp at_ o (by omega) h1

theorem visit_one {l : List PathV} {b : List Vis} {v : Vis} (h : visitF l b v = 0) : visitF l [] v = 0 := by
  unfold visitF at h ⊢
  split at h
  · cases h
  · rename_i h1
    rw [if_neg h1]
    split at h
    · cases h
    · rw [if_neg (by simp [hasP])]; exact h

theorem visits_one {l : List PathV} : ∀ {o b : List Vis}, visitsF l b o = 0 → ∀ v ∈ o, visitF l [] v = 0
  | [], _, _, v, hv => by simp at hv
  | x :: o, b, h, v, hv => by
    obtain ⟨h1, h2⟩ := orS_eq_zero h
    rcases List.mem_cons.1 hv with rfl | hv
    · exact visit_one h1
    · exact visits_one h2 v hv

theorem one_of_order {l : List PathV} {o : List Vis} (h : orderF l o = 0) : ∀ v ∈ o, oneF l v = 0 := by
  obtain ⟨h1, h2⟩ := orS_eq_zero h
  split at h2
  · cases h2
  · exact fun v hv => orS_z h1 (visits_one h2 v hv)

/-! ### retractions without walls -/

def retK (l : List PathV) (st : Pt) (o : List Vis) (free : Int) : Nat → List Int
  | 0 => []
  | k + 1 => retK l st o free k ++ (if free < distP (travS l st (o.take k)).1 (eA l (o.getD k default)) then [(k : Int)] else [])

theorem retK_len (l : List PathV) (st : Pt) (o : List Vis) (free : Int) : ∀ k, (retK l st o free k).length ≤ k
  | 0 => Nat.le_refl _
  | k + 1 => by
    have := retK_len l st o free k
    unfold retK
    rw [List.length_append]
    split <;> simp <;> omega

theorem retK_far {l : List PathV} {st : Pt} {o : List Vis} (hst : near st) (ho : ∀ v ∈ o, VisOk l v) : ∀ k, k ≤ o.length → retK l st o 1000000 k = []
  | 0, _ => rfl
  | k + 1, hk => by
    unfold retK
    rw [retK_far hst ho k (by omega), List.nil_append, if_neg]
    have hk2 : k < o.length := by omega
    rw [List.getD_eq_getElem?_getD, List.getElem?_eq_getElem hk2, Option.getD_some]
    have := distP_bd (travS_bd hst ho k (by omega)).1 (ho _ (List.getElem_mem hk2)).nA
    omega

theorem distP_zero (a b : Pt) : 0 < distP a b ↔ b ≠ a := by
  unfold distP
  constructor
  · rintro h rfl; simp at h
  · intro h
    by_cases hx : a.x = b.x
    · by_cases hy : a.y = b.y
      · exfalso; apply h; cases a; cases b; simp_all
      · omega
    · omega

theorem retK_mem (l : List PathV) (st : Pt) (o : List Vis) (free : Int) {i : Nat} : ∀ k, ((i : Int) ∈ retK l st o free k ↔ i < k ∧ free < distP (travS l st (o.take i)).1 (eA l (o.getD i default)))
  | 0 => by simp [retK]
  | k + 1 => by
    unfold retK
    rw [List.mem_append, retK_mem l st o free k]
    by_cases hq : free < distP (travS l st (o.take k)).1 (eA l (o.getD k default))
    · rw [if_pos hq, List.mem_singleton]
      constructor
      · rintro (⟨h1, h2⟩ | h1)
        · exact ⟨by omega, h2⟩
        · have : i = k := by omega
          subst this; exact ⟨by omega, hq⟩
      · rintro ⟨h1, h2⟩
        by_cases e : i = k
        · right; omega
        · left; exact ⟨by omega, h2⟩
    · rw [if_neg hq]
      simp only [List.not_mem_nil, or_false]
      constructor
      · rintro ⟨h1, h2⟩; exact ⟨by omega, h2⟩
      · rintro ⟨h1, h2⟩
        have : i ≠ k := by rintro rfl; exact hq h2
        exact ⟨by omega, h2⟩

end Go.Bl

namespace Go.Proofs.YtmhnjpcjagbdhaaGreat
open Go.RowKit Go.Bl

theorem info_boolP : (Tryz.prog.info? 4).map (fun i => (i.zero, i.size, i.bytes)) = some (some (.bool false), 1, 1) := by kernel_rfl

set_option maxHeartbeats 1000000 in
set_option maxRecDepth 100000 in
theorem orderIn_any (A : Option Addr) (c : Nat) (l : List PathV) (B : Option Addr) (d : Nat) (o : List Vis) (w : World) (hl : Sl w 0 A l) (ho : Sl w 0 B o) (hll : l.length ≤ 200) :
    Calls Tryz.prog 75 #[.slice A l.length c, .slice B o.length d] w fun e w' => e = .returned (.int .i64 (if o.length ≠ l.length then 3 else visitsF l [] o)) ∧ w.grownBy w' none := by
  by_cases hol : o.length = l.length
  · rw [if_neg (by simp [hol])]
    have hnl : ((o.length : Int) != l.length) = false := by simp [hol]
    have hnl2 : (o.length != l.length) = false := by simp [hol]
    obtain ⟨V, hV⟩ : ∃ V : Int, V = visitsF l [] o := ⟨_, rfl⟩
    rw [← hV]
    have hol2 : o.length ≤ 200 := by omega
    replace hV := hide hV
    replace hol := hide hol
    obtain ⟨i0, hi, hz, h1, h2⟩ := info_parts info_boolP
    obtain ⟨w1, hrun, hown, hg1⟩ := run_makeOwn (P := Tryz.prog) w 124 4 i0 _ false Tryz.underlying124 hi hz h1 rfl rfl .i64 .i64 l.length (by rw [h2]; omega) (by simp [maxLen]; omega)
    rw [← seenL_nil] at hown
    go_enter Tryz.func75, Tryz.ntmps75
    go_wp2_with fail
    clear hrun
    go_loopw [19] (fun i wr => ∃ k : Nat, k ≤ o.length ∧ i = .int .i64 k ∧ w.grownBy wr none ∧ Own wr w.heap.size 4 (some ⟨w.heap.size, 0, none⟩) l.length (seenL l.length (o.take k)) ∧ Hid (visitsF l (o.take k) (o.drop k) = V)) (fun i _ => o.length - (intOf i).toNat)
    case atStart => exact ⟨0, Nat.zero_le _, rfl, hg1, hown, hV.out.symm⟩
    case round =>
      obtain ⟨k, hk, rfl, hg, hown, hdr⟩ := hrel
      by_cases hlt : k < o.length
      · obtain ⟨g, of, cx, rfl, hb0, hb1, rfl, hc⟩ := (ho.pure hg).at_ (by decide) hlt
        have v0 : wr.cell? ⟨g, of + k * 3, none⟩ = some (.int .i64 o[k].path) := hc 0 _ rfl
        have v1 : wr.cell? ⟨g, of + k * 3 + 1, none⟩ = some (.int .i64 o[k].start) := hc 1 _ rfl
        have v2 : wr.cell? ⟨g, of + k * 3 + 2, none⟩ = some (.bool o[k].back) := hc 2 _ rfl
        clear hc
        have HS := visitsF_drop l hlt
        have hsz : w.heap.size < wr.heap.size := (hown.blk_lt (g := w.heap.size) rfl).2
        have HSet : ∀ i : Nat, o[k].path = (i : Int) → seenL l.length (o.take (k + 1)) = (seenL l.length (o.take k)).set i true := fun i hi => seenL_set hlt hi
        generalize o[k] = v at *
        rw [hdr.out] at HS
        have HX : ∀ x, visitF l (o.take k) v = x → (x ≠ 0 → x = V) ∧ (x = 0 → visitsF l (o.take (k + 1)) (o.drop (k + 1)) = V) := fun x hx => by
          rw [hx] at HS
          exact ⟨fun h => by rw [orS_ne h] at HS; exact HS.symm, fun h => by rw [orS_zero h] at HS; exact HS.symm⟩
        clear HS
        by_cases hin : 0 ≤ v.path ∧ v.path < l.length
        · obtain ⟨vp, vs, vb⟩ := v
          simp only at hin v0 v1 v2 HSet
          obtain ⟨j, rfl⟩ := Int.eq_ofNat_of_zero_le hin.1
          have hjl : j < l.length := by omega
          have hjs : j < (seenL l.length (o.take k)).length := by rw [seenL_len]; exact hjl
          have s0 := hown.cell_bool hjs
          rw [seenL_get] at s0
          have f0 := hown.frozen j
          have hset := hown.set_bool hjs true
          rw [← HSet j rfl] at hset
          rcases hh : hasP (o.take k) j with _ | _
          · have HX := HX _ (visitF_new (v := ⟨j, vs, vb⟩) hin hh)
            rw [hh] at s0
            have hsetA := hset.pure (gr_alloc (World.grownBy.refl _ _) (.cells #[.int .i64 j, .int .i64 vs, .bool vb] 68))
            have hsetA := hide hsetA
            replace HX := hide HX
            clear hset HSet hjs
            have hgs := gr_alloc (gr_set hg (.inr (Nat.le_refl _)) (p := ⟨w.heap.size, j, none⟩) (.bool true)) (.cells #[.int .i64 j, .int .i64 vs, .bool vb] 68)
            go_wp2_with fail
            refine (visitForm_any _ _ l ⟨j, vs, vb⟩ _ (hl.pure hgs) hin.1 hin.2).mono ?_
            rintro e w2 ⟨rfl, hg2⟩
            generalize formF (l.getD (⟨j, vs, vb⟩ : Vis).path.toNat default) ⟨j, vs, vb⟩ = X at *
            by_cases hz : X = 0
            · have hb : (X != 0) = false := by simp [hz]
              have HT := hide (HX.out.2 hz)
              clear hz
              go_wp2_with fail
              (go_roundw; (case rel => exact ⟨k + 1, by omega, by go_num, gr_trans hgs hg2, hsetA.out.pure hg2, HT⟩); (case measure => simp [intOf]; omega))
            · have hb : (X != 0) = true := by simp [hz]
              have HT := hide (HX.out.1 hz)
              clear hz
              go_wp2_with fail
              go_ret
              exact ⟨ret_int HT.out, gr_trans hgs hg2⟩
          · have HT : Hid (6 = V) := (HX 6 (visitF_seen (v := ⟨j, vs, vb⟩) hin hh)).1 (by decide)
            rw [hh] at s0
            clear HX HSet hset
            go_wp2_with fail
            go_ret
            exact ⟨ret_int HT.out, (by repeat (first | exact World.grownBy.refl _ _ | assumption | refine gr_alloc ?_ _ | (apply gr_tail; assumption) | refine gr_drewN ?_ _ | refine gr_drew ?_))⟩
        · have HT : Hid (1 = V) := (HX 1 (visitF_out hin)).1 (by decide)
          have hin2 : v.path < 0 ∨ l.length ≤ v.path := by omega
          clear HX HSet hin
          go_wp2_with fail
          all_goals first
            | (go_ret; exact ⟨ret_int HT.out, (by repeat (first | exact World.grownBy.refl _ _ | assumption | refine gr_alloc ?_ _ | (apply gr_tail; assumption) | refine gr_drewN ?_ _ | refine gr_drew ?_))⟩)
            | (exfalso; omega)
      · have HB : Hid (0 = V) := by rw [Hid, ← hdr.out, List.drop_of_length_le (by omega)]; rfl
        go_wp2
        go_ret
        exact ⟨ret_int HB.out, hg⟩
  · rw [if_pos hol]
    have hnl : ((o.length : Int) != l.length) = true := by simp; omega
    have hnl2 : (o.length != l.length) = true := by simp [hol]
    clear hol
    go_enter Tryz.func75, Tryz.ntmps75
    go_wp2_with fail
    go_ret
    exact ⟨rfl, World.grownBy.refl _ _⟩

set_option maxHeartbeats 800000 in
theorem checkOrder_any (A : Option Addr) (c : Nat) (l : List PathV) (B : Option Addr) (d : Nat) (o : List Vis) (w : World) (hl : Sl w 0 A l) (ho : Sl w 0 B o) :
    Calls Tryz.prog 41 #[.slice A l.length c, .slice B o.length d] w fun e w' => e = .returned (.int .i64 (orderF l o)) ∧ w.grownBy w' none := by
  by_cases hz : pathsF l = 0
  · have hb : (pathsF l != 0) = false := by simp [hz]
    have HO : Hid ((if o.length ≠ l.length then 3 else visitsF l [] o) = orderF l o) := by rw [Hid]; unfold orderF; rw [orS_zero hz]
    have hll := (pathsF_zero hz).1
    clear hz
    go_enter Tryz.func41, Tryz.ntmps41
    go_wp2_with fail
    refine (checkPaths_any _ _ l _ hl).mono ?_
    rintro e w1 ⟨rfl, hg1⟩
    go_wp2_with fail
    refine (orderIn_any _ _ l _ _ o _ (hl.pure hg1) (ho.pure hg1) hll).mono ?_
    rintro e w2 ⟨rfl, hg2⟩
    rw [HO.out]
    go_wp2_with fail
    go_ret
    exact ⟨rfl, gr_trans hg1 hg2⟩
  · have hb : (pathsF l != 0) = true := by simp [hz]
    have HO := hide (orderF_bad (o := o) hz)
    clear hz
    go_enter Tryz.func41, Tryz.ntmps41
    go_wp2_with fail
    refine (checkPaths_any _ _ l _ hl).mono ?_
    rintro e w1 ⟨rfl, hg1⟩
    go_wp2_with fail
    go_ret
    exact ⟨ret_int HO.out.symm, hg1⟩

end Go.Proofs.YtmhnjpcjagbdhaaGreat

namespace Go.Bl
open Go Go.Proofs.YtmhnjpcjagbdhaaGreat

def twoF (st : Pt) (l : List PathV) (o : List Vis) : Int := orS (pointsF [st]) (orderF l o)

def travO (st : Pt) (l : List PathV) (o : List Vis) : Int := if twoF st l o = 0 then (travS l st o).2 else 0

theorem pointsF_one (p : Pt) : pointsF [p] = if farP p then 1 else 0 := by simp [pointsF]

def tP (l : List PathV) (v : Vis) : List Pt := turned (l.getD v.path.toNat default) v

def tPO (l : List PathV) (v : Vis) : List Pt := if oneF l v = 0 then tP l v else []

def eAO (l : List PathV) (v : Vis) : Pt := if oneF l v = 0 then eA l v else ⟨0, 0⟩

def eBO (l : List PathV) (v : Vis) : Pt := if oneF l v = 0 then eB l v else ⟨0, 0⟩

theorem tP_of {l : List PathV} {k s : Nat} {b : Bool} (hk : k < l.length) : tP l ⟨k, s, b⟩ = turned l[k] ⟨k, s, b⟩ := by simp [tP, List.getD, hk]

theorem turn_closed {pts : List Pt} {s : Nat} (h : s < pts.length) : pts.drop s ++ pts.take (s + 1) = (pts.drop s ++ pts.take s) ++ (pts.drop s ++ pts.take s).take 1 := by
  have e1 : pts.take (s + 1) = pts.take s ++ [pts[s]] := take_snoc h
  have e2 : pts.drop s = pts[s] :: pts.drop (s + 1) := List.drop_eq_getElem_cons h
  have e3 : (pts.drop s ++ pts.take s).take 1 = [pts[s]] := by rw [e2]; rfl
  rw [e3, e1, List.append_assoc]

end Go.Bl
namespace Go.Proofs.YtmhnjpcjagbdhaaGreat
open Go.RowKit Go.Bl

theorem twoF_zero {st : Pt} {l : List PathV} {o : List Vis} (h : twoF st l o = 0) : near st ∧ o.length ≤ 200 ∧ ∀ v ∈ o, VisOk l v := by
  obtain ⟨h1, h2⟩ := orS_eq_zero h
  obtain ⟨h3, h4, h5⟩ := orderF_zero h2
  refine ⟨near_of ?_, by omega, h5⟩
  rw [pointsF_one] at h1
  rcases hf : farP st with _ | _
  · rfl
  · rw [hf] at h1; cases h1

end Go.Proofs.YtmhnjpcjagbdhaaGreat

namespace Go.Proofs.YtmhnjpcjagbdhaaGreat
open Go.RowKit Go.Bl

def stepL (p : PathV) (i : Nat) : Int := if i = 0 then (if p.cl then distP (p.pts.getD (p.pts.length - 1) default) (p.pts.getD 0 default) else 0) else distP (p.pts.getD (i - 1) default) (p.pts.getD i default)

def longTo (p : PathV) (k : Nat) : Int := ((List.range k).map (stepL p)).sum

theorem longTo_succ (p : PathV) (k : Nat) : longTo p (k + 1) = longTo p k + stepL p k := by unfold longTo; rw [List.range_succ, List.map_append, List.sum_append]; simp

def longP (p : PathV) : Int := longTo p p.pts.length

def longs (l : List PathV) : List Int := l.map longP

def longSum (l : List PathV) : Int := (longs l).sum

theorem longs_snoc {l : List PathV} {k : Nat} (h : k < l.length) : longs (l.take (k + 1)) = longs (l.take k) ++ [longP l[k]] := by unfold longs; rw [take_snoc h, List.map_append]; rfl

theorem longSum_snoc {l : List PathV} {k : Nat} (h : k < l.length) : longSum (l.take (k + 1)) = longSum (l.take k) + longP l[k] := by unfold longSum; rw [longs_snoc h, List.sum_append]; simp

theorem stepL_bd {p : PathV} (h : pathF p = 0) {i : Nat} (hi : i < p.pts.length) : 0 ≤ stepL p i ∧ stepL p i ≤ 200000 := by
  have hn : ∀ j, j < p.pts.length → near (p.pts.getD j default) := fun j hj => by
    have e : p.pts.getD j default = p.pts[j] := by simp [List.getD, hj]
    rw [e]; exact near_of ((pathF_zero h).2.2 _ (List.getElem_mem _))
  unfold stepL
  split
  · split
    · exact distP_bd (hn _ (by omega)) (hn _ (by omega))
    · omega
  · exact distP_bd (hn _ (by omega)) (hn _ hi)

theorem longTo_bd {p : PathV} (h : pathF p = 0) : ∀ k, k ≤ p.pts.length → 0 ≤ longTo p k ∧ longTo p k ≤ k * 200000
  | 0, _ => by simp [longTo]
  | k + 1, hk => by
    have := longTo_bd h k (by omega)
    have := stepL_bd h (show k < p.pts.length by omega)
    rw [longTo_succ]; omega

theorem longP_bd {p : PathV} (h : pathF p = 0) : 0 ≤ longP p ∧ longP p ≤ 100000000 := by
  have := longTo_bd h p.pts.length (Nat.le_refl _)
  have := (pathF_zero h).2.1
  unfold longP; omega

theorem longSum_bd {l : List PathV} (h : ∀ p ∈ l, pathF p = 0) : ∀ k, k ≤ l.length → 0 ≤ longSum (l.take k) ∧ longSum (l.take k) ≤ k * 100000000
  | 0, _ => by simp [longSum, longs]
  | k + 1, hk => by
    have := longSum_bd h k (by omega)
    have := longP_bd (h l[k] (List.getElem_mem _))
    rw [longSum_snoc (by omega)]; omega

def longF (l : List PathV) : List Int := if pathsF l = 0 then longs l else []

def longS (l : List PathV) : Int := if pathsF l = 0 then longSum l else 0

set_option maxHeartbeats 1000000 in
set_option maxRecDepth 100000 in
theorem long_any (A : Option Addr) (c : Nat) (l : List PathV) (w : World) (hl : Sl w 0 A l) :
    Calls Tryz.prog 60 #[.slice A l.length c] w fun e w' => ∃ A' c', e = .returned (.tuple #[.slice A' (longF l).length c', .int .i64 (longS l), .int .i64 (pathsF l)]) ∧ Own w' w.heap.size 3 A' c' (longF l) ∧ w.grownBy w' none := by
  by_cases hzp : pathsF l = 0
  · have hb : (pathsF l != 0) = false := by simp [hzp]
    have HF : Hid (longF l = longs l) := by rw [Hid]; unfold longF; rw [if_pos hzp]
    have HS : Hid (longS l = longSum l) := by rw [Hid]; unfold longS; rw [if_pos hzp]
    obtain ⟨hll, hpf⟩ := pathsF_zero hzp
    have hsb := hide (longSum_bd hpf)
    replace hpf := hide hpf
    have HZ := hide hzp
    clear hzp
    obtain ⟨i0, hi, hz, h1, h2⟩ := info_parts info_int
    go_enter Tryz.func60, Tryz.ntmps60
    go_wp2_with fail
    refine (checkPaths_any _ _ l _ hl).mono ?_
    rintro e w1 ⟨rfl, hg1⟩
    go_wp2_with fail
    go_loopw [6, 7, 20] (fun o n i wr => ∃ (k : Nat) (A' : Option Addr) (c' : Nat), k ≤ l.length ∧ i = .int .i64 k ∧ n = .int .i64 (longSum (l.take k)) ∧ o = .slice A' k c' ∧ Own wr w.heap.size 3 A' c' (longs (l.take k)) ∧ w.grownBy wr none) (fun _ _ i _ => l.length - (intOf i).toNat)
    case atStart => exact ⟨0, none, 0, Nat.zero_le _, rfl, rfl, rfl, Own.nil _ _ _, hg1⟩
    case round =>
      obtain ⟨k, A1, c1', hk, rfl, rfl, rfl, hown, hg⟩ := hrel
      obtain ⟨hs0, hs1⟩ := hsb.out k hk
      have hkl : Hid ((longs (l.take k)).length = k) := by simp [Hid, longs]; omega
      by_cases hlt : k < l.length
      · have hs2 := hide (longSum_snoc hlt)
        have hs3 := hide (longs_snoc hlt)
        obtain ⟨g, o, cx, rfl, hb0, hb1, ⟨A', c', rfl, hcp, hpts⟩, hc⟩ := (hl.pure hg).at_ (by decide) hlt
        have c0 : wr.cell? ⟨g, o + k * 2, none⟩ = some (.slice A' l[k].pts.length c') := hc 0 _ rfl
        have c1 : wr.cell? ⟨g, o + k * 2 + 1, none⟩ = some (.bool l[k].cl) := hc 1 _ rfl
        clear hc
        have hp0 := hpf.out l[k] (List.getElem_mem _)
        obtain ⟨hq0, hq1, hq2⟩ := pathF_zero hp0
        have hlb := longP_bd hp0
        have hst := hide (fun i hi => stepL_bd hp0 (i := i) hi)
        have hlo := hide (longTo_bd hp0)
        replace hp0 := hide hp0
        have hbx := gr_alloc (r := none) (World.grownBy.refl wr none) (.cells #[.slice A' l[k].pts.length c', .bool l[k].cl] 62)
        have D0 := (Cell.new wr [.slice A' l[k].pts.length c', .bool l[k].cl] 62 0 _ rfl _ rfl).1
        have D1 := (Cell.new wr [.slice A' l[k].pts.length c', .bool l[k].cl] 62 1 _ rfl _ rfl).1
        replace hpts := hpts.pure hbx
        obtain ⟨W, hW⟩ : ∃ W : World, W = wr := ⟨_, rfl⟩
        subst hW
        have hLP : Hid (longP l[k] = longTo l[k] l[k].pts.length) := rfl
        generalize l[k] = p at *
        go_wp2_with fail
        generalize hWb : W.alloc (.cells #[.slice A' p.pts.length c', .bool p.cl] 62) = Wb at *
        replace hWb := hide hWb
        go_loopw [10, 27] (fun n i wx => ∃ j : Nat, j ≤ p.pts.length ∧ i = .int .i64 j ∧ n = .int .i64 (longTo p j) ∧ Wb.grownBy wx none) (fun _ i _ => p.pts.length - (intOf i).toNat)
        case atStart => exact ⟨0, Nat.zero_le _, rfl, rfl, World.grownBy.refl _ _⟩
        case round =>
          obtain ⟨j, hj, rfl, rfl, hgx⟩ := hrel
          obtain ⟨hl0, hl1⟩ := hlo.out j hj
          have hj5 : j ≤ 500 := by omega
          by_cases hjl : j < p.pts.length
          · have hls := hide (longTo_succ p j)
            obtain ⟨hs5, hs6⟩ := hst.out j hjl
            obtain ⟨g2, o2, cx, rfl, hb2, hb3, rfl, hc⟩ := (hpts.pure hgx).at_ (by decide) hjl
            have p0 : wr.cell? ⟨g2, o2 + j * 2, none⟩ = some (.int .i64 p.pts[j].x) := hc 0 _ rfl
            have p1 : wr.cell? ⟨g2, o2 + j * 2 + 1, none⟩ = some (.int .i64 p.pts[j].y) := hc 1 _ rfl
            clear hc
            have hdj : near p.pts[j] := near_of (hq2 _ (List.getElem_mem _))
            have hneW : W.heap.size ≠ wr.heap.size := by have := hgx.size; have := cell_lt D0; simp only at this; omega
            have d0 := hgx.k D0
            have d1 := hgx.k D1
            rcases Nat.eq_zero_or_pos j with h0 | h0
            · subst h0
              rw [Nat.zero_mul, Nat.add_zero] at p0
              rw [Nat.zero_mul, Nat.add_zero] at p1
              rw [show ((0 : Nat) : Int) = 0 from rfl]
              cases hcl : p.cl
              · rw [hcl] at d1
                have hsi : Hid (longTo p (0 + 1) = longTo p 0) := by rw [Hid, hls.out]; simp [stepL, hcl]
                clear hcl
                clear hq2 hl0 hl1 hs5 hs6 hj
                have fa := (gr_alloc (r := none) (World.grownBy.refl wr none) (.cells #[.int .i64 (p.pts[0]'(by omega)).x, .int .i64 (p.pts[0]'(by omega)).y] 29)).k d1
                go_wp2_with fail
                (go_roundw; (case rel => exact ⟨1, by omega, by go_num, by rw [hsi.out], gr_alloc hgx _⟩); (case measure => simp [intOf]; omega))
              · rw [hcl] at d1
                obtain ⟨m, hm1⟩ : ∃ m : Nat, p.pts.length = m + 1 := ⟨p.pts.length - 1, by omega⟩
                have hil : m < p.pts.length := by omega
                obtain ⟨g3, o3, cx, e3, _, _, rfl, hc⟩ := (hpts.pure hgx).at_ (by decide) hil
                injection e3 with e3; injection e3 with e3 e4; subst e3; subst e4
                have r0 : wr.cell? ⟨g2, o2 + m * 2, none⟩ = some (.int .i64 p.pts[m].x) := hc 0 _ rfl
                have r1 : wr.cell? ⟨g2, o2 + m * 2 + 1, none⟩ = some (.int .i64 p.pts[m].y) := hc 1 _ rfl
                clear hc
                have hdi : near p.pts[m] := near_of (hq2 _ (List.getElem_mem _))
                have hsi : Hid (longTo p (0 + 1) = longTo p 0 + distP p.pts[m] (p.pts[0]'(by omega))) := by
                  rw [Hid, hls.out]
                  simp [stepL, List.getD, hcl, hm1, hjl]
                have hdb := distP_bd hdi hdj
                generalize p.pts[m] = Pi at *
                generalize p.pts[0]'_ = Pj at *
                rw [hm1] at d0
                have hm5 : m + 1 ≤ 500 := by omega
                have hml : Hid (p.pts.length = m + 1) := hm1
                have hl3 : longTo p 0 ≤ 10 := by simp at hl1; omega
                clear hcl hm1 hq2 hl1 hs5 hs6 hj
                have fa := (gr_alloc (r := none) (World.grownBy.refl wr none) (.cells #[.int .i64 Pj.x, .int .i64 Pj.y] 29)).k d1
                go_wp2_with fail
                have gx := gr_alloc (r := none) (World.grownBy.refl wr none) (.cells #[.int .i64 Pj.x, .int .i64 Pj.y] 29)
                have q0 := (Cell.new wr [.int .i64 Pj.x, .int .i64 Pj.y] 29 0 _ rfl _ rfl).1
                have q1 := (Cell.new wr [.int .i64 Pj.x, .int .i64 Pj.y] 29 1 _ rfl _ rfl).1
                have f0 := gx.k d0
                have t0 := gx.k r0
                have t1 := gx.k r1
                refine wp_region_fix 12 ((fun wx => (wr.alloc (.cells #[.int .i64 Pj.x, .int .i64 Pj.y] 29)).grownBy wx none)) (by kernel_rfl) (by kernel_rfl) (gr_drew (World.grownBy.refl _ _)) ?_
                simp only [List.take_succ_cons, List.take_zero, List.drop_succ_cons, List.drop_zero]
                (refine fix_b (fun K hK => ?_); apply Exists.intro; refine ⟨fun wx hC K' hK' => ?_, ?_⟩; (focus (replace hK' := hide hK'; skip; go_wp2_with fail; exact hK'.out _ hC)); go_simp; refine hK _ ?_; clear hK K)
                (refine fix_b (fun K hK => ?_); apply Exists.intro; refine ⟨fun wx hC K' hK' => ?_, ?_⟩; (focus (replace hK' := hide hK'; skip; go_wp2_with fail; exact hK'.out _ hC)); go_simp; refine hK _ ?_; clear hK K)
                (refine fix_b (fun K hK => ?_); apply Exists.intro; refine ⟨fun wx hC K' hK' => ?_, ?_⟩; (focus (replace hK' := hide hK'; (have y0 := hC.k f0); go_wp2_with fail; exact hK'.out _ hC)); go_simp; refine hK _ ?_; clear hK K)
                (refine fix_b (fun K hK => ?_); apply Exists.intro; refine ⟨fun wx hC K' hK' => ?_, ?_⟩; (focus (replace hK' := hide hK'; skip; go_wp2_with fail; exact hK'.out _ hC)); go_simp; refine hK _ ?_; clear hK K)
                (refine fix_b (fun K hK => ?_); apply Exists.intro; refine ⟨fun wx hC K' hK' => ?_, ?_⟩; (focus (replace hK' := hide hK'; (have y0 := hC.k f0); go_wp2_with fail; exact hK'.out _ hC)); go_simp; refine hK _ ?_; clear hK K)
                iterate 3 ((refine fix_b (fun K hK => ?_); apply Exists.intro; refine ⟨fun wx hC K' hK' => ?_, ?_⟩; (focus (replace hK' := hide hK'; skip; go_wp2_with fail; exact hK'.out _ hC)); go_simp; refine hK _ ?_; clear hK K))
                (refine fix_b (fun K hK => ?_); apply Exists.intro; refine ⟨fun wx hC K' hK' => ?_, ?_⟩; (focus (replace hK' := hide hK'; (have y0 := hC.k t0; have y1 := hC.k t1); go_wp2_with fail; exact hK'.out _ hC)); go_simp; refine hK _ ?_; clear hK K)
                (refine fix_b (fun K hK => ?_); apply Exists.intro; refine ⟨fun wx hC K' hK' => ?_, ?_⟩; (focus (replace hK' := hide hK'; (have y0 := hC.k q0; have y1 := hC.k q1); go_wp2_with fail; exact hK'.out _ hC)); go_simp; refine hK _ ?_; clear hK K)
                (refine fix_b (fun K hK => ?_); apply Exists.intro; refine ⟨fun wx hC K' hK' => ?_, ?_⟩; (focus (replace hK' := hide hK'; skip; go_wp2_with fail; (refine (distance_any Pi Pj _ hdi hdj).mono ?_; rintro e w' ⟨rfl, hg'⟩; go_wp2_with fail; exact hK'.out _ (gr_trans hC hg')))); go_simp; refine hK _ ?_; clear hK K)
                (refine fix_b (fun K hK => ?_); apply Exists.intro; refine ⟨fun wx hC K' hK' => ?_, ?_⟩; (focus (replace hK' := hide hK'; skip; go_wp2_with fail; exact hK'.out _ hC)); go_simp; refine hK _ ?_; clear hK K)
                refine fix_nil ?_
                intro wz hC
                go_wp2_with fail
                (go_roundw; (case rel => exact ⟨1, by omega, by go_num, by first | rw [hsi.out] | rw [hls.out, hsi.out], gr_trans (gr_alloc hgx _) hC⟩); (case measure => simp [intOf]; omega))
            · obtain ⟨i, rfl⟩ : ∃ i, j = i + 1 := ⟨j - 1, by omega⟩
              have hil : i < p.pts.length := by omega
              obtain ⟨g3, o3, cx, e3, _, _, rfl, hc⟩ := (hpts.pure hgx).at_ (by decide) hil
              injection e3 with e3; injection e3 with e3 e4; subst e3; subst e4
              have r0 : wr.cell? ⟨g2, o2 + i * 2, none⟩ = some (.int .i64 p.pts[i].x) := hc 0 _ rfl
              have r1 : wr.cell? ⟨g2, o2 + i * 2 + 1, none⟩ = some (.int .i64 p.pts[i].y) := hc 1 _ rfl
              clear hc
              have hdi : near p.pts[i] := near_of (hq2 _ (List.getElem_mem _))
              have hsi : Hid (stepL p (i + 1) = distP p.pts[i] p.pts[i + 1]) := by simp [Hid, stepL, List.getD, hil, hjl]
              have hdb := distP_bd hdi hdj
              have hij : ((i + 1 : Nat) : Int) - 1 = i := by omega
              generalize p.pts[i] = Pi at *
              generalize p.pts[i + 1] = Pj at *
              go_wp2_with fail
              have gx := gr_alloc (r := none) (World.grownBy.refl wr none) (.cells #[.int .i64 Pj.x, .int .i64 Pj.y] 29)
              have q0 := (Cell.new wr [.int .i64 Pj.x, .int .i64 Pj.y] 29 0 _ rfl _ rfl).1
              have q1 := (Cell.new wr [.int .i64 Pj.x, .int .i64 Pj.y] 29 1 _ rfl _ rfl).1
              have f0 := gx.k d0
              have t0 := gx.k r0
              have t1 := gx.k r1
              refine wp_region_fix 10 ((fun wx => (wr.alloc (.cells #[.int .i64 Pj.x, .int .i64 Pj.y] 29)).grownBy wx none)) (by kernel_rfl) (by kernel_rfl) (gr_drew (World.grownBy.refl _ _)) ?_
              simp only [List.take_succ_cons, List.take_zero, List.drop_succ_cons, List.drop_zero]
              (refine fix_b (fun K hK => ?_); apply Exists.intro; refine ⟨fun wx hC K' hK' => ?_, ?_⟩; (focus (replace hK' := hide hK'; skip; go_wp2_with fail; exact hK'.out _ hC)); go_simp; refine hK _ ?_; clear hK K)
              (refine fix_b (fun K hK => ?_); apply Exists.intro; refine ⟨fun wx hC K' hK' => ?_, ?_⟩; (focus (replace hK' := hide hK'; skip; go_wp2_with fail; exact hK'.out _ hC)); go_simp; refine hK _ ?_; clear hK K)
              (refine fix_b (fun K hK => ?_); apply Exists.intro; refine ⟨fun wx hC K' hK' => ?_, ?_⟩; (focus (replace hK' := hide hK'; (have y0 := hC.k f0); go_wp2_with fail; exact hK'.out _ hC)); go_simp; refine hK _ ?_; clear hK K)
              iterate 3 ((refine fix_b (fun K hK => ?_); apply Exists.intro; refine ⟨fun wx hC K' hK' => ?_, ?_⟩; (focus (replace hK' := hide hK'; skip; go_wp2_with fail; exact hK'.out _ hC)); go_simp; refine hK _ ?_; clear hK K))
              (refine fix_b (fun K hK => ?_); apply Exists.intro; refine ⟨fun wx hC K' hK' => ?_, ?_⟩; (focus (replace hK' := hide hK'; (have y0 := hC.k t0; have y1 := hC.k t1); go_wp2_with fail; exact hK'.out _ hC)); go_simp; refine hK _ ?_; clear hK K)
              (refine fix_b (fun K hK => ?_); apply Exists.intro; refine ⟨fun wx hC K' hK' => ?_, ?_⟩; (focus (replace hK' := hide hK'; (have y0 := hC.k q0; have y1 := hC.k q1); go_wp2_with fail; exact hK'.out _ hC)); go_simp; refine hK _ ?_; clear hK K)
              (refine fix_b (fun K hK => ?_); apply Exists.intro; refine ⟨fun wx hC K' hK' => ?_, ?_⟩; (focus (replace hK' := hide hK'; skip; go_wp2_with fail; (refine (distance_any Pi Pj _ hdi hdj).mono ?_; rintro e w' ⟨rfl, hg'⟩; go_wp2_with fail; exact hK'.out _ (gr_trans hC hg')))); go_simp; refine hK _ ?_; clear hK K)
              (refine fix_b (fun K hK => ?_); apply Exists.intro; refine ⟨fun wx hC K' hK' => ?_, ?_⟩; (focus (replace hK' := hide hK'; skip; go_wp2_with fail; exact hK'.out _ hC)); go_simp; refine hK _ ?_; clear hK K)
              refine fix_nil ?_
              intro wz hC
              go_wp2_with fail
              (go_roundw; (case rel => exact ⟨i + 1 + 1, by omega, by go_num, by first | rw [hsi.out] | rw [hls.out, hsi.out], gr_trans (gr_alloc hgx _) hC⟩); (case measure => simp [intOf]; omega))
          · have hjj : j = p.pts.length := by omega
            subst hjj
            rw [← hLP.out]
            go_wp2_with (at_builtin; refine wpList_push (α := Int) _ rfl (.tmp 59) (.tmp 61) _ rfl w.heap.size 3 i0 _ 8 Tryz.underlying22 hi hz h1 h2 rfl _ _ _ (longs (l.take k)) rfl ?c1 (by exact ((hown.pure hbx).pure (by repeat (first | exact World.grownBy.refl _ _ | assumption | refine gr_alloc ?_ _)))) 0 ⟨_, 0, none⟩ 1 1 [longP p] rfl rfl (by exact sl_int1 _ _ _ _ (by first | rfl | simp)) ?c2 ?c3 ?c4 ?_)
            case c1 => exact hkl.out.symm
            case c2 => rw [hkl.out]; simp; omega
            case c3 => rw [hkl.out]; simp [maxLen]; omega
            case c4 => simp; have := hg.size; have := hbx.size; have := hgx.size; omega
            intro A2 c2 w2 hown2 hup2
            rw [← hs3.out] at hown2
            go_wp2
            (go_roundw; (case rel => exact ⟨k + 1, A2, c2, by omega, by go_num, by rw [hs2.out], by simp [hkl.out], hown2, hup2.gr (Nat.le_refl _) (gr_alloc (gr_trans (gr_trans hg hbx) hgx) _)⟩); (case measure => simp [intOf]; omega))
      · have hkk : k = l.length := by omega
        subst hkk
        have ht : Hid (l.take l.length = l) := List.take_length
        rw [ht.out] at hown hkl ⊢
        go_wp2
        go_ret3
        exact ⟨A1, c1', by rw [HF.out, HS.out, hkl.out, HZ.out]; rfl, by rw [HF.out]; exact hown, hg⟩
  · have hb : (pathsF l != 0) = true := by simp [hzp]
    have HF : Hid (longF l = []) := by rw [Hid]; unfold longF; rw [if_neg hzp]
    have HS : Hid (longS l = 0) := by rw [Hid]; unfold longS; rw [if_neg hzp]
    clear hzp
    go_enter Tryz.func60, Tryz.ntmps60
    go_wp2_with fail
    refine (checkPaths_any _ _ l _ hl).mono ?_
    rintro e w1 ⟨rfl, hg1⟩
    go_wp2_with fail
    go_ret3
    exact ⟨none, 0, by rw [HF.out, HS.out]; rfl, by rw [HF.out]; exact Own.nil _ _ _, hg1⟩

theorem longN_any (A : Option Addr) (n c : Nat) (l : List PathV) (hn : l.length = n) (w : World) (hl : Sl w 0 A l) :
    Calls Tryz.prog 60 #[.slice A n c] w fun e w' => ∃ A' c', e = .returned (.tuple #[.slice A' (longF l).length c', .int .i64 (longS l), .int .i64 (pathsF l)]) ∧ Own w' w.heap.size 3 A' c' (longF l) ∧ w.grownBy w' none := by
  subst hn
  exact long_any A c l w hl

theorem sl_litAt {α : Type} [Enc α] (w : World) (lo : Nat) (cs : List Value) (t : TypeId) (l : List α) (g : Nat) (hg : g = w.heap.size) (hlo : lo ≤ w.heap.size) (hm : l.length ≤ maxLen) (hr : Row (w.alloc (.cells cs.toArray t)) lo l cs) :
    Sl (w.alloc (.cells cs.toArray t)) lo (some ⟨g, 0, none⟩) l := by
  subst hg
  exact sl_lit w lo cs t l hlo hm hr

def onePath : List PathV := [⟨[⟨0, 0⟩, ⟨3, 2⟩], false⟩]

set_option maxHeartbeats 300000 in
theorem pathed_any (w : World) : Calls Tryz.prog 23 #[] w fun e w' => e = .returned (.bool true) ∧ w.grownBy w' none := by
  have e1 := hide (show longF onePath = [3] by decide +kernel)
  have e2 := hide (show longS onePath = 3 by decide +kernel)
  have e3 := hide (show pathsF onePath = 0 by decide +kernel)
  have hs1 : Sl (w.alloc (.cells #[.int .i64 0, .int .i64 0, .int .i64 3, .int .i64 2] 29)) 0 (some ⟨w.heap.size, 0, none⟩) [(⟨0, 0⟩ : Pt), ⟨3, 2⟩] := sl_lit w 0 [.int .i64 0, .int .i64 0, .int .i64 3, .int .i64 2] _ _ (Nat.zero_le _) (by simp [maxLen]) ⟨[.int .i64 0, .int .i64 0], _, rfl, rfl, _, [], rfl, rfl, rfl⟩
  have hs2 := hs1.pure (gr_alloc (World.grownBy.refl _ _) (.cells #[.slice (some ⟨w.heap.size, 0, none⟩) 2 2, .bool false] 62))
  have hs3 := sl_litAt (w.alloc (.cells #[.int .i64 0, .int .i64 0, .int .i64 3, .int .i64 2] 29)) 0 [.slice (some ⟨w.heap.size, 0, none⟩) 2 2, .bool false] 62 onePath (w.heap.size + 1) (by simp) (Nat.zero_le _) (by simp [maxLen, onePath]) ⟨_, [], rfl, ⟨_, _, rfl, by decide, hs2⟩, rfl⟩
  go_enter Tryz.func23, Tryz.ntmps23
  go_wp2_with fail
  refine (longN_any _ 1 1 onePath rfl _ hs3).mono ?_
  rintro e w1 ⟨A', c', rfl, hO, hg⟩
  rw [e1.out, e2.out, e3.out]
  rw [e1.out] at hO
  clear hs1 hs2 hs3
  have hgw := gr_trans (gr_alloc (gr_alloc (World.grownBy.refl w none) _) _) hg
  go_wp2_with fail
  refine (equalInts_any _ _ _ _ [3] [3] _ ((hO.sl.mono (Nat.zero_le _)).pure (gr_alloc (World.grownBy.refl _ _) _)) (sl_ints _ _ _ _ (Nat.zero_le _) (by simp [maxLen]))).mono ?_
  rintro e w2 ⟨rfl, hg2⟩
  have e4 := hide (show eqB ([3] : List Int) [3] = true by decide)
  rw [e4.out]
  go_wp2_with fail
  go_ret
  exact ⟨rfl, gr_trans (gr_alloc hgw _) hg2⟩

end Go.Proofs.YtmhnjpcjagbdhaaGreat

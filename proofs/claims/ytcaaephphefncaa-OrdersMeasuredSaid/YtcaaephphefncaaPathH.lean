/- Contracts of functions that this seat's laws reach, each: what one call returns and what it leaves in memory; no condition beyond each theorem's own hypotheses. -/
import Derived.Test.YtcaaephphefncaaPathG
import Derived.Test.YtcaaephphefncaaPathE
import Derived.Test.YtcaaephphefncaaHead
set_option linter.unusedVariables false
set_option linter.unusedSimpArgs false
namespace Go.Bl
open Go
theorem Sl.drop {α : Type} [Enc α] {w : World} {lo g o : Nat} {l : List α} (h : Sl w lo (some ⟨g, o, none⟩) l) (k : Nat) : Sl w lo (some ⟨g, o + k * Enc.sz α, none⟩) (l.drop k) := by
  obtain ⟨hm, cs, hr, hl⟩ := h
  refine ⟨by rw [List.length_drop]; omega, _, hr.drop k, fun hne => ?_⟩
  obtain ⟨ad, e, hb, hc⟩ := hl (by rintro rfl; simp at hne)
  injection e with e
  subst e
  refine ⟨_, rfl, hb, fun j u hu => ?_⟩
  rw [List.getElem?_drop] at hu
  have := hc _ u hu
  rw [Addr.add_lit] at this ⊢
  rwa [Nat.add_assoc]
def VOwn {α : Type} [Enc α] (lo : Nat) (e : TypeId) (l : List α) : Value → World → Prop := fun v w => ∃ (A : Option Addr) (c : Nat), v = .slice A l.length c ∧ Own w lo e A c l
/-- a right visit of a path -/
def VOk (p : PathV) (s : Nat) (b : Bool) : Prop := p.pts.length ≤ 500 ∧ (∀ q ∈ p.pts, farP q = false) ∧ s < p.pts.length ∧ (p.cl = true → b = false) ∧ (p.cl = false → s = 0)
theorem turned_len {p : PathV} {s : Nat} {b : Bool} {k : Int} (h : VOk p s b) : 0 < (turned p ⟨k, s, b⟩).length ∧ (turned p ⟨k, s, b⟩).length ≤ 501 := by
  obtain ⟨h1, _, h3, _, _⟩ := h
  unfold turned
  simp only [Int.toNat_natCast]
  split
  · simp; omega
  · split <;> simp <;> omega
theorem turned_near {p : PathV} {s : Nat} {b : Bool} {k : Int} (h : VOk p s b) : ∀ q ∈ turned p ⟨k, s, b⟩, farP q = false := by
  obtain ⟨_, h2, _, _, _⟩ := h
  intro q hq
  refine h2 q ?_
  unfold turned at hq
  simp only [Int.toNat_natCast] at hq
  have hm : ∀ q, q ∈ p.pts.drop s ++ p.pts.take s → q ∈ p.pts := fun q hq => by
    rcases List.mem_append.1 hq with hq | hq
    · exact List.mem_of_mem_drop hq
    · exact List.mem_of_mem_take hq
  split at hq
  · rcases List.mem_append.1 hq with hq | hq
    · exact hm q hq
    · exact hm q (List.mem_of_mem_take hq)
  · split at hq
    · exact hm q (List.mem_reverse.1 hq)
    · exact hm q hq
end Go.Bl
namespace Go.Proofs.Ytcaaephphefncaa
open Go.RowKit Go.Bl

theorem clonePtN_any (A : Option Addr) (n c : Nat) (l : List Pt) (hn : l.length = n) (w : World) (hl : Sl w 0 A l) (hlen : l.length ≤ 1000000) :
    Calls Try.prog 78 #[.slice A n c] w fun e w' => ∃ A' c', e = .returned (.slice A' l.length c') ∧ Own w' w.heap.size 27 A' c' l ∧ w.grownBy w' none := by
  subst hn
  exact clonePt_any A c l w hl hlen

theorem reversePtN_any (lo g n c : Nat) (l : List Pt) (hnl : l.length = n) (w : World) (ho : Own w lo 27 (some ⟨g, 0, none⟩) c l) (hn : 0 < l.length) (hs : l.length ≤ 1000000) :
    Calls Try.prog 79 #[.slice (some ⟨g, 0, none⟩) n c] w fun e w' => (∃ v, e = .returned v) ∧ Own w' lo 27 (some ⟨g, 0, none⟩) c l.reverse ∧ w.grownBy w' (some g) := by
  subst hnl
  exact reversePt_any lo g c l w ho hn hs

set_option maxHeartbeats 1000000 in
set_option maxRecDepth 100000 in
theorem printed_any (A : Option Addr) (c : Nat) (l : List PathV) (k s : Nat) (b : Bool) (w : World) (hl : Sl w 0 A l) (hk : k < l.length) (hv : VOk l[k] s b) :
    Calls Try.prog 50 #[.slice A l.length c, .agg #[.int .i64 k, .int .i64 s, .bool b]] w fun e w' => ∃ A' c', e = .returned (.slice A' (turned l[k] ⟨k, s, b⟩).length c') ∧ Own w' w.heap.size 27 A' c' (turned l[k] ⟨k, s, b⟩) ∧ w.grownBy w' none := by
  have hm := hl.1
  unfold maxLen at hm
  obtain ⟨g, o, cx, rfl, hb0, hb1, ⟨A', c', rfl, hcp, hpts⟩, hc⟩ := hl.at_ (by decide) hk
  have c0 : w.cell? ⟨g, o + k * 2, none⟩ = some (.slice A' l[k].pts.length c') := hc 0 _ rfl
  have c1 : w.cell? ⟨g, o + k * 2 + 1, none⟩ = some (.bool l[k].cl) := hc 1 _ rfl
  clear hc
  generalize l[k] = p at *
  obtain ⟨pts, cl⟩ := p
  obtain ⟨hv1, hv2, hv3, hv4, hv5⟩ := hv
  simp only at c0 c1 hcp hpts hv1 hv2 hv3 hv4 hv5
  obtain ⟨g', o', cx, rfl, hb0', hb1', -, -⟩ := hpts.at_ (by decide) hv3
  have hT : Hid (turned ⟨pts, cl⟩ ⟨k, s, b⟩ = if cl then (pts.drop s ++ pts.take s) ++ (pts.drop s ++ pts.take s).take 1 else if b then (pts.drop s ++ pts.take s).reverse else pts.drop s ++ pts.take s) := rfl
  generalize turned ⟨pts, cl⟩ ⟨k, s, b⟩ = T at *
  obtain ⟨i0, hi, hz, h1, h2⟩ := info_parts info_pt
  have hgne : g ≠ w.heap.size := by omega
  have hgne2 : g' ≠ w.heap.size := by omega
  go_enter Try.func50, Try.ntmps50
  go_wp2_with fail
  have d0 := (Cell.new (w.alloc (.cells #[.int .i64 k, .int .i64 s, .bool b] 34)) [.slice (some ⟨g', o', none⟩) pts.length c', .bool cl] 71 0 _ rfl (w.heap.size + 1) (by simp)).1
  have d1 := (Cell.new (w.alloc (.cells #[.int .i64 k, .int .i64 s, .bool b] 34)) [.slice (some ⟨g', o', none⟩) pts.length c', .bool cl] 71 1 _ rfl (w.heap.size + 1) (by simp)).1
  have b1 := ((Cell.new w [.int .i64 k, .int .i64 s, .bool b] 34 1 _ rfl w.heap.size rfl).gr (gr_alloc (r := none) (World.grownBy.refl _ _) (.cells #[.slice (some ⟨g', o', none⟩) pts.length c', .bool cl] 71)) (by simp)).1
  have b2 := ((Cell.new w [.int .i64 k, .int .i64 s, .bool b] 34 2 _ rfl w.heap.size rfl).gr (gr_alloc (r := none) (World.grownBy.refl _ _) (.cells #[.slice (some ⟨g', o', none⟩) pts.length c', .bool cl] 71)) (by simp)).1
  have gW := gr_alloc (gr_alloc (r := none) (World.grownBy.refl w none) (.cells #[.int .i64 k, .int .i64 s, .bool b] 34)) (.cells #[.slice (some ⟨g', o', none⟩) pts.length c', .bool cl] 71)
  have zW : ((w.alloc (.cells #[.int .i64 k, .int .i64 s, .bool b] 34)).alloc (.cells #[.slice (some ⟨g', o', none⟩) pts.length c', .bool cl] 71)).heap.size = w.heap.size + 2 := by simp
  generalize (w.alloc (.cells #[.int .i64 k, .int .i64 s, .bool b] 34)).alloc (.cells #[.slice (some ⟨g', o', none⟩) pts.length c', .bool cl] 71) = W at *
  have hpW := hpts.pure gW
  replace zW := hide zW
  have hdl : Hid ((pts.drop s).length = pts.length - s) := by simp [Hid]
  have htl : Hid ((pts.take s).length = s) := by simp [Hid]; omega
  refine wp_region_hd 11 ((fun wx => W.grownBy wx none)) ((fun x y => x.grownBy y none)) [VIs (.pointer (some ⟨w.heap.size + 1, 0, none⟩)), VIs (.slice (some ⟨g', o', none⟩) pts.length c'), VIs (.pointer (some ⟨w.heap.size, 1, none⟩)), VIs (.int .i64 s), VIs (.slice (some ⟨g', o' + s * 2, none⟩) (pts.length - s) (c' - s)), VOwn W.heap.size 27 (pts.drop s), VIs (.pointer (some ⟨w.heap.size + 1, 0, none⟩)), VIs (.slice (some ⟨g', o', none⟩) pts.length c'), VIs (.pointer (some ⟨w.heap.size, 1, none⟩)), VIs (.int .i64 s), VIs (.slice (some ⟨g', o', none⟩) s c')] (by kernel_rfl) (by kernel_rfl) (by intro vs; simp only [List.take_succ_cons, List.take_zero, putAll, Act.put, List.setIfInBounds_toArray, List.set_cons_zero, List.set_cons_succ, Nat.reduceAdd]; exact rfl) (gr_drew (World.grownBy.refl _ _)) (⟨fun _ _ _ _ h => h, fun _ _ _ _ h => h, fun _ _ _ _ h => h, fun _ _ _ _ h => h, fun _ _ _ _ h => h, fun _ _ _ hg ⟨A, c, h1, h2⟩ => ⟨A, c, h1, h2.pure hg⟩, fun _ _ _ _ h => h, fun _ _ _ _ h => h, fun _ _ _ _ h => h, fun _ _ _ _ h => h, fun _ _ _ _ h => h, trivial⟩) ?hdO ?hdE
  case hdO =>
    refine HOps.op (fun vs wx hI hf K hK => ?_) ?_
    · clear hf
      replace hK := hide hK
      go_wp2_with fail
      replace hK := hK.out (.pointer (some ⟨w.heap.size + 1, 0, none⟩))
      simp only [Act.put, List.setIfInBounds_toArray, List.set_cons_zero, List.set_cons_succ, Nat.add_zero] at hK
      exact hK _ (hI) (World.grownBy.refl _ _) (rfl)
    refine HOps.op (fun vs wx hI hf K hK => ?_) ?_
    · have e0 : vs 0 = .pointer (some ⟨w.heap.size + 1, 0, none⟩) := hf 0 (by decide) (by kernel_rfl)
      clear hf
      replace hK := hide hK
      rw [e0]
      replace e0 := hide e0
      have y0 := hI.k d0
      replace hI := hide hI
      go_wp2_with fail
      replace hK := hK.out (.slice (some ⟨g', o', none⟩) pts.length c')
      simp only [Act.put, List.setIfInBounds_toArray, List.set_cons_zero, List.set_cons_succ, e0.out] at hK
      exact hK _ (hI.out) (World.grownBy.refl _ _) (rfl)
    refine HOps.op (fun vs wx hI hf K hK => ?_) ?_
    · clear hf
      replace hK := hide hK
      go_wp2_with fail
      replace hK := hK.out (.pointer (some ⟨w.heap.size, 1, none⟩))
      simp only [Act.put, List.setIfInBounds_toArray, List.set_cons_zero, List.set_cons_succ, Nat.add_zero] at hK
      exact hK _ (hI) (World.grownBy.refl _ _) (rfl)
    refine HOps.op (fun vs wx hI hf K hK => ?_) ?_
    · have e0 : vs 2 = .pointer (some ⟨w.heap.size, 1, none⟩) := hf 2 (by decide) (by kernel_rfl)
      clear hf
      replace hK := hide hK
      rw [e0]
      replace e0 := hide e0
      have y0 := hI.k b1
      replace hI := hide hI
      go_wp2_with fail
      replace hK := hK.out (.int .i64 s)
      simp only [Act.put, List.setIfInBounds_toArray, List.set_cons_zero, List.set_cons_succ, e0.out] at hK
      exact hK _ (hI.out) (World.grownBy.refl _ _) (rfl)
    refine HOps.op (fun vs wx hI hf K hK => ?_) ?_
    · have e1 : vs 1 = .slice (some ⟨g', o', none⟩) pts.length c' := hf 1 (by decide) (by kernel_rfl)
      have e3 : vs 3 = .int .i64 s := hf 3 (by decide) (by kernel_rfl)
      clear hf
      replace hK := hide hK
      rw [e1, e3]
      replace e1 := hide e1
      replace e3 := hide e3
      go_wp2_with fail
      replace hK := hK.out (.slice (some ⟨g', o' + s * 2, none⟩) (pts.length - s) (c' - s))
      simp only [Act.put, List.setIfInBounds_toArray, List.set_cons_zero, List.set_cons_succ, e1.out, e3.out] at hK
      exact hK _ (hI) (World.grownBy.refl _ _) (rfl)
    refine HOps.op (fun vs wx hI hf K hK => ?_) ?_
    · have e1 : vs 4 = .slice (some ⟨g', o' + s * 2, none⟩) (pts.length - s) (c' - s) := hf 4 (by decide) (by kernel_rfl)
      clear hf
      replace hK := hide hK
      rw [e1]
      replace e1 := hide e1
      go_wp2_with fail
      refine (clonePtN_any _ _ _ (pts.drop s) hdl.out _ ((hpW.drop s).pure hI) (by rw [hdl.out]; omega)).mono ?_
      rintro e wy ⟨A2, c2, rfl, ho2, hg2⟩
      go_wp2_with fail
      have hzy := (show W.grownBy wx none from hI).size
      replace hK := hK.out (.slice A2 (pts.length - s) c2)
      simp only [Act.put, List.setIfInBounds_toArray, List.set_cons_zero, List.set_cons_succ, e1.out] at hK
      exact hK _ (gr_trans hI hg2) (hg2) (⟨A2, c2, by rw [hdl.out], ho2.lower hzy⟩)
    refine HOps.op (fun vs wx hI hf K hK => ?_) ?_
    · clear hf
      replace hK := hide hK
      go_wp2_with fail
      replace hK := hK.out (.pointer (some ⟨w.heap.size + 1, 0, none⟩))
      simp only [Act.put, List.setIfInBounds_toArray, List.set_cons_zero, List.set_cons_succ, Nat.add_zero] at hK
      exact hK _ (hI) (World.grownBy.refl _ _) (rfl)
    refine HOps.op (fun vs wx hI hf K hK => ?_) ?_
    · have e0 : vs 6 = .pointer (some ⟨w.heap.size + 1, 0, none⟩) := hf 6 (by decide) (by kernel_rfl)
      clear hf
      replace hK := hide hK
      rw [e0]
      replace e0 := hide e0
      have y0 := hI.k d0
      replace hI := hide hI
      go_wp2_with fail
      replace hK := hK.out (.slice (some ⟨g', o', none⟩) pts.length c')
      simp only [Act.put, List.setIfInBounds_toArray, List.set_cons_zero, List.set_cons_succ, e0.out] at hK
      exact hK _ (hI.out) (World.grownBy.refl _ _) (rfl)
    refine HOps.op (fun vs wx hI hf K hK => ?_) ?_
    · clear hf
      replace hK := hide hK
      go_wp2_with fail
      replace hK := hK.out (.pointer (some ⟨w.heap.size, 1, none⟩))
      simp only [Act.put, List.setIfInBounds_toArray, List.set_cons_zero, List.set_cons_succ, Nat.add_zero] at hK
      exact hK _ (hI) (World.grownBy.refl _ _) (rfl)
    refine HOps.op (fun vs wx hI hf K hK => ?_) ?_
    · have e0 : vs 8 = .pointer (some ⟨w.heap.size, 1, none⟩) := hf 8 (by decide) (by kernel_rfl)
      clear hf
      replace hK := hide hK
      rw [e0]
      replace e0 := hide e0
      have y0 := hI.k b1
      replace hI := hide hI
      go_wp2_with fail
      replace hK := hK.out (.int .i64 s)
      simp only [Act.put, List.setIfInBounds_toArray, List.set_cons_zero, List.set_cons_succ, e0.out] at hK
      exact hK _ (hI.out) (World.grownBy.refl _ _) (rfl)
    refine HOps.op (fun vs wx hI hf K hK => ?_) ?_
    · have e1 : vs 7 = .slice (some ⟨g', o', none⟩) pts.length c' := hf 7 (by decide) (by kernel_rfl)
      have e3 : vs 9 = .int .i64 s := hf 9 (by decide) (by kernel_rfl)
      clear hf
      replace hK := hide hK
      rw [e1, e3]
      replace e1 := hide e1
      replace e3 := hide e3
      go_wp2_with fail
      replace hK := hK.out (.slice (some ⟨g', o', none⟩) s c')
      simp only [Act.put, List.setIfInBounds_toArray, List.set_cons_zero, List.set_cons_succ, e1.out, e3.out] at hK
      exact hK _ (hI) (World.grownBy.refl _ _) (rfl)
    exact HOps.done
  case hdE =>
  intro vs w2 hI hf
  obtain ⟨A2, c2, e5, hO⟩ := hf 5 (by decide)
  have e10 : vs 10 = .slice (some ⟨g', o', none⟩) s c' := hf 10 (by decide)
  clear hf
  simp only [List.drop_succ_cons, List.drop_zero]
  rw [e5, e10]
  clear e5 e10
  have hzw : W.heap.size ≤ w2.heap.size := hI.size
  have hpt2 := (hpW.pure hI).take s
  generalize pts.drop s = D at *
  generalize pts.take s = E at *
  go_wp2_with (at_builtin; refine wpList_push (α := Pt) _ rfl (.tmp 17) (.tmp 22) _ rfl W.heap.size 27 i0 _ 16 Try.underlying42 hi hz h1 h2 rfl _ _ _ D rfl rfl (by exact hO) 0 ⟨g', o', none⟩ _ _ E rfl htl.out.symm (by exact hpt2) ?c2 ?c3 ?c4 ?_)
  case c2 => rw [hdl.out, htl.out]; omega
  case c3 => rw [hdl.out, htl.out]; unfold maxLen; omega
  case c4 => exact hzw
  intro A3 c3 w3 hO3 hup
  have gW3 := hup.gr (Nat.le_refl _) hI
  have e1 := gW3.k d1
  have e2 := gW3.k b2
  have gw3 := gr_trans gW gW3
  obtain ⟨L, hL⟩ : ∃ L, L = D ++ E := ⟨_, rfl⟩
  have hLl : L.length = D.length + E.length := by rw [hL, List.length_append]
  rw [← hL] at hO3 hT
  have hT2 := hT.out
  have hL0 : 0 < L.length := by have := hdl.out; have := htl.out; omega
  have hL5 : L.length ≤ 500 := by have := hdl.out; have := htl.out; omega
  clear hv2 hv4 hv5 d0 d1 b1 b2 hT hO hpt2 hpW hpts hdl htl hup hI c0 c1 hL
  obtain ⟨g3, rfl, hg3, hg3s⟩ := hO3.shape hL0
  replace hLl := hide hLl
  have hzW3 : w.heap.size ≤ W.heap.size := by have := zW.out; omega
  cases cl
  · cases b
    · have hT3 : Hid (T = L) := by rw [Hid, hT2]; rfl
      clear hT2
      go_wp2_with fail
      go_ret
      exact ⟨some ⟨g3, 0, none⟩, c3, by rw [hT3.out, hLl.out]; exact rfl, by rw [hT3.out]; exact hO3.lower hzW3, gw3⟩
    · have hT3 : Hid (T = L.reverse) := by rw [Hid, hT2]; rfl
      clear hT2
      go_wp2_with fail
      refine (reversePtN_any _ g3 _ c3 L hLl.out _ hO3 hL0 (by omega)).mono ?_
      rintro e w4 ⟨⟨v, rfl⟩, hO4, hg4⟩
      go_wp2_with fail
      go_ret
      exact ⟨some ⟨g3, 0, none⟩, c3, by rw [hT3.out, List.length_reverse, hLl.out]; exact rfl, by rw [hT3.out]; exact hO4.lower hzW3, gr_new gw3 hg4 (by omega)⟩
  · have hDE : 0 < D.length + E.length := by have := hLl.out; omega
    have hT3 : Hid (T = L ++ [L[0]]) := by
      have : L.take 1 = [L[0]] := by cases L with
        | nil => simp at hL0
        | cons x r => rfl
      rw [Hid, hT2, this]; rfl
    obtain ⟨y0, y1⟩ := hO3.cell_pt hL0
    rw [Nat.zero_mul] at y0
    rw [Nat.zero_mul, Nat.zero_add] at y1
    clear hT2
    go_wp2_with (at_builtin; refine wpList_push (α := Pt) _ rfl (.tmp 27) (.tmp 31) _ rfl W.heap.size 27 i0 _ 16 Try.underlying42 hi hz h1 h2 rfl _ _ _ L rfl hLl.out.symm (by exact hO3.pure (gr_alloc (World.grownBy.refl _ _) _)) 0 ⟨w3.heap.size, 0, none⟩ 1 1 [L[0]] rfl rfl (by exact sl_oneAt _ 0 [.int .i64 L[0].x, .int .i64 L[0].y] _ _ _ rfl (Nat.zero_le _) rfl) ?c2 ?c3 ?c4 ?_)
    case c2 => simp; omega
    case c3 => simp [maxLen]; omega
    case c4 => simp; have := gW3.size; omega
    intro A4 c4 w4 hO4 hup4
    have g4 := hup4.gr (w0 := W) (Nat.le_refl _) (gr_alloc gW3 _)
    go_wp2_with fail
    go_ret
    exact ⟨A4, c4, by rw [hT3.out]; simp, by rw [hT3.out]; exact hO4.lower hzW3, gr_trans gW g4⟩

set_option maxHeartbeats 400000 in
theorem printedBy_any (A : Option Addr) (c : Nat) (l : List PathV) (k s : Nat) (b : Bool) (w : World) (hl : Sl w 0 A l) (hk : k < l.length) (hv : VOk l[k] s b) :
    Calls Try.prog 17 #[.slice A l.length c, .agg #[.int .i64 k, .int .i64 s, .bool b]] w fun e w' => ∃ A' c', e = .returned (.slice A' (turned l[k] ⟨k, s, b⟩).length c') ∧ Own w' w.heap.size 27 A' c' (turned l[k] ⟨k, s, b⟩) ∧ w.grownBy w' none := by
  go_enter Try.func17, Try.ntmps17
  go_wp2_with fail
  refine (printed_any _ _ l k s b _ (hl.pure (gr_alloc (World.grownBy.refl _ _) _)) hk hv).mono ?_
  rintro e w1 ⟨A', c', rfl, hO, hg⟩
  go_wp2_with fail
  go_ret
  exact ⟨A', c', rfl, hO.lower (by simp), (by repeat (first | exact World.grownBy.refl _ _ | assumption | refine gr_alloc ?_ _ | (apply gr_tail; assumption) | refine gr_drewN ?_ _ | refine gr_drew ?_))⟩

def PPair (p q : Pt) (w : World) (e : Ending) (w' : World) : Prop := e = .returned (.tuple #[.agg #[.int .i64 p.x, .int .i64 p.y], .agg #[.int .i64 q.x, .int .i64 q.y]]) ∧ w.grownBy w' none

set_option maxHeartbeats 2000000 in
theorem endsOf_any (A : Option Addr) (c : Nat) (l : List PathV) (k s : Nat) (b : Bool) (w : World) (hl : Sl w 0 A l) (hk : k < l.length) (hv : VOk l[k] s b) :
    Calls Try.prog 16 #[.slice A l.length c, .agg #[.int .i64 k, .int .i64 s, .bool b]] w (PPair ((turned l[k] ⟨k, s, b⟩).headD default) ((turned l[k] ⟨k, s, b⟩).getLastD default) w) := by
  have hTl := turned_len (k := k) hv
  go_enter Try.func16, Try.ntmps16
  go_wp2_with fail
  refine (printed_any _ _ l k s b _ (((hl.pure (gr_alloc (World.grownBy.refl _ _) _)).pure (gr_alloc (World.grownBy.refl _ _) _)).pure (gr_alloc (World.grownBy.refl _ _) _)) hk hv).mono ?_
  rintro e w1 ⟨A', c', rfl, hO, hg⟩
  generalize hT : turned l[k] ⟨k, s, b⟩ = T at *
  obtain ⟨m, hm⟩ : ∃ m : Nat, T.length = m + 1 := ⟨T.length - 1, by omega⟩
  have hh : Hid (T.headD default = T[0]'(by omega)) := by cases T with
    | nil => simp at hm
    | cons x r => rfl
  have hla : Hid (T.getLastD default = T[m]'(by omega)) := by
    simp only [Hid, List.getLastD_eq_getLast?]
    have e : T.length - 1 = m := by omega
    rw [List.getLast?_eq_getElem?, e]; simp [hm]
  obtain ⟨g, rfl, hg0, hg1⟩ := hO.shape (by omega)
  obtain ⟨y0, y1⟩ := hO.cell_pt (i := 0) (by omega)
  rw [Nat.zero_mul] at y0
  rw [Nat.zero_mul, Nat.zero_add] at y1
  obtain ⟨z0, z1⟩ := hO.cell_pt (i := m) (by omega)
  generalize T[0]'_ = P0 at *
  generalize T[m]'_ = P1 at *
  rw [hm]
  have hm5 : m ≤ 500 := by omega
  have hh2 : Hid ((turned l[k] ⟨k, s, b⟩).headD default = P0) := by rw [Hid, hT]; exact hh.out
  have hla2 : Hid ((turned l[k] ⟨k, s, b⟩).getLastD default = P1) := by rw [Hid, hT]; exact hla.out
  clear hh hla hT
  have A0 := Cell.new (w.alloc (.cells #[.int .i64 k, .int .i64 s, .bool b] 34)) [.int .i64 0, .int .i64 0] 27 0 _ rfl (w.heap.size + 1) (by simp)
  have A1 := Cell.new (w.alloc (.cells #[.int .i64 k, .int .i64 s, .bool b] 34)) [.int .i64 0, .int .i64 0] 27 1 _ rfl (w.heap.size + 1) (by simp)
  have B0 := Cell.new ((w.alloc (.cells #[.int .i64 k, .int .i64 s, .bool b] 34)).alloc (.cells #[.int .i64 0, .int .i64 0] 27)) [.int .i64 0, .int .i64 0] 27 0 _ rfl (w.heap.size + 1 + 1) (by simp)
  have B1 := Cell.new ((w.alloc (.cells #[.int .i64 k, .int .i64 s, .bool b] 34)).alloc (.cells #[.int .i64 0, .int .i64 0] 27)) [.int .i64 0, .int .i64 0] 27 1 _ rfl (w.heap.size + 1 + 1) (by simp)
  have hgn := gr_alloc (r := none) (World.grownBy.refl ((w.alloc (.cells #[.int .i64 k, .int .i64 s, .bool b] 34)).alloc (.cells #[.int .i64 0, .int .i64 0] 27)) _) (.cells #[.int .i64 0, .int .i64 0] 27)
  obtain ⟨a0, af0⟩ := (A0.gr hgn (by simp)).gr hg (by simp)
  obtain ⟨a1, af1⟩ := (A1.gr hgn (by simp)).gr hg (by simp)
  obtain ⟨b0, bf0⟩ := B0.gr hg (by simp)
  obtain ⟨b1, bf1⟩ := B1.gr hg (by simp)
  have hw := gr_trans (gr_alloc (gr_alloc (gr_alloc (World.grownBy.refl w none) _) _) _) hg
  have hgne : g ≠ w.heap.size + 1 ∧ g ≠ w.heap.size + 2 := by simp at hg0; omega
  have hw1 : w.heap.size + 3 ≤ w1.heap.size := by have := hg.size; simp at this; omega
  clear A0 A1 B0 B1 hgn hg hO hg0 hTl hm
  go_wp2_with fail
  go_region
  all_goals
    go_wp2
    refine bodyPost_ret (v := .tuple #[.agg #[.int .i64 P0.x, .int .i64 P0.y], .agg #[.int .i64 P1.x, .int .i64 P1.y]]) (by simp [results, Try.results16, go_sem, a0, a1, b0, b1, af0, af1, bf0, bf1]) rfl ⟨by rw [hh2.out, hla2.out], ?_⟩
    exact gr_drew (gr_set (gr_set (gr_set (gr_set hw (.inr (by simp)) _) (.inr (by simp)) _) (.inr (by simp; omega)) _) (.inr (by simp; omega)) _)

end Go.Proofs.Ytcaaephphefncaa

/- Contracts of functions that this seat's laws reach, each: what one call returns and what it leaves in memory; no condition beyond each theorem's own hypotheses. -/
import Derived.Test.YtjodjdjfagjiaaaMeshR
set_option linter.unusedVariables false
set_option linter.unusedSimpArgs false
namespace Go.Proofs.Ytjodjdjfagjiaaa
open Go.RowKit Go.Bl

set_option maxHeartbeats 2000000 in
set_option maxRecDepth 100000 in
theorem thoseOver_any (P : Fc → Bool) (bm bs : Nat) (A : Option Addr) (c : Nat) (vs : List V3) (B : Option Addr) (d : Nat) (fs : List Fc) (w : World) (hl : Sl w 0 A vs) (hfs : Sl w 0 B fs) (hfl : fs.length ≤ 1000)
    (hin : ∀ f ∈ fs, inF vs.length f = true)
    (hclo : Hid (∀ f, inF vs.length f = true → ∀ wx, w.grownBy wx none → Calls Try.prog 57 #[.agg #[.int .i64 f.a, .int .i64 f.b, .int .i64 f.c], .pointer (some ⟨bm, 0, none⟩), .pointer (some ⟨bs, 0, none⟩)] wx fun e w' => e = .returned (.bool (P f)) ∧ wx.grownBy w' none)) :
    Calls Try.prog 56 #[.agg #[.slice A vs.length c, .slice B fs.length d], .func (.func 57) #[] #[.pointer (some ⟨bm, 0, none⟩), .pointer (some ⟨bs, 0, none⟩)]] w fun e w' =>
      ∃ A' c', e = .returned (.slice A' (thoseTo P fs fs.length).length c') ∧ Sl w' 0 A' (thoseTo P fs fs.length) ∧ w.grownBy w' none := by
  have hm := hl.1
  unfold maxLen at hm
  have hm2 := hfs.1
  unfold maxLen at hm2
  replace hin := hide hin
  have hg0 := gr_alloc (World.grownBy.refl w none) (.cells #[.slice A vs.length c, .slice B fs.length d] 29)
  have b0 := (Cell.new w [.slice A vs.length c, .slice B fs.length d] 29 0 _ rfl _ rfl).1
  have b1 := (Cell.new w [.slice A vs.length c, .slice B fs.length d] 29 1 _ rfl _ rfl).1
  obtain ⟨W, hW⟩ : ∃ W, W = w.alloc (.cells #[.slice A vs.length c, .slice B fs.length d] 29) := ⟨_, rfl⟩
  simp only [List.toArray] at b0 b1
  rw [← hW] at hg0 b0 b1
  replace hW := hide hW.symm
  go_enter Try.func56, Try.ntmps56
  go_wp2_with fail
  rw [hW.out]
  clear hW
  go_loopw [5, 11] (fun o i wr => ∃ (k : Nat) (out : List Int) (A' : Option Addr) (c' : Nat), k ≤ fs.length ∧ i = .int .i64 k ∧ o = .slice A' out.length c' ∧ Hid (out = thoseTo P fs k) ∧ Own wr W.heap.size 3 A' c' out ∧ W.grownBy wr none) (fun _ i _ => fs.length - (intOf i).toNat)
  case atStart => exact ⟨0, [], none, 0, Nat.zero_le _, rfl, rfl, rfl, Own.nil _ _ _, World.grownBy.refl _ _⟩
  case round =>
    obtain ⟨k, out, A', c', hk, rfl, rfl, hout, hown, hg⟩ := hrel
    have hol : out.length ≤ k := by rw [hout.out]; exact thoseTo_len _ _ _
    have hsz := hg.size
    have hsz0 := hg0.size
    by_cases hlt : k < fs.length
    · have hfk := hin.out _ (List.getElem_mem hlt)
      have hyes := thoseTo_yes (p := P) hlt
      have hno := thoseTo_no (p := P) hlt
      have d0 := hg.k b0
      have d1 := hg.k b1
      have hlb0 : w.heap.size < wr.heap.size := cell_lt d0
      obtain ⟨g, o, cx, rfl, hb0, hb1, rfl, hc⟩ := ((hfs.pure (gr_trans hg0 hg))).at_ (by decide) hlt
      have v0 : wr.cell? ⟨g, o + k * 3, none⟩ = some (.int .i64 fs[k].a) := hc 0 _ rfl
      have v1 : wr.cell? ⟨g, o + k * 3 + 1, none⟩ = some (.int .i64 fs[k].b) := hc 1 _ rfl
      have v2 : wr.cell? ⟨g, o + k * 3 + 2, none⟩ = some (.int .i64 fs[k].c) := hc 2 _ rfl
      clear hc
      replace hyes := hide hyes
      replace hno := hide hno
      have hCL := hclo.out fs[k] hfk (wr.alloc (.cells #[.int .i64 fs[k].a, .int .i64 fs[k].b, .int .i64 fs[k].c] 67)) (gr_alloc (gr_trans hg0 hg) _)
      generalize fs[k] = f at *
      replace hfk := hide hfk
      replace hCL := hide hCL
      cases hb : P f with
      | true =>
        have HS : Hid (out ++ [(k : Int)] = thoseTo P fs (k + 1)) := by rw [Hid, hyes.out hb, hout.out]
        rw [hb] at hCL
        clear hno hyes hb
        go_wp2_with fail
        go_at_call 57
        refine hCL.out.mono ?_
        rintro e w4 ⟨rfl, hg4⟩
        have hgr : wr.grownBy w4 none := gr_trans (gr_alloc (World.grownBy.refl _ _) _) hg4
        have hsz4 := hgr.size
        clear hCL d0 d1 v0 v1 v2
        go_wp2_with (at_builtin; obtain ⟨i0, hi, hz, h1, h2⟩ := info_parts info_int; refine wpList_push (α := Int) _ rfl (.tmp 19) (.tmp 21) _ rfl W.heap.size 3 i0 _ 8 Try.underlying22 hi hz h1 h2 rfl _ _ _ out rfl ?c1 (by exact (hown.pure (gr_alloc hgr _))) 0 ⟨_, 0, none⟩ 1 1 [(k : Int)] rfl rfl (by exact sl_int1 _ _ _ _ (by first | rfl | simp)) ?c2 ?c3 ?c4 ?_)
        case c1 => rfl
        case c2 => first | omega | (simp; omega)
        case c3 => first | (simp [maxLen]; omega) | (unfold maxLen; omega)
        case c4 => first | omega | (simp; omega)
        intro A5 c5 w5 hown5 hup5
        have hgu := hup5.gr (Nat.le_refl _) (gr_trans hg (gr_alloc hgr _))
        clear hup5 hown hgr
        go_wp2
        (go_roundw; (case rel => exact ⟨k + 1, _, A5, c5, by omega, by go_num, by simp, HS, hown5, hgu⟩); (case measure => simp [intOf]; omega))
      | false =>
        rw [hb] at hCL
        have HS : Hid (out = thoseTo P fs (k + 1)) := by rw [Hid, hno.out hb, hout.out]
        clear hno hyes hb
        go_wp2_with fail
        go_at_call 57
        refine hCL.out.mono ?_
        rintro e w4 ⟨rfl, hg4⟩
        have hgr : wr.grownBy w4 none := gr_trans (gr_alloc (World.grownBy.refl _ _) _) hg4
        clear hCL d0 d1 v0 v1 v2
        go_wp2_with fail
        (go_roundw; (case rel => exact ⟨k + 1, out, A', c', by omega, by go_num, rfl, HS, hown.pure hgr, gr_trans hg hgr⟩); (case measure => simp [intOf]; omega))
    · have hk2 : k = fs.length := by omega
      subst hk2
      go_wp2
      go_ret
      refine ⟨A', c', by rw [hout.out]; first | rfl | simp, ?_, gr_trans hg0 hg⟩
      rw [← hout.out]
      exact hown.sl.mono (Nat.zero_le _)

set_option maxHeartbeats 2000000 in
set_option maxRecDepth 100000 in
theorem thoseCross_any (P : Fc → Bool) (bm bs : Nat) (A : Option Addr) (c : Nat) (vs : List V3) (B : Option Addr) (d : Nat) (fs : List Fc) (w : World) (hl : Sl w 0 A vs) (hfs : Sl w 0 B fs) (hfl : fs.length ≤ 1000)
    (hin : ∀ f ∈ fs, inF vs.length f = true)
    (hclo : Hid (∀ f, inF vs.length f = true → ∀ wx, w.grownBy wx none → Calls Try.prog 58 #[.agg #[.int .i64 f.a, .int .i64 f.b, .int .i64 f.c], .pointer (some ⟨bm, 0, none⟩), .pointer (some ⟨bs, 0, none⟩)] wx fun e w' => e = .returned (.bool (P f)) ∧ wx.grownBy w' none)) :
    Calls Try.prog 56 #[.agg #[.slice A vs.length c, .slice B fs.length d], .func (.func 58) #[] #[.pointer (some ⟨bm, 0, none⟩), .pointer (some ⟨bs, 0, none⟩)]] w fun e w' =>
      ∃ A' c', e = .returned (.slice A' (thoseTo P fs fs.length).length c') ∧ Sl w' 0 A' (thoseTo P fs fs.length) ∧ w.grownBy w' none := by
  have hm := hl.1
  unfold maxLen at hm
  have hm2 := hfs.1
  unfold maxLen at hm2
  replace hin := hide hin
  have hg0 := gr_alloc (World.grownBy.refl w none) (.cells #[.slice A vs.length c, .slice B fs.length d] 29)
  have b0 := (Cell.new w [.slice A vs.length c, .slice B fs.length d] 29 0 _ rfl _ rfl).1
  have b1 := (Cell.new w [.slice A vs.length c, .slice B fs.length d] 29 1 _ rfl _ rfl).1
  obtain ⟨W, hW⟩ : ∃ W, W = w.alloc (.cells #[.slice A vs.length c, .slice B fs.length d] 29) := ⟨_, rfl⟩
  simp only [List.toArray] at b0 b1
  rw [← hW] at hg0 b0 b1
  replace hW := hide hW.symm
  go_enter Try.func56, Try.ntmps56
  go_wp2_with fail
  rw [hW.out]
  clear hW
  go_loopw [5, 11] (fun o i wr => ∃ (k : Nat) (out : List Int) (A' : Option Addr) (c' : Nat), k ≤ fs.length ∧ i = .int .i64 k ∧ o = .slice A' out.length c' ∧ Hid (out = thoseTo P fs k) ∧ Own wr W.heap.size 3 A' c' out ∧ W.grownBy wr none) (fun _ i _ => fs.length - (intOf i).toNat)
  case atStart => exact ⟨0, [], none, 0, Nat.zero_le _, rfl, rfl, rfl, Own.nil _ _ _, World.grownBy.refl _ _⟩
  case round =>
    obtain ⟨k, out, A', c', hk, rfl, rfl, hout, hown, hg⟩ := hrel
    have hol : out.length ≤ k := by rw [hout.out]; exact thoseTo_len _ _ _
    have hsz := hg.size
    have hsz0 := hg0.size
    by_cases hlt : k < fs.length
    · have hfk := hin.out _ (List.getElem_mem hlt)
      have hyes := thoseTo_yes (p := P) hlt
      have hno := thoseTo_no (p := P) hlt
      have d0 := hg.k b0
      have d1 := hg.k b1
      have hlb0 : w.heap.size < wr.heap.size := cell_lt d0
      obtain ⟨g, o, cx, rfl, hb0, hb1, rfl, hc⟩ := ((hfs.pure (gr_trans hg0 hg))).at_ (by decide) hlt
      have v0 : wr.cell? ⟨g, o + k * 3, none⟩ = some (.int .i64 fs[k].a) := hc 0 _ rfl
      have v1 : wr.cell? ⟨g, o + k * 3 + 1, none⟩ = some (.int .i64 fs[k].b) := hc 1 _ rfl
      have v2 : wr.cell? ⟨g, o + k * 3 + 2, none⟩ = some (.int .i64 fs[k].c) := hc 2 _ rfl
      clear hc
      replace hyes := hide hyes
      replace hno := hide hno
      have hCL := hclo.out fs[k] hfk (wr.alloc (.cells #[.int .i64 fs[k].a, .int .i64 fs[k].b, .int .i64 fs[k].c] 67)) (gr_alloc (gr_trans hg0 hg) _)
      generalize fs[k] = f at *
      replace hfk := hide hfk
      replace hCL := hide hCL
      cases hb : P f with
      | true =>
        have HS : Hid (out ++ [(k : Int)] = thoseTo P fs (k + 1)) := by rw [Hid, hyes.out hb, hout.out]
        rw [hb] at hCL
        clear hno hyes hb
        go_wp2_with fail
        go_at_call 58
        refine hCL.out.mono ?_
        rintro e w4 ⟨rfl, hg4⟩
        have hgr : wr.grownBy w4 none := gr_trans (gr_alloc (World.grownBy.refl _ _) _) hg4
        have hsz4 := hgr.size
        clear hCL d0 d1 v0 v1 v2
        go_wp2_with (at_builtin; obtain ⟨i0, hi, hz, h1, h2⟩ := info_parts info_int; refine wpList_push (α := Int) _ rfl (.tmp 19) (.tmp 21) _ rfl W.heap.size 3 i0 _ 8 Try.underlying22 hi hz h1 h2 rfl _ _ _ out rfl ?c1 (by exact (hown.pure (gr_alloc hgr _))) 0 ⟨_, 0, none⟩ 1 1 [(k : Int)] rfl rfl (by exact sl_int1 _ _ _ _ (by first | rfl | simp)) ?c2 ?c3 ?c4 ?_)
        case c1 => rfl
        case c2 => first | omega | (simp; omega)
        case c3 => first | (simp [maxLen]; omega) | (unfold maxLen; omega)
        case c4 => first | omega | (simp; omega)
        intro A5 c5 w5 hown5 hup5
        have hgu := hup5.gr (Nat.le_refl _) (gr_trans hg (gr_alloc hgr _))
        clear hup5 hown hgr
        go_wp2
        (go_roundw; (case rel => exact ⟨k + 1, _, A5, c5, by omega, by go_num, by simp, HS, hown5, hgu⟩); (case measure => simp [intOf]; omega))
      | false =>
        rw [hb] at hCL
        have HS : Hid (out = thoseTo P fs (k + 1)) := by rw [Hid, hno.out hb, hout.out]
        clear hno hyes hb
        go_wp2_with fail
        go_at_call 58
        refine hCL.out.mono ?_
        rintro e w4 ⟨rfl, hg4⟩
        have hgr : wr.grownBy w4 none := gr_trans (gr_alloc (World.grownBy.refl _ _) _) hg4
        clear hCL d0 d1 v0 v1 v2
        go_wp2_with fail
        (go_roundw; (case rel => exact ⟨k + 1, out, A', c', by omega, by go_num, rfl, HS, hown.pure hgr, gr_trans hg hgr⟩); (case measure => simp [intOf]; omega))
    · have hk2 : k = fs.length := by omega
      subst hk2
      go_wp2
      go_ret
      refine ⟨A', c', by rw [hout.out]; first | rfl | simp, ?_, gr_trans hg0 hg⟩
      rw [← hout.out]
      exact hown.sl.mono (Nat.zero_le _)

set_option maxRecDepth 100000 in
theorem overhangsRef_any (A : Option Addr) (c : Nat) (vs : List V3) (B : Option Addr) (d : Nat) (fs : List Fc) (num den : Int) (w : World) (hl : Sl w 0 A vs) (hfs : Sl w 0 B fs) (hM : meshF ⟨vs, fs⟩ = 0)
    (h1 : 0 ≤ num ∧ num ≤ 1000) (h2 : 1 ≤ den ∧ den ≤ 1000) :
    Calls Try.prog 15 #[.agg #[.slice A vs.length c, .slice B fs.length d], .agg #[.int .i64 num, .int .i64 den]] w fun e w' =>
      ∃ A' c', e = .returned (.slice A' (thoseTo (fun f => overB num den (normV vs f)) fs fs.length).length c') ∧ Sl w' 0 A' (thoseTo (fun f => overB num den (normV vs f)) fs fs.length) ∧ w.grownBy w' none := by
  have hmf : ∀ (fn : Fn) (first cap : Array Value) (w : World), (Instr.makeFunc fn first cap).run Try.prog w = .ok (.func fn first cap) w := fun _ _ _ _ => rfl
  obtain ⟨hf, hin, _, _, hfl⟩ := meshF_zero hM
  obtain ⟨W, hW⟩ : ∃ W, W = (w.alloc (.cells #[.slice A vs.length c, .slice B fs.length d] 29)).alloc (.cells #[.int .i64 num, .int .i64 den] 32) := ⟨_, rfl⟩
  have hlt0 : w.heap.size < w.heap.size + 1 := Nat.lt_succ_self _
  have hg0 : w.grownBy W none := by rw [hW]; exact (by repeat (first | exact World.grownBy.refl _ _ | assumption | refine gr_alloc ?_ _ | (apply gr_tail; assumption) | refine gr_drewN ?_ _ | refine gr_drew ?_))
  have b0 : W.cell? ⟨w.heap.size, 0, none⟩ = some (.slice A vs.length c) := by rw [hW]; go_simp
  have b1 : W.cell? ⟨w.heap.size, 1, none⟩ = some (.slice B fs.length d) := by rw [hW]; go_simp
  have b2 : W.cell? ⟨w.heap.size + 1, 0, none⟩ = some (.int .i64 num) := by rw [hW]; go_simp
  have b3 : W.cell? ⟨w.heap.size + 1, 1, none⟩ = some (.int .i64 den) := by rw [hW]; go_simp
  have hT := thoseOver_any (fun f => overB num den (normV vs f)) w.heap.size (w.heap.size + 1) A c vs B d fs W (hl.pure hg0) (hfs.pure hg0) hfl hin
    (fun f hfi wx hx => overClo_any _ _ A c vs B fs.length d f num den wx (hl.pure (gr_trans hg0 hx)) hf hfi h1 h2 (hx.k b0) (hx.k b1) (hx.k b2) (hx.k b3))
  generalize thoseTo (fun f => overB num den (normV vs f)) fs fs.length = T at *
  replace hT := hide hT
  replace hW := hide hW.symm
  replace hin := hide hin
  clear hf hM
  go_enter Try.func15, Try.ntmps15
  go_wp2_with fail
  rw [hW.out]
  refine hT.out.mono ?_
  rintro e w1 ⟨A1, c1, rfl, hs1, hg1⟩
  go_wp2_with fail
  go_ret
  exact ⟨A1, c1, rfl, hs1, gr_trans hg0 hg1⟩

set_option maxRecDepth 100000 in
theorem crossingRef_any (A : Option Addr) (c : Nat) (vs : List V3) (B : Option Addr) (d : Nat) (fs : List Fc) (z : Int) (w : World) (hl : Sl w 0 A vs) (hfs : Sl w 0 B fs) (hM : meshF ⟨vs, fs⟩ = 0) :
    Calls Try.prog 16 #[.agg #[.slice A vs.length c, .slice B fs.length d], .int .i64 z] w fun e w' =>
      ∃ A' c', e = .returned (.slice A' (thoseTo (crossP z vs) fs fs.length).length c') ∧ Sl w' 0 A' (thoseTo (crossP z vs) fs fs.length) ∧ w.grownBy w' none := by
  have hmf : ∀ (fn : Fn) (first cap : Array Value) (w : World), (Instr.makeFunc fn first cap).run Try.prog w = .ok (.func fn first cap) w := fun _ _ _ _ => rfl
  obtain ⟨hf, hin, _, _, hfl⟩ := meshF_zero hM
  obtain ⟨W, hW⟩ : ∃ W, W = (w.alloc (.cells #[.slice A vs.length c, .slice B fs.length d] 29)).alloc (.cells #[.int .i64 z] 3) := ⟨_, rfl⟩
  have hlt0 : w.heap.size < w.heap.size + 1 := Nat.lt_succ_self _
  have hg0 : w.grownBy W none := by rw [hW]; exact (by repeat (first | exact World.grownBy.refl _ _ | assumption | refine gr_alloc ?_ _ | (apply gr_tail; assumption) | refine gr_drewN ?_ _ | refine gr_drew ?_))
  have b0 : W.cell? ⟨w.heap.size, 0, none⟩ = some (.slice A vs.length c) := by rw [hW]; go_simp
  have b1 : W.cell? ⟨w.heap.size, 1, none⟩ = some (.slice B fs.length d) := by rw [hW]; go_simp
  have b2 : W.cell? ⟨w.heap.size + 1, 0, none⟩ = some (.int .i64 z) := by rw [hW]; go_simp
  have hT := thoseCross_any (crossP z vs) w.heap.size (w.heap.size + 1) A c vs B d fs W (hl.pure hg0) (hfs.pure hg0) hfl hin
    (fun f hfi wx hx => crossClo_any _ _ A c vs B fs.length d f z wx (hl.pure (gr_trans hg0 hx)) hfi (hx.k b0) (hx.k b1) (hx.k b2))
  generalize thoseTo (crossP z vs) fs fs.length = T at *
  replace hT := hide hT
  replace hW := hide hW.symm
  replace hin := hide hin
  clear hf hM
  go_enter Try.func16, Try.ntmps16
  go_wp2_with fail
  rw [hW.out]
  refine hT.out.mono ?_
  rintro e w1 ⟨A1, c1, rfl, hs1, hg1⟩
  go_wp2_with fail
  go_ret
  exact ⟨A1, c1, rfl, hs1, gr_trans hg0 hg1⟩

end Go.Proofs.Ytjodjdjfagjiaaa

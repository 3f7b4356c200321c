/- Contracts of functions that this seat's laws reach, each: what one call returns and what it leaves in memory; no condition beyond each theorem's own hypotheses. -/
import Derived.Test.YtkcchcnljanloaaGreatZqMeshOp
import Derived.Test.YtkcchcnljanloaaGreatZqMeshH
set_option linter.unusedVariables false
set_option linter.unusedSimpArgs false
namespace Go.Proofs.YtkcchcnljanloaaGreat
open Go.RowKit Go.Bl

def opB (L : List Sd) (s : Sd) : Bool := !decide (rvS s ∈ L)

theorem filter_snoc {α : Type} (p : α → Bool) {l : List α} {j : Nat} (h : j < l.length) : (l.take (j + 1)).filter p = (l.take j).filter p ++ (if p l[j] then [l[j]] else []) := by
  rw [take_snoc h, List.filter_append]
  congr 1
  by_cases hp : p l[j] = true
  · simp [hp]
  · simp [hp]

set_option maxHeartbeats 4000000 in
set_option maxRecDepth 100000 in
theorem openRef_any (A : Option Addr) (n c : Nat) (B : Option Addr) (d : Nat) (fs : List Fc) (w : World) (hfs : Sl w 0 B fs) (hf1 : fs.length ≤ 1000) :
    Calls Tryz.prog 14 #[.agg #[.slice A n c, .slice B fs.length d]] w fun e w' => ∃ (l : List Sd) (O : Option Addr) (co : Nat), e = .returned (.slice O l.length co) ∧ Own w' w.heap.size 63 O co l ∧ l.Perm (openS fs) ∧ SrtS l ∧ w.grownBy w' none := by
  have hm2 := hfs.1
  unfold maxLen at hm2
  have hg0 := gr_alloc (World.grownBy.refl w none) (.cells #[.slice A n c, .slice B fs.length d] 29)
  have b1 := (Cell.new w [.slice A n c, .slice B fs.length d] 29 1 _ rfl _ rfl).1
  go_enter Tryz.func14, Tryz.ntmps14
  go_wp2_with fail
  clear b1
  go_loopw [3, 12] (fun o i wr => ∃ (k : Nat) (A' : Option Addr) (c' : Nat), k ≤ fs.length ∧ i = .int .i64 k ∧ o = .slice A' (allS (fs.take k)).length c' ∧ Own wr w.heap.size 63 A' c' (allS (fs.take k)) ∧ w.grownBy wr none) (fun _ i _ => fs.length - (intOf i).toNat)
  case atStart => exact ⟨0, none, 0, Nat.zero_le _, rfl, rfl, Own.nil _ _ _, hg0⟩
  case round =>
    obtain ⟨k, A', c', hk, rfl, rfl, hown, hg⟩ := hrel
    clear hg0
    by_cases hlt : k < fs.length
    · have HS := hide (allS_snoc hlt)
      have HSl : Hid ((allS (fs.take (k + 1))).length = (allS (fs.take k)).length + 3) := by rw [HS.out, List.length_append]; rfl
      have hal : (allS (fs.take k)).length ≤ 3000 := by rw [allS_len, List.length_take]; omega
      obtain ⟨g, o, cx, rfl, hb0, hb1, rfl, hc⟩ := (hfs.pure hg).at_ (by decide) hlt
      have v0 : wr.cell? ⟨g, o + k * 3, none⟩ = some (.int .i64 fs[k].a) := hc 0 _ rfl
      have v1 : wr.cell? ⟨g, o + k * 3 + 1, none⟩ = some (.int .i64 fs[k].b) := hc 1 _ rfl
      have v2 : wr.cell? ⟨g, o + k * 3 + 2, none⟩ = some (.int .i64 fs[k].c) := hc 2 _ rfl
      clear hc
      generalize fs[k] = f at *
      generalize allS (fs.take k) = L0 at *
      go_wp2_with fail
      refine (sidesOf_any f _).mono ?_
      rintro e w2 ⟨A3, rfl, hs2, hg2⟩
      obtain ⟨gs, os, -, rfl, -, -, -, -⟩ := hs2.at_ (by decide) (k := 0) (by simp [sdsOf])
      replace hg2 := gr_trans (gr_alloc (World.grownBy.refl wr none) (.cells #[.int .i64 f.a, .int .i64 f.b, .int .i64 f.c] 58)) hg2
      have hownA := hown.pure hg2
      have hgA := gr_trans hg hg2
      have hzz := hgA.size
      clear hown hg hg2 v0 v1 v2
      go_wp2_with (at_builtin; obtain ⟨i0, hi, hz, h1, h2⟩ := info_parts info_side; refine wpList_push (α := Sd) _ rfl (.tmp 16) (.tmp 18) _ rfl w.heap.size 63 i0 _ 16 Tryz.underlying34 hi hz h1 h2 rfl _ _ _ L0 rfl ?c1 (by exact hownA) _ _ 3 3 (sdsOf f) rfl rfl (by exact hs2) ?c2 ?c3 ?c4 ?_)
      case c1 => rfl
      case c2 => simp [sdsOf]; omega
      case c3 => simp [sdsOf, maxLen]; omega
      case c4 => omega
      intro A5 c5 w5 hown5 hup5
      rw [← HS.out] at hown5
      have hgB := hup5.pure (Nat.le_refl _) hgA
      clear hownA hgA hup5 hs2
      go_wp2
      (go_roundw; (case rel => exact ⟨k + 1, A5, c5, by omega, by go_num, by rw [HSl.out]; rfl, hown5, hgB⟩); (case measure => simp [intOf]; omega))
    · rw [List.take_of_length_le (show fs.length ≤ k by omega)] at hown ⊢
      obtain ⟨wa, rfl⟩ : ∃ x, x = wr := ⟨wr, rfl⟩
      have hop : Hid (openS fs = (allS fs).filter (opB (allS fs))) := rfl
      have hLl : (allS fs).length ≤ 3000 := by rw [allS_len]; omega
      generalize hOS : openS fs = OS at *
      replace hOS := hide hOS
      generalize allS fs = L at *
      have hsl := hown.sl.mono (Nat.zero_le _)
      clear hown
      go_wp2_with fail
      go_loopw [4, 23] (fun o i wr => ∃ (j : Nat) (out : List Sd) (A2 : Option Addr) (c2 : Nat), j ≤ L.length ∧ i = .int .i64 j ∧ o = .slice A2 out.length c2 ∧ Hid (out = (L.take j).filter (opB L)) ∧ Own wr wa.heap.size 63 A2 c2 out ∧ wa.grownBy wr none) (fun _ i _ => L.length - (intOf i).toNat)
      case atStart => exact ⟨0, [], none, 0, Nat.zero_le _, rfl, rfl, rfl, Own.nil _ _ _, World.grownBy.refl _ _⟩
      case round =>
        obtain ⟨j, out, A2, c2, hj, rfl, rfl, hout, hown, hg2⟩ := hrel
        have hol : out.length ≤ L.length := by rw [hout.out]; exact Nat.le_trans (List.length_filter_le _ _) (by rw [List.length_take]; omega)
        by_cases hlt2 : j < L.length
        · have HF := hide (filter_snoc (opB L) hlt2)
          rw [show opB L L[j] = !decide (rvS L[j] ∈ L) from rfl] at HF
          obtain ⟨gl, ol, cx, rfl, hb0, hb1, rfl, hc⟩ := (hsl.pure hg2).at_ (by decide) hlt2
          have v0 : wr.cell? ⟨gl, ol + j * 2, none⟩ = some (.int .i64 L[j].u) := hc 0 _ rfl
          have v1 : wr.cell? ⟨gl, ol + j * 2 + 1, none⟩ = some (.int .i64 L[j].v) := hc 1 _ rfl
          clear hc
          have hcon := fun W h => containsSide_any (some ⟨gl, ol, none⟩) L.length c' L (rvS L[j]) W h rfl
          have hsl2 := (hsl.pure hg2).pure (gr_alloc (World.grownBy.refl _ none) (.cells #[.int .i64 L[j].u, .int .i64 L[j].v] 63))
          replace hcon := hcon _ hsl2
          clear hsl2
          cases hin : decide (rvS L[j] ∈ L) with
          | true =>
            rw [hin] at hcon HF
            clear hin
            have HF2 := hide (show out = (L.take (j + 1)).filter (opB L) by rw [HF.out, hout.out]; simp)
            clear HF
            generalize L[j] = s at *
            replace hcon := hide hcon
            go_wp2_with fail
            refine hcon.out.mono ?_
            rintro e w3 ⟨rfl, hg3⟩
            replace hg3 := gr_trans (gr_alloc (World.grownBy.refl wr none) (.cells #[.int .i64 s.u, .int .i64 s.v] 63)) hg3
            have hown3 := hown.pure hg3
            clear hcon hown v0 v1
            go_wp2_with fail
            (go_roundw; (case rel => exact ⟨j + 1, out, A2, c2, by omega, by go_num, rfl, HF2, hown3, gr_trans hg2 hg3⟩); (case measure => simp [intOf]; omega))
          | false =>
            rw [hin] at hcon HF
            clear hin
            have HF2 := hide (show out ++ [L[j]] = (L.take (j + 1)).filter (opB L) by rw [HF.out, hout.out]; simp)
            clear HF
            generalize L[j] = s at *
            replace hcon := hide hcon
            go_wp2_with fail
            refine hcon.out.mono ?_
            rintro e w3 ⟨rfl, hg3⟩
            have k0 := (hg3).k (p := ⟨wr.heap.size, 0, none⟩) (v := .int .i64 s.u) (by go_simp)
            have k1 := (hg3).k (p := ⟨wr.heap.size, 1, none⟩) (v := .int .i64 s.v) (by go_simp)
            replace hg3 := gr_trans (gr_alloc (World.grownBy.refl wr none) (.cells #[.int .i64 s.u, .int .i64 s.v] 63)) hg3
            have hown3 := hown.pure hg3
            have hzz := hg2.size
            have hzz3 := hg3.size
            clear hcon hown v0 v1
            go_wp2_with (at_builtin; obtain ⟨i0, hi, hz, h1, h2⟩ := info_parts info_side; refine wpList_pushAt (α := Sd) _ rfl (.tmp 35) (.tmp 37) _ rfl wa.heap.size 63 i0 _ 16 Tryz.underlying34 hi hz h1 h2 rfl A2 _ c2 out rfl rfl (by exact hown3.pure (by repeat (first | exact World.grownBy.refl _ _ | assumption | refine gr_alloc ?_ _ | (apply gr_tail; assumption) | refine gr_drewN ?_ _ | refine gr_drew ?_))) 0 ⟨_, 0, none⟩ 1 1 [s] rfl rfl (by exact sl_oneAt _ 0 [.int .i64 s.u, .int .i64 s.v] _ _ _ (by first | rfl | simp) (Nat.zero_le _) rfl) ?c2 ?c3 ?c4 ?_)
            case c2 => simp; omega
            case c3 => simp [maxLen]; omega
            case c4 => simp; omega
            intro A9 c9 w9 hO9 hG9
            have hgD := gr_row (gr_alloc (gr_trans hg2 hg3) (.cells #[.int .i64 s.u, .int .i64 s.v] 63)) hG9.1 (fun g e => (hown3.blk_lt e).1)
            clear hG9 hown3
            go_wp2
            (go_roundw; (case rel => exact ⟨j + 1, out ++ [s], A9, c9, by omega, by go_num, by simp, HF2, hO9, hgD⟩); (case measure => simp [intOf]; omega))
        · rw [List.take_of_length_le (show L.length ≤ j by omega), ← hop.out] at hout
          clear hsl hop
          go_wp2_with fail
          refine (sortSidesR_any A2 c2 _ out _ hown (by omega)).mono ?_
          rintro e w8 ⟨rfl, l', hp, hs, hO8, hg8⟩
          have hge := gr_row (gr_trans hg hg2) hg8 (fun g e => Nat.le_trans hg.size (hown.blk_lt e).1)
          have hlen := hide hp.length_eq
          have hp2 : Hid (l'.Perm OS) := by rw [Hid, ← hout.out]; exact hp
          clear hp hout hown
          go_wp2_with fail
          go_ret
          exact ⟨l', A2, c2, by rw [hlen.out]; rfl, hO8.lower hg.size, by rw [hOS.out]; exact hp2.out, hs, hge⟩

end Go.Proofs.YtkcchcnljanloaaGreat

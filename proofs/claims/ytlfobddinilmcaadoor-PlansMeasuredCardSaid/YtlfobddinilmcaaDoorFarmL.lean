/- Contracts of functions that this seat's laws reach, each: what one call returns and what it leaves in memory; no condition beyond each theorem's own hypotheses. -/
import Derived.Test.YtlfobddinilmcaaDoorFarmK
set_option linter.unusedVariables false
set_option linter.unusedSimpArgs false
namespace Go.Proofs.YtlfobddinilmcaaDoor
open Go Go.RowKit Go.Bl

theorem rowC_fst (j : List Jb) (ch : Int) : ∀ (c : Int × ByteArray) (row : List Int), (rowC j ch c row).map (·.1) = row
  | _, [] => rfl
  | c, i :: r => by simp [rowC, rowC_fst j ch _ r]
theorem rowC_get {j : List Jb} {ch : Int} {mat : ByteArray} {row : List Int} {m : Nat} (hm : m < row.length) : (rowC j ch (0, mat) row)[m]'(by rw [rowC_len]; exact hm) = (row[m], (endV j ch mat row)[m]'(by rw [endV_len]; exact hm)) := by
  have h1 := rowC_fst j ch (0, mat) row
  have e1 : row[m] = ((rowC j ch (0, mat) row)[m]'(by rw [rowC_len]; exact hm)).1 := by
    have : row[m]? = ((rowC j ch (0, mat) row).map (·.1))[m]? := by rw [h1]
    rw [List.getElem?_eq_getElem hm, List.getElem?_map, List.getElem?_eq_getElem (by rw [rowC_len]; exact hm)] at this
    simpa using this
  rw [e1]
  unfold endV
  rw [List.getElem_map]

set_option maxHeartbeats 4000000 in
set_option maxRecDepth 100000 in
theorem endsBy_any (A : Option Addr) (c : Nat) (p : List Prn) (B : Option Addr) (d : Nat) (j : List Jb) (C : Option Addr) (e0 : Nat) (plan : List (List Int)) (ch : Int) (w : World) (hp : Sl w 0 A p) (hj : Sl w 0 B j) (hpl : Sl w 0 C plan) (hok : POk p j plan ch) :
    Calls Tryd.prog 21 #[.slice A p.length c, .slice B j.length d, .slice C plan.length e0, .int .i64 ch] w fun e w' => ∃ g, e = .returned (.tuple #[.slice (some ⟨g, 0, none⟩) j.length j.length, .int .i64 (endF p j plan ch)]) ∧ Own w' w.heap.size 3 (some ⟨g, 0, none⟩) j.length (endsF p j plan ch) ∧ w.grownBy w' none := by
  have hj5 := hok.len
  have hch := hok.chg
  have hrw := hok.row
  have hpm := hpl.1
  unfold maxLen at hpm
  obtain ⟨i0, hi, hz, hi1, hi2⟩ := info_parts info_int
  obtain ⟨w2, hrun, hoO, hg2⟩ := run_makeOwn (P := Tryd.prog) w 22 3 i0 _ (0 : Int) Tryd.underlying22 hi hz hi1 rfl rfl .i64 .i64 j.length (by rw [hi2]; omega) (by simp [maxLen]; omega)
  clear hi hz hi1 hi2 i0
  obtain ⟨gs, hgs⟩ : ∃ g, g = w.heap.size := ⟨_, rfl⟩
  rw [← hgs] at hrun hoO
  have hgs0 : w.heap.size ≤ gs := by omega
  have hgsl : gs < w2.heap.size := (hoO.blk_lt (g := gs) rfl).2
  clear hgs
  replace hoO := hoO.lower hgs0
  replace hok := hide hok
  go_enter Tryd.func21, Tryd.ntmps21
  go_wp2_with fail
  clear hrun
  go_loopw [11, 21] (fun l i wr => ∃ k : Nat, k ≤ plan.length ∧ i = .int .i64 k ∧ l = .int .i64 (lastO (pairsK p j plan ch k)) ∧ Own wr w.heap.size 3 (some ⟨gs, 0, none⟩) j.length (outO j.length (pairsK p j plan ch k)) ∧ w.grownBy wr none) (fun _ i _ => plan.length - (intOf i).toNat)
  case atStart => exact ⟨0, Nat.zero_le _, rfl, rfl, hoO, hg2⟩
  case round =>
    clear hoO hg2
    obtain ⟨k, hk, rfl, rfl, hoO, hg⟩ := hrel
    by_cases hlt : k < plan.length
    · obtain ⟨g, o, Bk, dk, rfl, hb1, c0, hsl⟩ := sl_inner hpl hlt
      replace c0 := hg.k c0
      have hpk : k < p.length := by omega
      clear hrw
      obtain ⟨ga, oa, cx, rfl, _, hb2, rfl, hc⟩ := (hp.pure hg).at_ (by decide) hpk
      have d0 : wr.cell? ⟨ga, oa + k * 2, none⟩ = some (.string p[k].key) := hc 0 _ rfl
      have d1 : wr.cell? ⟨ga, oa + k * 2 + 1, none⟩ = some (.string p[k].mat) := hc 1 _ rfl
      clear hc
      have hps : pairsK p j plan ch (k + 1) = pairsK p j plan ch k ++ rowC j ch (0, p[k].mat) plan[k] := by rw [pairsK_succ]; unfold rowP; simp [List.getD, hlt, hpk]
      replace hps := hide hps
      have hin := hide (fun i hi => hok.out.ix i (row_in hlt i hi))
      have hln := hide (Nat.le_trans (row_len hlt) hok.out.few)
      obtain ⟨row, hrow⟩ : ∃ x, x = plan[k] := ⟨_, rfl⟩
      rw [← hrow] at c0 hsl hps hin hln
      clear hrow
      have hrm := hln.out
      generalize hPk : pairsK p j plan ch k = Pk at *
      clear hPk
      generalize hmt : p[k].mat = mat at *
      generalize hkt : p[k].key = ky at *
      clear hmt hkt
      go_wp2_with fail
      refine (endsOn_any ky mat _ _ _ _ _ _ _ _ (hj.pure hg) (hsl.pure hg) hok.out.toJOk (by omega) hin.out).mono ?_
      rintro e w3 ⟨A3, c3, rfl, hoE, hg3⟩
      have hgsr := (hoO.blk_lt (g := gs) rfl).2
      replace hoE := hoE.sl
      replace hoO := hoO.pure hg3
      have hg' := gr_trans hg hg3
      have hgs3 : gs < w.heap.size + 1 → True := fun _ => trivial
      clear hgs3
      have hgw := hg
      clear hg d0 d1 c0
      rename World => wq
      go_wp2_with fail
      go_loopw [11, 35] (fun l i wr => ∃ m : Nat, m ≤ row.length ∧ i = .int .i64 m ∧ l = .int .i64 (lastO (Pk ++ (rowC j ch (0, mat) row).take m)) ∧ Own wr w.heap.size 3 (some ⟨gs, 0, none⟩) j.length (outO j.length (Pk ++ (rowC j ch (0, mat) row).take m)) ∧ wq.grownBy wr (some gs) ∧ w.grownBy wr none) (fun _ i _ => row.length - (intOf i).toNat)
      case atStart => exact ⟨0, Nat.zero_le _, rfl, by simp, by simpa using hoO, World.grownBy.refl _ _, hg'⟩
      case round =>
        clear hoO hg'
        obtain ⟨m, hmk, rfl, rfl, hoO, hgq, hg⟩ := hrel
        by_cases hml : m < row.length
        · obtain ⟨g2, o2, cx, rfl, _, hb2', rfl, hc⟩ := (hsl.pure hg).at_ (by decide) hml
          have r0 : _ := hc 0 _ rfl
          rw [show Enc.sz Int = 1 from rfl, Nat.mul_one, Nat.add_zero] at r0
          clear hc
          have hml2 : m < (endV j ch mat row).length := by rw [endV_len]; exact hml
          obtain ⟨g3, o3, cx, rfl, _, hb3', rfl, hc⟩ := (hoE.gr hgq (fun x e => by injection e; omega)).at_ (by decide) hml2
          have r1 : _ := hc 0 _ rfl
          rw [show Enc.sz Int = 1 from rfl, Nat.mul_one, Nat.add_zero] at r1
          clear hc
          have hri := hin.out _ (List.getElem_mem hml)
          obtain ⟨x, hx⟩ := Int.eq_ofNat_of_zero_le hri.1
          have hxl : x < j.length := by omega
          have htk : Hid (Pk ++ (rowC j ch (0, mat) row).take (m + 1) = (Pk ++ (rowC j ch (0, mat) row).take m) ++ [((x : Int), (endV j ch mat row)[m])]) := by
            rw [Hid, take_snoc (by rw [rowC_len]; exact hml), rowC_get hml, hx, List.append_assoc]
          rw [hx] at r0
          generalize hQ : Pk ++ (rowC j ch (0, mat) row).take m = Q at *
          generalize hz : (endV j ch mat row)[m] = z at *
          clear hQ hz hri hx
          have hlO : x < (outO j.length Q).length := by rw [outO_len]; exact hxl
          have o0 := hoO.cell_int hlO
          have of := hoO.frozen x
          have hoO2 := hoO.set_int x z
          have hg2 := gr_set hg (p := ⟨gs, x, none⟩) (.inr hgs0) (.int .i64 z)
          have hgq2 := gr_set hgq (p := ⟨gs, x, none⟩) (.inl rfl) (.int .i64 z)
          go_wp2_with fail
          (go_roundw; (case rel => exact ⟨m + 1, by omega, by go_num, by rw [htk.out, lastO_snoc], by rw [htk.out, outO_snoc]; exact hoO2, hgq2, hg2⟩); (case measure => simp [intOf]; omega))
        · have hm2 : m = row.length := by omega
          subst hm2
          rw [List.take_of_length_le (by rw [rowC_len]; omega), ← hps.out] at hoO ⊢
          go_wp2_with fail
          (go_roundw; (case rel => exact ⟨k + 1, by omega, by go_num, rfl, hoO, hg⟩); (case measure => simp [intOf]; omega))
    · have hke : k = plan.length := by omega
      subst hke
      go_wp2_with fail
      refine bodyPost_ret (v := .tuple #[.slice (some ⟨gs, 0, none⟩) j.length j.length, .int .i64 (lastO (pairsK p j plan ch plan.length))]) (by simp [results, Tryd.results21, go_sem]) rfl ⟨gs, rfl, hoO, hg⟩
end Go.Proofs.YtlfobddinilmcaaDoor

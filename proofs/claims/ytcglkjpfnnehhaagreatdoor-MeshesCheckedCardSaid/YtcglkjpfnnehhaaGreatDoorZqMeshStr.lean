/- Contracts of functions that this seat's laws reach, each: what one call returns and what it leaves in memory; no condition beyond each theorem's own hypotheses. -/
import Derived.Test.YtcglkjpfnnehhaaGreatDoorZqMTextB
import Derived.Test.YtcglkjpfnnehhaaGreatDoorZqChgA
import Derived.Test.YtcglkjpfnnehhaaGreatDoorZqTabS
import Derived.Test.YtcglkjpfnnehhaaGreatDoorZqRightM
set_option linter.unusedVariables false
set_option linter.unusedSimpArgs false
namespace Go.Proofs.YtcglkjpfnnehhaaGreatDoor
open Go Go.RowKit Go.Bl

theorem meshF_pos {vs : List V3} {fs : List Fc} (h : meshF ⟨vs, fs⟩ = 0) : 0 < vs.length := by
  have hok := h
  unfold meshF at h
  by_cases h0 : fs = []
  · rw [if_pos h0] at h; cases h
  · obtain ⟨f, r, rfl⟩ : ∃ f r, fs = f :: r := by
      cases fs with
      | nil => exact absurd rfl h0
      | cons f r => exact ⟨f, r, rfl⟩
    rw [if_neg h0] at h
    by_cases h1 : 1000 < vs.length ∨ 1000 < (f :: r).length
    · rw [if_pos h1] at h; cases h
    · rw [if_neg h1] at h
      by_cases h2 : vs.any farV = true
      · rw [if_pos h2] at h; cases h
      · rw [if_neg h2] at h
        by_cases h3 : facesF vs (f :: r) = 0
        · have := facesF_in h3 f (by simp)
          unfold inF inI at this
          simp only [Bool.and_eq_true, decide_eq_true_eq] at this
          omega
        · rw [if_neg h3] at h; exact absurd h h3

theorem tet_mok {v : V3} (h : Bd 200000 v) (h' : Bd 100000 v) : MOk ⟨tetL v 3, pyrF⟩ := by
  refine ⟨fun u hu => ?_, fun f hf => ?_, by simp [tetL], by simp [pyrF]⟩
  · unfold tetL at hu
    unfold Bd at *
    simp only [List.mem_cons, List.not_mem_nil, or_false] at hu
    rcases hu with rfl | rfl | rfl | rfl <;> (try simp only) <;> omega
  · unfold pyrF at hf
    unfold Bd
    simp only [List.mem_cons, List.not_mem_nil, or_false] at hf
    rcases hf with rfl | rfl | rfl | rfl <;> (simp only; omega)

theorem tet_text {v : V3} (h : MOk ⟨tetL v 3, pyrF⟩) : (meshText ⟨tetL v 3, pyrF⟩).length ≤ 600 := by
  have h1 : (meshText ⟨tetL v 3, pyrF⟩).length ≤ (67 + 1) * ((tetL v 3).map vLine ++ pyrF.map fLine).length := ended_len2 (fun x hx => by
    rcases List.mem_append.1 hx with hx | hx
    · obtain ⟨d, hd, rfl⟩ := List.mem_map.1 hx; exact mrow_len _ (h.v d hd)
    · obtain ⟨d, hd, rfl⟩ := List.mem_map.1 hx; exact mrow_len _ (h.f d hd))
  rw [List.length_append, List.length_map, List.length_map] at h1
  simp only [tetL, pyrF, List.length_cons, List.length_nil] at h1
  simp only [tetL, pyrF]
  omega

set_option maxHeartbeats 4000000 in
set_option maxRecDepth 100000 in
theorem meshString_any (b : Nat) (N : Int) (w : World) (hs : Strm w b N) (hN : N ≤ 900000) (hT : Tab w) (hb : TabLt b) :
    Calls Tryz.prog 11 #[.pointer (some ⟨b, 0, none⟩)] w fun e w' => ∃ t : ByteArray, e = .returned (.string t) ∧ t.size ≤ 3000 ∧ SOut b (N + 7000) w w' := by
  have hR := rightMesh_any b N w hs (by omega)
  go_enter Tryz.func11, Tryz.ntmps11
  go_wp2_with fail
  refine hR.mono ?_
  rintro e w1 ⟨A1, cA, vs, B1, d1, fs, rfl, hl, hf, ho1, hok, hvl, hfl⟩
  clear hR hf
  have hm := meshF_ok0 hok
  have hps := meshF_pos hok
  obtain ⟨g, o, cx, rfl, hb0, hb1, rfl, hc⟩ := (hl.mono (Nat.zero_le _)).at_ (by decide) hps
  have c0 : w1.cell? ⟨g, o, none⟩ = some (.int .i64 vs[0].x) := by have := hc 0 _ rfl; simpa using this
  have c1 : w1.cell? ⟨g, o + 1, none⟩ = some (.int .i64 vs[0].y) := by have := hc 1 _ rfl; simpa using this
  have c2 : w1.cell? ⟨g, o + 2, none⟩ = some (.int .i64 vs[0].z) := by have := hc 2 _ rfl; simpa using this
  clear hc
  have hbd := hm.v _ (List.getElem_mem hps)
  have hbd1 : Bd 100000 vs[0] := by
    unfold meshF at hok
    split at hok
    · cases hok
    · split at hok
      · cases hok
      · split at hok
        · cases hok
        · rename_i h2
          exact farV_no (by simpa using List.any_eq_false.1 (by simpa using h2) _ (List.getElem_mem hps))
  generalize vs[0] = v at *
  have htm := tet_mok hbd hbd1
  have htx := tet_text htm
  have hTe := tetraIs_any v 3
  have hps1 : (1 : Int) ≤ vs.length := by omega
  clear hm hok hvl hfl
  replace htm := hide htm
  have hfl : ∀ wx, (Instr.field 29 (.agg #[.slice (some ⟨g, o, none⟩) vs.length cA, .slice B1 fs.length d1]) 0).run Tryz.prog wx = .ok (.slice (some ⟨g, o, none⟩) vs.length cA) wx := by
    intro wx; simp [Instr.field, asAgg, go_sem]
  go_wp2_with fail
  refine (hTe _ (by unfold Bd at *; omega) (by omega)).mono ?_
  rintro e w2 ⟨A2, B2, rfl, hl2, hf2, hg2⟩
  clear hTe
  have hP := meshLines_any A2 4 (tetL v 3) B2 4 pyrF w2 (hl2.mono (Nat.zero_le _)) (hf2.mono (Nat.zero_le _)) htm.out ((Tab.s hT ho1 hb).gr (by first | exact hg2 | exact gr_trans (gr_alloc (World.grownBy.refl _ _) _) hg2))
  obtain ⟨T, hTe⟩ : ∃ T, mkB (meshText ⟨tetL v 3, pyrF⟩) = T := ⟨_, rfl⟩
  rw [hTe] at hP
  have hTs : T.size ≤ 600 := by rw [← hTe]; exact htx
  clear hTe htx
  have hlen4 : (tetL v 3).length = 4 := rfl
  have hlen5 : pyrF.length = 4 := rfl
  rw [hlen4, hlen5] at hP
  go_wp2_with fail
  refine hP.mono ?_
  rintro e w3 ⟨rfl, hg3⟩
  clear hP
  have ho3 := ho1.pure (by first | exact gr_trans hg2 hg3 | exact gr_trans (gr_trans (gr_alloc (World.grownBy.refl _ _) _) hg2) hg3)
  go_wp2_with fail
  refine (pick_any b (N + 6000) _ _ _ [0, 0, 1, 2] _ ((ho3.2.mono (by omega)).pure (gr_alloc (World.grownBy.refl _ _) _)) (by omega) (sl_intsAt _ _ _ _ _ (by first | rfl | simp) (by have := ho3.2.lt; omega) (by simp [maxLen])) rfl (by simp)).mono ?_
  rintro e w4 ⟨r, rfl, hr, ho4⟩
  obtain ⟨m, rfl, hm⟩ : ∃ m : Nat, r = m ∧ m ≤ 2 := by
    simp only [List.mem_cons, List.not_mem_nil, or_false] at hr
    exact ⟨r.toNat, by omega, by omega⟩
  clear hr
  have ho5 := (ho3.al _).trans ho4
  clear ho4
  go_wp2_with fail
  go_loopw [3, 14] (fun o i wr => ∃ (k : Nat) (t : ByteArray), k ≤ m ∧ i = .int .i64 k ∧ o = .string t ∧ t.size ≤ 2000 + 104 * k ∧ SOut b (N + 6001 + 3 * k) w wr) (fun _ i _ => m - (intOf i).toNat)
  case atStart => exact ⟨0, T, Nat.zero_le _, rfl, rfl, by omega, ho5.mono (by omega)⟩
  case round =>
    obtain ⟨k, t, hk, rfl, rfl, ht, ho⟩ := hrel
    by_cases hlt : k < m
    · have hC := changed_any b (N + 6001 + 3 * k) t ⟨#[32, 10, 48, 49, 118, 102, 45]⟩ wr ho.2 (by omega) (by omega) (by decide)
      go_wp2_with fail
      refine hC.mono ?_
      rintro e w5 ⟨t2, rfl, ht2, ho5⟩
      clear hC
      have ho6 := ho.trans ho5
      go_wp2_with fail
      (go_roundw; (case rel => exact ⟨k + 1, t2, by omega, by go_num, rfl, by omega, ho6.mono (by omega)⟩); (case measure => simp [intOf]; omega))
    · go_wp2_with fail
      go_ret
      exact ⟨t, rfl, by omega, ho.mono (by omega)⟩

end Go.Proofs.YtcglkjpfnnehhaaGreatDoor

/- Contracts of functions that this seat's laws reach, each: what one call returns and what it leaves in memory; no condition beyond each theorem's own hypotheses. -/
import Derived.Test.YtncplpbnhlodaaaGreatDoorMDrawD
import Derived.Test.YtncplpbnhlodaaaGreatDoorMSpoolC
import Derived.Test.YtncplpbnhlodaaaGreatDoorMChgA
import Derived.Test.YtncplpbnhlodaaaGreatDoorMTabS
set_option linter.unusedVariables false
set_option linter.unusedSimpArgs false
namespace Go.Proofs.YtncplpbnhlodaaaGreatDoor
open Go Go.RowKit Go.Bl

theorem txsF_take {l : List Drw} (h : txsF l = 0) (m : Nat) : txsF (l.take m) = 0 := by
  have hs : ∀ n, n ≤ l.length → scanN (txF l) n = 0 := by
    unfold txsF at h
    by_cases h1 : 5000 < l.length
    · rw [if_pos h1] at h; cases h
    · rw [if_neg h1] at h
      intro n hn
      induction n with
      | zero => rfl
      | succ n ih =>
        unfold scanN
        rw [if_pos (ih (by omega))]
        exact scanN_all h n (by omega)
  have h5 := (txsF_zero h).1
  unfold txsF
  rw [if_neg (by rw [List.length_take]; omega)]
  have hx : ∀ n, n ≤ (l.take m).length → scanN (txF (l.take m)) n = 0 := by
    intro n hn
    induction n with
    | zero => rfl
    | succ n ih =>
      unfold scanN
      rw [if_pos (ih (by omega))]
      rw [List.length_take] at hn
      have e : (l.take m).getD n default = l.getD n default := by
        simp only [List.getD_eq_getElem?_getD]
        rw [List.getElem?_take_of_lt (by omega)]
      have h2 := hs (n + 1) (by omega)
      unfold scanN at h2
      rw [if_pos (hs n (by omega))] at h2
      unfold txF at h2 ⊢
      rw [e]
      exact h2
  exact hx _ (Nat.le_refl _)

set_option maxHeartbeats 1000000 in
set_option maxRecDepth 100000 in
theorem drawString_any (b : Nat) (N : Int) (w : World) (hs : Strm w b N) (hN : N ≤ 900000) (hT : Tab w) (hb : TabLt b) :
    Calls Tryz.prog 20 #[.pointer (some ⟨b, 0, none⟩)] w fun e w' => ∃ t : ByteArray, e = .returned (.string t) ∧ t.size ≤ 3000 ∧ SOut b (N + 7000) w w' := by
  have hR := drawList_any b N w hs (by omega)
  go_enter Tryz.func20, Tryz.ntmps20
  go_wp2_with fail
  refine hR.mono ?_
  rintro e w1 ⟨l, A1, c1, rfl, hl, hl8, hlc, ho1⟩
  clear hR
  have hl0 := hl.mono (Nat.zero_le _)
  have hF := drawLinesFault_any A1 c1 l w1 hl0
  have hm := hl.1
  unfold maxLen at hm
  by_cases hF0 : txsF l = 0
  · have ht0 := txsF_take hF0 5
    have htl := drawText_len (txsF_zero ht0).2
    have hlt5 : (l.take 5).length = (min (l.length : Int) 5).toNat := by rw [List.length_take]; omega
    have hP := fun wx (hx : w1.grownBy wx none) => drawLines_any A1 c1 (l.take 5) wx ((hl0.take 5).pure hx) ht0 (by omega) ((Tab.s hT ho1 hb).gr hx)
    rw [hF0] at hF
    rw [hlt5] at hP
    obtain ⟨T, hTe⟩ : ∃ T, mkB (drawText (l.take 5)) = T := ⟨_, rfl⟩
    rw [hTe] at hP
    have hTs : T.size ≤ 2000 := by rw [← hTe, mkB_size]; omega
    clear hTe htl ht0
    replace hF0 := hide hF0
    replace hlt5 := hide hlt5
    go_wp2_with fail
    refine hF.mono ?_
    rintro e w1b ⟨rfl, hg1b⟩
    clear hF
    go_wp2_with fail
    refine (hP _ hg1b).mono ?_
    rintro e w2 ⟨rfl, hg2⟩
    clear hP
    have ho2 := ho1.pure (hg1b.t hg2)
    go_wp2_with fail
    refine (pick_any b (N + 40) _ _ _ [0, 0, 1, 2] _ (ho2.2.pure (gr_alloc (World.grownBy.refl _ _) _)) (by omega) (sl_intsAt _ _ _ _ _ (by first | rfl | simp) (by have := ho2.lt; omega) (by simp [maxLen])) rfl (by simp)).mono ?_
    rintro e w3 ⟨r, rfl, hr, ho3⟩
    obtain ⟨m, rfl, hm⟩ : ∃ m : Nat, r = m ∧ m ≤ 2 := by
      simp only [List.mem_cons, List.not_mem_nil, or_false] at hr
      exact ⟨r.toNat, by omega, by omega⟩
    clear hr
    have ho4 := (ho2.al _).trans ho3
    clear ho3
    go_wp2_with fail
    go_loopw [3, 19] (fun o i wr => ∃ (k : Nat) (t : ByteArray), k ≤ m ∧ i = .int .i64 k ∧ o = .string t ∧ t.size ≤ 2000 + 104 * k ∧ SOut b (N + 41 + 3 * k) w wr) (fun _ i _ => m - (intOf i).toNat)
    case atStart => exact ⟨0, T, Nat.zero_le _, rfl, rfl, by omega, ho4.mono (by omega)⟩
    case round =>
      obtain ⟨k, t, hk, rfl, rfl, ht, ho⟩ := hrel
      by_cases hlt : k < m
      · have hC := changed_any b (N + 41 + 3 * k) t ⟨#[32, 10, 48, 49, 115, 45]⟩ wr ho.2 (by omega) (by omega) (by decide)
        go_wp2_with fail
        refine hC.mono ?_
        rintro e w5 ⟨t2, rfl, ht2, ho5⟩
        clear hC
        have ho6 := ho.trans ho5
        go_wp2_with fail
        first
          | exact ⟨⟨k + 1, t2, by omega, by go_num, rfl, by omega, ho6.mono (by omega)⟩, by simp [intOf]; omega⟩
          | (go_roundw; (case rel => exact ⟨k + 1, t2, by omega, by go_num, rfl, by omega, ho6.mono (by omega)⟩); (case measure => simp [intOf]; omega))
      · go_wp2_with fail
        go_ret
        exact ⟨t, rfl, by omega, ho.mono (by omega)⟩
  · obtain ⟨F, hFe⟩ : ∃ F, txsF l = F := ⟨_, rfl⟩
    rw [hFe] at hF hF0
    have hb0 : (F == 0) = false := beq_eq_false_iff_ne.2 hF0
    clear hFe
    replace hF0 := hide hF0
    obtain ⟨T, hTe⟩ : ∃ T : ByteArray, T = ⟨#[]⟩ := ⟨_, rfl⟩
    have hTs : T.size ≤ 2000 := by rw [hTe]; decide
    go_wp2_with fail
    refine hF.mono ?_
    rintro e w2 ⟨rfl, hg2⟩
    clear hF
    have ho2 := ho1.pure hg2
    rw [← hTe]
    replace hTe := hide hTe
    go_wp2_with fail
    refine (pick_any b (N + 40) _ _ _ [0, 0, 1, 2] _ (ho2.2.pure (gr_alloc (World.grownBy.refl _ _) _)) (by omega) (sl_intsAt _ _ _ _ _ (by first | rfl | simp) (by have := ho2.lt; omega) (by simp [maxLen])) rfl (by simp)).mono ?_
    rintro e w3 ⟨r, rfl, hr, ho3⟩
    obtain ⟨m, rfl, hm⟩ : ∃ m : Nat, r = m ∧ m ≤ 2 := by
      simp only [List.mem_cons, List.not_mem_nil, or_false] at hr
      exact ⟨r.toNat, by omega, by omega⟩
    clear hr
    have ho4 := (ho2.al _).trans ho3
    clear ho3
    go_wp2_with fail
    go_loopw [3, 19] (fun o i wr => ∃ (k : Nat) (t : ByteArray), k ≤ m ∧ i = .int .i64 k ∧ o = .string t ∧ t.size ≤ 2000 + 104 * k ∧ SOut b (N + 41 + 3 * k) w wr) (fun _ i _ => m - (intOf i).toNat)
    case atStart => exact ⟨0, T, Nat.zero_le _, rfl, rfl, by omega, ho4.mono (by omega)⟩
    case round =>
      obtain ⟨k, t, hk, rfl, rfl, ht, ho⟩ := hrel
      by_cases hlt : k < m
      · have hC := changed_any b (N + 41 + 3 * k) t ⟨#[32, 10, 48, 49, 115, 45]⟩ wr ho.2 (by omega) (by omega) (by decide)
        go_wp2_with fail
        refine hC.mono ?_
        rintro e w5 ⟨t2, rfl, ht2, ho5⟩
        clear hC
        have ho6 := ho.trans ho5
        go_wp2_with fail
        first
          | exact ⟨⟨k + 1, t2, by omega, by go_num, rfl, by omega, ho6.mono (by omega)⟩, by simp [intOf]; omega⟩
          | (go_roundw; (case rel => exact ⟨k + 1, t2, by omega, by go_num, rfl, by omega, ho6.mono (by omega)⟩); (case measure => simp [intOf]; omega))
      · go_wp2_with fail
        go_ret
        exact ⟨t, rfl, by omega, ho.mono (by omega)⟩

end Go.Proofs.YtncplpbnhlodaaaGreatDoor

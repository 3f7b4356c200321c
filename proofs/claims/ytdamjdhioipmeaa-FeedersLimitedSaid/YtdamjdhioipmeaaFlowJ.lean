/- Contracts of functions that this seat's laws reach, each: what one call returns and what it leaves in memory; no condition beyond each theorem's own hypotheses. -/
import Derived.Test.YtdamjdhioipmeaaFlowI
set_option linter.unusedVariables false
set_option linter.unusedSimpArgs false
namespace Go.Proofs.Ytdamjdhioipmeaa
open Go.RowKit Go.Bl

theorem orS_assoc (a b c : Int) : orS (orS a b) c = orS a (orS b c) := by
  unfold orS
  by_cases h : a = 0 <;> by_cases h2 : b = 0 <;> simp [h, h2]

set_option maxHeartbeats 400000 in
theorem weightFault_any (A : Option Addr) (c : Nat) (l : List Bead) (d : Int) (w : World) (hl : Sl w 0 A l) :
    Calls Try.prog 33 #[.slice A l.length c, .int .i64 d] w fun e w' => e = .returned (.int .i64 (weightF l d)) ∧ w.grownBy w' none := by
  have HA := hide (orS_assoc (fedFault l) (spanF d 1 1000000) (if 1000000000000 < volW l then 12 else 0))
  have H2 := hide (orL_two (fedFault l) (spanF d 1 1000000))
  by_cases h : orS (fedFault l) (spanF d 1 1000000) = 0
  · have HS : Hid ((if 1000000000000 < volW l then 12 else 0) = weightF l d) := by unfold Hid weightF; rw [← HA.out, orS_zero h]
    have hb : (orS (fedFault l) (spanF d 1 1000000) != 0) = false := by simp [h]
    clear h HA
    go_enter Try.func33, Try.ntmps33
    go_wp2_with fail
    refine (fedFault_any _ _ _ _ hl).mono ?_
    rintro e w1 ⟨rfl, hg⟩
    go_wp2_with fail
    refine (spanFault_any _ _ _ _).mono ?_
    rintro e w2 ⟨rfl, rfl⟩
    go_wp2_with fail
    refine (or_any _ _ _ [fedFault l, spanF d 1 1000000] _ (sl_ints _ _ _ _ (Nat.zero_le _) (by simp [maxLen])) rfl).mono ?_
    rintro e w3 ⟨rfl, rfl⟩
    rw [H2.out]
    go_wp2_with fail
    refine (volumeFault_any _ _ _ _ _ (hl.pure (gr_alloc hg _))).mono ?_
    rintro e w4 ⟨rfl, hg4⟩
    rw [HS.out]
    go_wp2
    go_ret
    exact ⟨rfl, gr_trans (gr_alloc hg _) hg4⟩
  · have HS : Hid (orS (fedFault l) (spanF d 1 1000000) = weightF l d) := by unfold Hid weightF; rw [← HA.out, orS_ne h]
    have hb : (orS (fedFault l) (spanF d 1 1000000) != 0) = true := by simp [h]
    clear h HA
    go_enter Try.func33, Try.ntmps33
    go_wp2_with fail
    refine (fedFault_any _ _ _ _ hl).mono ?_
    rintro e w1 ⟨rfl, hg⟩
    go_wp2_with fail
    refine (spanFault_any _ _ _ _).mono ?_
    rintro e w2 ⟨rfl, rfl⟩
    go_wp2_with fail
    refine (or_any _ _ _ [fedFault l, spanF d 1 1000000] _ (sl_ints _ _ _ _ (Nat.zero_le _) (by simp [maxLen])) rfl).mono ?_
    rintro e w3 ⟨rfl, rfl⟩
    rw [H2.out]
    go_wp2_with fail
    go_ret
    exact ⟨ret_int HS.out, gr_alloc hg _⟩

set_option maxHeartbeats 400000 in
theorem weightOf_any (A : Option Addr) (c : Nat) (l : List Bead) (d : Int) (w : World) (hl : Sl w 0 A l) (hF : weightF l d = 0) :
    Calls Try.prog 38 #[.slice A l.length c, .int .i64 d] w fun e w' => e = .returned (.agg #[.int .i64 (weight l d).num, .int .i64 (weight l d).den]) ∧ w.grownBy w' none := by
  obtain ⟨_, hv0, hv1, hd0, hd1⟩ := weightF_zero hF
  obtain ⟨hm0, hm1⟩ := mul_bd hv0 hv1 (by omega) hd1
  have HN : Hid (weight l d = lowest (volW l * d) 1000000000000) := by simp only [Hid, weight]; rw [if_neg (by simp [hF])]
  clear hF
  go_enter Try.func38, Try.ntmps38
  go_wp2_with fail
  refine (volumeFed_any _ _ _ _ (hl.pure (gr_alloc (World.grownBy.refl _ _) _))).mono ?_
  rintro e w1 ⟨rfl, hg1⟩
  go_wp2_with fail
  refine (lowestRef_any _ _ _ (by omega) (by omega)).mono ?_
  rintro e w2 ⟨rfl, hg2⟩
  have hg := gr_trans hg1 hg2
  have hsz : w.heap.size < (w2).heap.size := by have := (hg).size; simp at this; omega
  have k0 : (w2).cell? ⟨w.heap.size, 0, none⟩ = some (.int .i64 0) := (hg).cell (by go_simp) (by simp)
  have k1 : (w2).cell? ⟨w.heap.size, 1, none⟩ = some (.int .i64 0) := (hg).cell (by go_simp) (by simp)
  have f0 : (w2).frozen? ⟨w.heap.size, 0, none⟩ = false := by rw [World.frozen?_of_block ((hg).block _ (by simp) (by simp))]; go_simp
  have f1 : (w2).frozen? ⟨w.heap.size, 1, none⟩ = false := by rw [World.frozen?_of_block ((hg).block _ (by simp) (by simp))]; go_simp
  have hg' := gr_trans (gr_alloc (World.grownBy.refl w none) _) (hg)
  clear hg hg1 hg2
  go_wp2
  refine bodyPost_ret (v := .agg #[.int .i64 (lowest (volW l * d) 1000000000000).num, .int .i64 (lowest (volW l * d) 1000000000000).den]) (by simp [results, Try.results38, go_sem, k0, k1, f0, f1]) rfl ⟨by rw [HN.out], ?_⟩
  exact gr_set (gr_set hg' (.inr (Nat.le_refl _)) _) (.inr (Nat.le_refl _)) _

set_option maxHeartbeats 400000 in
theorem weight_any (A : Option Addr) (c : Nat) (l : List Bead) (d : Int) (w : World) (hl : Sl w 0 A l) :
    Calls Try.prog 29 #[.slice A l.length c, .int .i64 d] w fun e w' => e = .returned (.tuple #[.agg #[.int .i64 (weight l d).num, .int .i64 (weight l d).den], .int .i64 (weightF l d)]) ∧ w.grownBy w' none := by
  by_cases hF : fedFault l = 0
  · have hv : volumeOf l = volW l := volumeOf_ok hF
    have hb : (fedFault l != 0) = false := by simp [hF]
    by_cases hO : outB d 1 1000000 = true
    · have HE : Hid (1 = weightF l d) := by unfold Hid weightF spanF; rw [orS_zero hF, if_pos hO]; rfl
      have HN : Hid (weight l d = ⟨0, 0⟩) := by simp only [Hid, weight]; rw [if_pos (by rw [← HE.out]; decide)]
      have hF := hide hF
      clear hF
      go_enter Try.func29, Try.ntmps29
      go_wp2_with fail
      refine (volumeGo_any _ _ _ _ (hl.pure (gr_alloc (World.grownBy.refl _ _) _))).mono ?_
      rintro e w1 ⟨rfl, hg1⟩
      go_wp2_with fail
      refine (outside_any _ _ _ _).mono ?_
      rintro e w2 ⟨rfl, rfl⟩
      have hsz : w.heap.size < (w1).heap.size := by have := (hg1).size; simp at this; omega
      have k0 : (w1).cell? ⟨w.heap.size, 0, none⟩ = some (.int .i64 0) := (hg1).cell (by go_simp) (by simp)
      have k1 : (w1).cell? ⟨w.heap.size, 1, none⟩ = some (.int .i64 0) := (hg1).cell (by go_simp) (by simp)
      have f0 : (w1).frozen? ⟨w.heap.size, 0, none⟩ = false := by rw [World.frozen?_of_block ((hg1).block _ (by simp) (by simp))]; go_simp
      have f1 : (w1).frozen? ⟨w.heap.size, 1, none⟩ = false := by rw [World.frozen?_of_block ((hg1).block _ (by simp) (by simp))]; go_simp
      have hg' := gr_trans (gr_alloc (World.grownBy.refl w none) _) (hg1)
      clear hg1
      go_wp2
      refine bodyPost_ret (v := .tuple #[.agg #[.int .i64 0, .int .i64 0], .int .i64 1]) (by simp [results, Try.results29, go_sem, k0, k1, f0, f1]) rfl ⟨by rw [HN.out, ← HE.out], ?_⟩
      exact gr_set (gr_set hg' (.inr (Nat.le_refl _)) _) (.inr (Nat.le_refl _)) _
    · have hO : outB d 1 1000000 = false := by simpa using hO
      have hs : spanF d 1 1000000 = 0 := by unfold spanF; rw [hO]; rfl
      by_cases h3 : 1000000000000 < volW l
      · have HE : Hid (12 = weightF l d) := by unfold Hid weightF; rw [orS_zero hF, orS_zero hs, if_pos h3]
        have HN : Hid (weight l d = ⟨0, 0⟩) := by simp only [Hid, weight]; rw [if_pos (by rw [← HE.out]; decide)]
        clear hF hs
        go_enter Try.func29, Try.ntmps29
        go_wp2_with fail
        refine (volumeGo_any _ _ _ _ (hl.pure (gr_alloc (World.grownBy.refl _ _) _))).mono ?_
        rintro e w1 ⟨rfl, hg1⟩
        go_wp2_with fail
        refine (outside_any _ _ _ _).mono ?_
        rintro e w2 ⟨rfl, rfl⟩
        have hsz : w.heap.size < (w1).heap.size := by have := (hg1).size; simp at this; omega
        have k0 : (w1).cell? ⟨w.heap.size, 0, none⟩ = some (.int .i64 0) := (hg1).cell (by go_simp) (by simp)
        have k1 : (w1).cell? ⟨w.heap.size, 1, none⟩ = some (.int .i64 0) := (hg1).cell (by go_simp) (by simp)
        have f0 : (w1).frozen? ⟨w.heap.size, 0, none⟩ = false := by rw [World.frozen?_of_block ((hg1).block _ (by simp) (by simp))]; go_simp
        have f1 : (w1).frozen? ⟨w.heap.size, 1, none⟩ = false := by rw [World.frozen?_of_block ((hg1).block _ (by simp) (by simp))]; go_simp
        have hg' := gr_trans (gr_alloc (World.grownBy.refl w none) _) (hg1)
        clear hg1
        go_wp2
        refine bodyPost_ret (v := .tuple #[.agg #[.int .i64 0, .int .i64 0], .int .i64 12]) (by simp [results, Try.results29, go_sem, k0, k1, f0, f1]) rfl ⟨by rw [HN.out, ← HE.out], ?_⟩
        exact gr_set (gr_set hg' (.inr (Nat.le_refl _)) _) (.inr (Nat.le_refl _)) _
      · have hW : weightF l d = 0 := by unfold weightF; rw [orS_zero hF, orS_zero hs, if_neg h3]
        obtain ⟨_, hv0, hv1, hd0, hd1⟩ := weightF_zero hW
        obtain ⟨hm0, hm1⟩ := mul_bd hv0 hv1 (by omega) hd1
        have HE := hide hW
        have HN : Hid (weight l d = lowest (volW l * d) 1000000000000) := by simp only [Hid, weight]; rw [if_neg (by simp [hW])]
        clear hF hs hW
        go_enter Try.func29, Try.ntmps29
        go_wp2_with fail
        refine (volumeGo_any _ _ _ _ (hl.pure (gr_alloc (World.grownBy.refl _ _) _))).mono ?_
        rintro e w1 ⟨rfl, hg1⟩
        go_wp2_with fail
        refine (outside_any _ _ _ _).mono ?_
        rintro e w2 ⟨rfl, rfl⟩
        go_wp2_with fail
        refine (lowest_any _ _ _ (by omega) (by omega)).mono ?_
        rintro e w3 ⟨rfl, hg3⟩
        have hg := gr_trans hg1 hg3
        have hsz : w.heap.size < (w3).heap.size := by have := (hg).size; simp at this; omega
        have k0 : (w3).cell? ⟨w.heap.size, 0, none⟩ = some (.int .i64 0) := (hg).cell (by go_simp) (by simp)
        have k1 : (w3).cell? ⟨w.heap.size, 1, none⟩ = some (.int .i64 0) := (hg).cell (by go_simp) (by simp)
        have f0 : (w3).frozen? ⟨w.heap.size, 0, none⟩ = false := by rw [World.frozen?_of_block ((hg).block _ (by simp) (by simp))]; go_simp
        have f1 : (w3).frozen? ⟨w.heap.size, 1, none⟩ = false := by rw [World.frozen?_of_block ((hg).block _ (by simp) (by simp))]; go_simp
        have hg' := gr_trans (gr_alloc (World.grownBy.refl w none) _) (hg)
        clear hg hg1 hg3
        go_wp2
        refine bodyPost_ret (v := .tuple #[.agg #[.int .i64 (lowest (volW l * d) 1000000000000).num, .int .i64 (lowest (volW l * d) 1000000000000).den], .int .i64 0]) (by simp [results, Try.results29, go_sem, k0, k1, f0, f1]) rfl ⟨by rw [HN.out, HE.out], ?_⟩
        exact gr_set (gr_set hg' (.inr (Nat.le_refl _)) _) (.inr (Nat.le_refl _)) _
  · have HE : Hid (fedFault l = weightF l d) := by unfold Hid weightF; rw [orS_ne hF]
    have HN : Hid (weight l d = ⟨0, 0⟩) := by simp only [Hid, weight]; rw [if_pos (by rw [← HE.out]; exact hF)]
    have hb : (fedFault l != 0) = true := by simp [hF]
    clear hF
    go_enter Try.func29, Try.ntmps29
    go_wp2_with fail
    refine (volumeGo_any _ _ _ _ (hl.pure (gr_alloc (World.grownBy.refl _ _) _))).mono ?_
    rintro e w1 ⟨rfl, hg1⟩
    have hsz : w.heap.size < (w1).heap.size := by have := (hg1).size; simp at this; omega
    have k0 : (w1).cell? ⟨w.heap.size, 0, none⟩ = some (.int .i64 0) := (hg1).cell (by go_simp) (by simp)
    have k1 : (w1).cell? ⟨w.heap.size, 1, none⟩ = some (.int .i64 0) := (hg1).cell (by go_simp) (by simp)
    have f0 : (w1).frozen? ⟨w.heap.size, 0, none⟩ = false := by rw [World.frozen?_of_block ((hg1).block _ (by simp) (by simp))]; go_simp
    have f1 : (w1).frozen? ⟨w.heap.size, 1, none⟩ = false := by rw [World.frozen?_of_block ((hg1).block _ (by simp) (by simp))]; go_simp
    have hg' := gr_trans (gr_alloc (World.grownBy.refl w none) _) (hg1)
    clear hg1
    go_wp2
    refine bodyPost_ret (v := .tuple #[.agg #[.int .i64 0, .int .i64 0], .int .i64 (fedFault l)]) (by simp [results, Try.results29, go_sem, k0, k1, f0, f1]) rfl ⟨by rw [HN.out, ← HE.out], ?_⟩
    exact gr_set (gr_set hg' (.inr (Nat.le_refl _)) _) (.inr (Nat.le_refl _)) _

def SInts (b : Nat) (N : Int) (n : Int) (w : World) (e : Ending) (w' : World) : Prop := ∃ (l : List Int) (A : Option Addr) (c : Nat), e = .returned (.slice A l.length c) ∧ Own w' w.heap.size 3 A c l ∧ (l.length : Int) ≤ n ∧ SOut b N w w'

set_option maxHeartbeats 2000000 in
theorem beadPlaces_any (b : Nat) (N n : Int) (w : World) (hs : Strm w b N) (hN : N ≤ 1000000000) (hn : 0 ≤ n ∧ n ≤ 1000000) :
    Calls Try.prog 24 #[.pointer (some ⟨b, 0, none⟩), .int .i64 n] w (SInts b (N + n + 3) n w) := by
  obtain ⟨i0, hi, hz, h1, h2⟩ := info_parts info_int
  have hbw := hs.lt
  go_enter Try.func24, Try.ntmps24
  go_wp2_with fail
  go_loopw [5, 8] (fun o i wr => ∃ (k : Nat) (l : List Int) (A : Option Addr) (c : Nat), (k : Int) ≤ n ∧ i = .int .i64 k ∧ o = .slice A l.length c ∧ l.length ≤ k ∧ Own wr w.heap.size 3 A c l ∧ SOut b (N + k) w wr) (fun _ i _ => (n - intOf i).toNat)
  case atStart => exact ⟨0, [], none, 0, by omega, rfl, rfl, Nat.le_refl _, Own.nil _ _ _, (SOut.refl hs).mono (by omega)⟩
  case round =>
    obtain ⟨k, l, A, c, hk, rfl, rfl, hlk, hown, ho⟩ := hrel
    by_cases hlt : (k : Int) < n
    · go_wp2_with fail
      refine (flip_any b (N + k) _ _ ho.2 (by omega) (by omega)).mono ?_
      rintro e w2 ⟨f, rfl, ho2⟩
      have hown2 := hown.s ho2 hbw
      have hoA := ho.trans ho2
      have hsz := hoA.1.size
      cases f
      · go_wp2_with fail
        go_roundw
        case rel => exact ⟨k + 1, l, A, c, by omega, by go_num, rfl, by omega, hown2, hoA.mono (by omega)⟩
        case measure => simp [intOf]; omega
      · go_wp2_with (at_builtin; refine wpList_push (α := Int) _ rfl (.tmp 13) (.tmp 15) _ rfl w.heap.size 3 i0 _ 8 Try.underlying22 hi hz h1 h2 rfl _ _ _ l rfl ?c1 (by exact (hown2.pure (by repeat (first | exact World.grownBy.refl _ _ | assumption | refine gr_alloc ?_ _ | refine gr_drewN ?_ _ | refine gr_drew ?_)))) 0 ⟨_, 0, none⟩ 1 1 [(k : Int)] rfl rfl (by exact sl_int1 _ _ _ _ (by first | rfl | simp)) ?c2 ?c3 ?c4 ?_)
        case c1 => rfl
        case c2 => simp; omega
        case c3 => simp [maxLen]; omega
        case c4 => simp; omega
        intro A5 c5 w5 hown5 hup5
        go_wp2
        go_roundw
        case rel => exact ⟨k + 1, l ++ [(k : Int)], A5, c5, by omega, by go_num, by simp, by simp; omega, hown5, ((hoA.pure (gr_alloc (World.grownBy.refl _ _) _)).upd (Nat.le_refl _) hbw hup5).mono (by omega)⟩
        case measure => simp [intOf]; omega
    · have hkn : (k : Int) = n := by omega
      have hln : (l.length : Int) ≤ n := by omega
      by_cases hl0 : l.length = 0
      · have hbb : decide (0 < l.length) = false := by simp [hl0]
        have hl00 := hide hl0
        clear hl0
        go_wp2_with fail
        go_ret
        exact ⟨l, A, c, rfl, hown, hln, ho.mono (by omega)⟩
      · have hl1 : 0 < l.length := by omega
        clear hl0
        go_wp2_with fail
        refine (flip_any b (N + k) _ _ ho.2 (by omega) (by omega)).mono ?_
        rintro e w2 ⟨f, rfl, ho2⟩
        have hown2 := hown.s ho2 hbw
        have hoA := ho.trans ho2
        cases f
        · go_wp2_with fail
          go_ret
          exact ⟨l, A, c, rfl, hown2, hln, hoA.mono (by omega)⟩
        · obtain ⟨g, rfl, hg0, hg1⟩ := hown2.shape hl1
          go_wp2_with fail
          refine (next_any b (N + k + 1) _ _ hoA.2 (by omega) (by omega)).mono ?_
          rintro e w3 ⟨r, rfl, ⟨hr0, hr1⟩, ho3⟩
          obtain ⟨i, rfl⟩ := Int.eq_ofNat_of_zero_le hr0
          have hown3 := hown2.s ho3 hbw
          have hoB := hoA.trans ho3
          go_wp2_with fail
          refine (pick_any b (N + k + 1 + 1) _ _ _ [-1, n, 0] _ (hoB.2.pure (gr_alloc (World.grownBy.refl _ _) _)) (by omega) (sl_intsAt _ _ _ _ _ (by simp) (by have := hoB.lt; omega) (by simp [maxLen])) rfl (by simp)).mono ?_
          rintro e w4 ⟨a1, rfl, ha1, ho4⟩
          have hown4 := (hown3.pure (gr_alloc (World.grownBy.refl _ _) _)).s ho4 hbw
          have hoC := (hoB.pure (gr_alloc (World.grownBy.refl _ _) _)).trans ho4
          have hil : i < l.length := by omega
          have f0 := hown4.frozen i
          have k0 := hown4.cell_int hil
          have hset := hide (hown4.set_int i a1)
          have hgr := hide (gr_set (p := ⟨g, i, none⟩) (World.grownBy.refl w4 (some g)) (.inl rfl) (.int .i64 a1))
          clear hown hown2 hown3 hown4
          go_wp2_with fail
          go_ret
          refine ⟨l.set i a1, _, c, ?_, hset.out, ?_, gr_new hoC.1 hgr.out hg0, ?_⟩
          · rw [List.length_set]; rfl
          · rw [List.length_set]; exact hln
          · exact (hoC.2.gr hgr.out (fun g' e => by cases e; omega)).mono (by omega)

end Go.Proofs.Ytdamjdhioipmeaa

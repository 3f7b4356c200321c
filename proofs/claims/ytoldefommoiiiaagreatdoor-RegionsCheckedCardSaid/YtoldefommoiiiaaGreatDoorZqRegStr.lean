/- Contracts of functions that this seat's laws reach, each: what one call returns and what it leaves in memory; no condition beyond each theorem's own hypotheses. -/
import Derived.Test.YtoldefommoiiiaaGreatDoorZqRegGenB
import Derived.Test.YtoldefommoiiiaaGreatDoorZqRegTxB
import Derived.Test.YtoldefommoiiiaaGreatDoorZqChgA
import Derived.Test.YtoldefommoiiiaaGreatDoorZqFlowB
set_option linter.unusedVariables false
set_option linter.unusedSimpArgs false
namespace Go.Proofs.YtoldefommoiiiaaGreatDoor
open Go Go.RowKit Go.Bl

/-- a region that is right, of new memory -/
def RReg (b : Nat) (N : Int) (w : World) (e : Ending) (w' : World) : Prop := ∃ (A : Option Addr) (c : Nat) (rs : List (List Pt)), e = .returned (.slice A rs.length c) ∧ Sl w' w.heap.size A rs ∧ rs.length ≤ c ∧ regF rs = 0 ∧ SOut b (N + 700) w w'

set_option maxHeartbeats 4000000 in
set_option maxRecDepth 100000 in
theorem rightRegion_any (b : Nat) (N : Int) (w : World) (hs : Strm w b N) (hN : N ≤ 1000000) :
    Calls Tryz.prog 18 #[.pointer (some ⟨b, 0, none⟩)] w (RReg b N w) := by
  have hbw := hs.lt
  go_enter Tryz.func18, Tryz.ntmps18
  go_wp2_with fail
  go_loopw [4] (fun i wr => ∃ k : Nat, k ≤ 6 ∧ i = .int .i64 k ∧ SOut b (N + 100 * k) w wr) (fun i _ => 6 - (intOf i).toNat)
  case atStart => exact ⟨0, by omega, rfl, (SOut.refl hs).mono (by omega)⟩
  case round =>
    obtain ⟨k, hk, rfl, ho⟩ := hrel
    by_cases hlt : k < 6
    · go_wp2_with fail
      refine (aRegion_any b _ wr ho.2 (by omega)).mono ?_
      rintro e w1 ⟨A, c, rs, rfl, hO, hc, hl3, h6, ho1⟩
      have hsz := ho.size
      replace ho := ho.trans ho1
      have hl := hO.sl.mono hsz
      clear ho1 hO
      have hF := regionFault_any A c rs w1 (hl.mono (Nat.zero_le _)) (Nat.le_trans (flat_small h6) (by omega)) hc
      by_cases hz : regF rs = 0
      · have hz2 := hide hz
        rw [hz] at hF
        clear hz
        replace hc := hide hc
        go_wp2_with fail
        refine hF.mono ?_
        rintro e w2 ⟨rfl, h1⟩
        go_wp2_with fail
        go_ret
        exact ⟨A, c, rs, rfl, hl.pure h1, hc.out, hz2.out, (ho.pure h1).mono (by omega)⟩
      · have hb : (regF rs == 0) = false := by simp [hz]
        generalize regF rs = F at *
        clear hz
        go_wp2_with fail
        refine hF.mono ?_
        rintro e w2 ⟨rfl, h1⟩
        go_wp2_with fail
        (go_roundw; (case rel => exact ⟨k + 1, by omega, by go_num, (ho.pure h1).mono (by push_cast; omega)⟩); (case measure => simp [intOf]; omega))
    · go_wp2_with fail
      go_ret
      exact ⟨none, 0, [], rfl, Sl.nil, Nat.le_refl _, by decide, ho.mono (by omega)⟩

set_option maxHeartbeats 4000000 in
theorem regionString_any (b : Nat) (N : Int) (w : World) (hs : Strm w b N) (hN : N ≤ 900000) (hT : Tab w) (hb : TabLt b) :
    Calls Tryz.prog 13 #[.pointer (some ⟨b, 0, none⟩)] w fun e w' => ∃ t : ByteArray, e = .returned (.string t) ∧ t.size ≤ 120000 ∧ SOut b (N + 7000) w w' := by
  have hR := rightRegion_any b N w hs (by omega)
  go_enter Tryz.func13, Tryz.ntmps13
  go_wp2_with fail
  refine hR.mono ?_
  rintro e w1 ⟨A1, c1, rs, rfl, hl, -, hrF, ho1⟩
  clear hR
  have htx := regText_len hrF
  have hP := regLines_any A1 c1 rs w1 (hl.mono (Nat.zero_le _)) hrF (Tab.s hT ho1 hb)
  obtain ⟨T, hTe⟩ : ∃ T, mkB (regText rs) = T := ⟨_, rfl⟩
  rw [hTe] at hP
  have hTs : T.size ≤ 110000 := by rw [← hTe]; exact htx
  clear hTe htx hrF
  go_wp2_with fail
  refine hP.mono ?_
  rintro e w2 ⟨rfl, hg2⟩
  clear hP
  have ho2 := ho1.pure hg2
  go_wp2_with fail
  refine (pick_any b (N + 6000) _ _ _ [0, 0, 1, 2] _ ((ho2.2.mono (by omega)).pure (gr_alloc (World.grownBy.refl _ _) _)) (by omega) (sl_intsAt _ _ _ _ _ (by first | rfl | simp) (by have := ho2.lt; omega) (by simp [maxLen])) rfl (by simp)).mono ?_
  rintro e w3 ⟨r, rfl, hr, ho3⟩
  obtain ⟨m, rfl, hm⟩ : ∃ m : Nat, r = m ∧ m ≤ 2 := by
    simp only [List.mem_cons, List.not_mem_nil, or_false] at hr
    exact ⟨r.toNat, by omega, by omega⟩
  clear hr
  have ho4 := (ho2.al _).trans ho3
  clear ho3
  go_wp2_with fail
  go_loopw [3, 10] (fun o i wr => ∃ (k : Nat) (t : ByteArray), k ≤ m ∧ i = .int .i64 k ∧ o = .string t ∧ t.size ≤ 110000 + 104 * k ∧ SOut b (N + 6001 + 3 * k) w wr) (fun _ i _ => m - (intOf i).toNat)
  case atStart => exact ⟨0, T, Nat.zero_le _, rfl, rfl, by omega, ho4.mono (by omega)⟩
  case round =>
    obtain ⟨k, t, hk, rfl, rfl, ht, ho⟩ := hrel
    by_cases hlt : k < m
    · have hC := changed_any b (N + 6001 + 3 * k) t ⟨#[32, 10, 48, 49, 114, 45]⟩ wr ho.2 (by omega) (by omega) (by decide)
      go_wp2_with fail
      refine hC.mono ?_
      rintro e w5 ⟨t2, rfl, ht2, ho5⟩
      clear hC
      have ho6 := ho.trans ho5
      go_wp2_with fail
      (go_roundw; (case rel => exact ⟨k + 1, t2, by omega, by go_num, rfl, by omega, ho6.mono (by omega)⟩); (case measure => simp [intOf]; omega))
    · go_wp2_with fail
      go_ret
      exact ⟨t, rfl, by omega, ho.mono (by omega)⟩

set_option maxHeartbeats 1600000 in
theorem equalRing_same (A : Option Addr) (c : Nat) (l : List Pt) (B : Option Addr) (d : Nat) (w : World) (hl : Sl w 0 A l) (hm : Sl w 0 B l) :
    Calls Tryz.prog 57 #[.slice A l.length c, .slice B l.length d] w fun e w' => e = .returned (.bool true) ∧ w.grownBy w' none := by
  have hm1 := hl.1
  unfold maxLen at hm1
  have hb : ((l.length : Int) != l.length) = false := by simp
  go_enter Tryz.func57, Tryz.ntmps57
  go_wp2
  go_loopw [13] (fun i wr => ∃ k : Nat, k ≤ l.length ∧ i = .int .i64 k ∧ w.grownBy wr none) (fun i _ => l.length - (intOf i).toNat)
  case atStart => exact ⟨0, Nat.zero_le _, rfl, World.grownBy.refl _ _⟩
  case round =>
    obtain ⟨k, hk, rfl, hg⟩ := hrel
    by_cases hlt : k < l.length
    · obtain ⟨g, o, cx, rfl, hb0, hb1, rfl, hc⟩ := (hl.pure hg).at_ (by decide) hlt
      have c0 : wr.cell? ⟨g, o + k * 2, none⟩ = some (.int .i64 l[k].x) := hc 0 _ rfl
      have c1 : wr.cell? ⟨g, o + k * 2 + 1, none⟩ = some (.int .i64 l[k].y) := hc 1 _ rfl
      obtain ⟨g2, o2, cx, rfl, hb2, hb3, rfl, hc2⟩ := (hm.pure hg).at_ (by decide) hlt
      have d0 : wr.cell? ⟨g2, o2 + k * 2, none⟩ = some (.int .i64 l[k].x) := hc2 0 _ rfl
      have d1 : wr.cell? ⟨g2, o2 + k * 2 + 1, none⟩ = some (.int .i64 l[k].y) := hc2 1 _ rfl
      clear hc hc2
      have hi0 : (0 : Int) ≤ (k : Int) ∧ (k : Int) < l.length := by omega
      generalize l[k] = q at *
      go_wp2_with fail
      go_quiet (fail)
      go_wp2
      go_roundw
      case rel => exact ⟨k + 1, by omega, by go_num, gr_drewN hg _⟩
      case measure => simp [intOf]; omega
    · go_wp2
      go_ret
      exact ⟨rfl, hg⟩

set_option maxHeartbeats 1600000 in
theorem sameRegion_same (A : Option Addr) (c : Nat) (l : List (List Pt)) (B : Option Addr) (d : Nat) (w : World) (hl : Sl w 0 A l) (hm : Sl w 0 B l) :
    Calls Tryz.prog 16 #[.slice A l.length c, .slice B l.length d] w fun e w' => e = .returned (.bool true) ∧ w.grownBy w' none := by
  have hEF : Calls Tryz.prog 56 #[.slice A l.length c, .slice B l.length d, .func (.func 57) #[] #[]] w fun e w' => e = .returned (.bool true) ∧ w.grownBy w' none := by
    have hm1 := hl.1
    unfold maxLen at hm1
    go_enter Tryz.func56, Tryz.ntmps56
    go_wp2
    go_loopw [17] (fun i wr => ∃ k : Nat, k ≤ l.length ∧ i = .int .i64 k ∧ w.grownBy wr none) (fun i _ => l.length - (intOf i).toNat)
    case atStart => exact ⟨0, Nat.zero_le _, rfl, World.grownBy.refl _ _⟩
    case round =>
      obtain ⟨k, hk, rfl, hg⟩ := hrel
      by_cases hlt : k < l.length
      · obtain ⟨g, o, A', c', rfl, hb1, c0, hcp, hpts⟩ := sl_inner' hl hlt
        obtain ⟨g2, o2, A2, c2', rfl, hb3, d0, hcp2, hpts2⟩ := sl_inner' hm hlt
        replace c0 := hg.k c0
        replace d0 := hg.k d0
        have hi0 : (0 : Int) ≤ (k : Int) ∧ (k : Int) < l.length := by omega
        have hE := equalRing_same A' c' l[k] A2 c2' wr (hpts.pure hg) (hpts2.pure hg)
        replace hcp := hide hcp
        replace hcp2 := hide hcp2
        generalize l[k] = q at *
        go_wp2_with fail
        refine hE.mono ?_
        rintro e w10 ⟨rfl, hg10⟩
        go_wp2_with fail
        (go_roundw; (case rel => exact ⟨k + 1, by omega, by go_num, hg.t hg10⟩); (case measure => simp [intOf]; omega))
      · go_wp2
        go_ret
        exact ⟨rfl, hg⟩
  go_enter Tryz.func16, Tryz.ntmps16
  go_wp2_with fail
  refine hEF.mono ?_
  rintro e w1 ⟨rfl, hg⟩
  go_wp2_with fail
  go_ret
  exact ⟨rfl, hg⟩

end Go.Proofs.YtoldefommoiiiaaGreatDoor

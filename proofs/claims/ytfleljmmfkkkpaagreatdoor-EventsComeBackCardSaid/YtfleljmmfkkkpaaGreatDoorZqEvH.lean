/- Contracts of functions that this seat's laws reach, each: what one call returns and what it leaves in memory; no condition beyond each theorem's own hypotheses. -/
import Derived.Test.YtfleljmmfkkkpaaGreatDoorZqEvC
import Derived.Test.YtfleljmmfkkkpaaGreatDoorZqEvE
import Derived.Test.YtfleljmmfkkkpaaGreatDoorZqEvF
import Derived.Test.YtfleljmmfkkkpaaGreatDoorZqEvG
import Derived.Test.YtfleljmmfkkkpaaGreatDoorZqChgA
import Derived.Test.YtfleljmmfkkkpaaGreatDoorZqTabS
set_option linter.unusedVariables false
set_option linter.unusedSimpArgs false
namespace Go.Proofs.YtfleljmmfkkkpaaGreatDoor
open Go Go.RowKit Go.Bl

def evP : List Prn := [⟨⟨#[112, 49]⟩, ⟨#[112, 108, 97]⟩⟩, ⟨⟨#[112, 50]⟩, ⟨#[112, 101, 116]⟩⟩]

theorem evP_ok : prnsF evP = 0 := by decide +kernel

theorem evP_key : ∀ x ∈ evP, keyB x.key = true := by decide

/-- printers and right events -/
def REv (b : Nat) (N : Int) (w : World) (e : Ending) (w' : World) : Prop := ∃ (l : List Ev) (P A : Option Addr) (c : Nat), e = .returned (.tuple #[.slice P 2 2, .slice A l.length c]) ∧ Sl w' (b + 1) A l ∧ l.length ≤ 16 ∧ l.length ≤ c ∧ evsF l = 0 ∧ SOut b (N + 800) w w'

set_option maxHeartbeats 2000000 in
set_option maxRecDepth 100000 in
theorem rightEvents_any (b : Nat) (N : Int) (w : World) (hs : Strm w b N) (hN : N ≤ 900000000) :
    Calls Tryz.prog 4 #[.pointer (some ⟨b, 0, none⟩)] w (REv b N w) := by
  have hbw := hs.lt
  have ho0 := (SOut.refl hs).al (.cells #[.string ⟨#[112, 49]⟩, .string ⟨#[112, 108, 97]⟩, .string ⟨#[112, 50]⟩, .string ⟨#[112, 101, 116]⟩] 42)
  have hp0 : Sl (w.alloc (.cells #[.string ⟨#[112, 49]⟩, .string ⟨#[112, 108, 97]⟩, .string ⟨#[112, 50]⟩, .string ⟨#[112, 101, 116]⟩] 42)) (b + 1) (some ⟨w.heap.size, 0, none⟩) evP :=
    sl_lit w (b + 1) [.string ⟨#[112, 49]⟩, .string ⟨#[112, 108, 97]⟩, .string ⟨#[112, 50]⟩, .string ⟨#[112, 101, 116]⟩] _ evP (by omega) (by simp [maxLen, evP]) ⟨_, _, rfl, rfl, _, [], rfl, rfl, rfl⟩
  obtain ⟨pl, hple⟩ : ∃ p, evP = p := ⟨_, rfl⟩
  have hp2 : Hid (pl.length = 2) := by rw [Hid, ← hple]; rfl
  have hpf : Hid (prnsF pl = 0) := by rw [Hid, ← hple]; exact evP_ok
  have hpk : Hid (∀ x ∈ pl, keyB x.key = true) := by rw [Hid, ← hple]; exact evP_key
  rw [hple] at hp0
  clear hple
  go_enter Tryz.func4, Tryz.ntmps4
  go_wp2_with fail
  generalize w.heap.size = g0 at hp0 ⊢
  generalize w.alloc (.cells #[.string ⟨#[112, 49]⟩, .string ⟨#[112, 108, 97]⟩, .string ⟨#[112, 50]⟩, .string ⟨#[112, 101, 116]⟩] 42) = w1 at *
  go_loopw [9] (fun i wr => ∃ k : Nat, k ≤ 6 ∧ i = .int .i64 k ∧ SOut b (N + 120 * k) w wr ∧ Sl wr (b + 1) (some ⟨g0, 0, none⟩) pl) (fun i _ => 6 - (intOf i).toNat)
  case atStart => exact ⟨0, by omega, rfl, ho0.mono (by omega), hp0⟩
  case round =>
    clear ho0 hp0
    obtain ⟨k, hk, rfl, ho, hp⟩ := hrel
    by_cases hlt : k < 6
    · go_wp2_with fail
      refine (eventList_any b _ wr ho.2 (by omega)).mono ?_
      rintro e w2 ⟨l, A, c, rfl, hl, hl16, hlc, ho2⟩
      have hpz := hp.s ho2 (by simp)
      replace ho := ho.trans ho2
      clear ho2 hp
      have hF := eventsFault_any (some ⟨g0, 0, none⟩) 2 pl A c l w2 (hpz.mono (Nat.zero_le _)) hpf.out (hl.mono (Nat.zero_le _))
      rw [hp2.out] at hF
      by_cases hz : ersF pl l = 0
      · have hz2 := hide (ersF_zero hpk.out hz)
        rw [hz] at hF
        clear hz
        go_wp2_with fail
        refine hF.mono ?_
        rintro e w3 ⟨rfl, h1⟩
        go_wp2_with fail
        go_ret2
        exact ⟨l, some ⟨g0, 0, none⟩, A, c, rfl, hl.pure h1, hl16, hlc, hz2.out, (ho.pure h1).mono (by omega)⟩
      · have hb : (ersF pl l == 0) = false := by simp [hz]
        generalize ersF pl l = F at *
        clear hz
        go_wp2_with fail
        refine hF.mono ?_
        rintro e w3 ⟨rfl, h1⟩
        go_wp2_with fail
        (go_roundw; (case rel => exact ⟨k + 1, by omega, by go_num, (ho.pure h1).mono (by push_cast; omega), hpz.pure h1⟩); (case measure => simp [intOf]; omega))
    · go_wp2_with fail
      go_ret2
      exact ⟨[], some ⟨g0, 0, none⟩, none, 0, rfl, Sl.nil, by simp, Nat.le_refl _, by decide, ho.mono (by omega)⟩

set_option maxHeartbeats 2000000 in
set_option maxRecDepth 100000 in
theorem eventString_any (b : Nat) (N : Int) (w : World) (hs : Strm w b N) (hN : N ≤ 900000) (hT : Tab w) (hb : TabLt b) :
    Calls Tryz.prog 8 #[.pointer (some ⟨b, 0, none⟩)] w fun e w' => ∃ t : ByteArray, e = .returned (.string t) ∧ t.size ≤ 3000 ∧ SOut b (N + 7000) w w' := by
  have hR := rightEvents_any b N w hs (by omega)
  go_enter Tryz.func8, Tryz.ntmps8
  go_wp2_with fail
  refine hR.mono ?_
  rintro e w1 ⟨l, P1, A1, c1, rfl, hl, hl16, hlc, hF0, ho1⟩
  clear hR
  have hl0 := hl.mono (Nat.zero_le _)
  have hm := hl.1
  unfold maxLen at hm
  have hok : ∀ d ∈ l.take 6, EvOk d := fun d hd => (evsF_zero hF0).2 d (List.mem_of_mem_take hd)
  have htl := evText_len hok
  have htl2 : (l.take 6).length ≤ 6 := by rw [List.length_take]; omega
  have hlt5 : (l.take 6).length = (min (l.length : Int) 6).toNat := by rw [List.length_take]; omega
  have hP := fun wx (hx : w1.grownBy wx none) => evLines_any A1 c1 (l.take 6) wx ((hl0.take 6).pure hx) hok (by omega) ((Tab.s hT ho1 hb).gr hx)
  rw [hlt5] at hP
  obtain ⟨T, hTe⟩ : ∃ T, mkB (evText (l.take 6)) = T := ⟨_, rfl⟩
  rw [hTe] at hP
  have hTs : T.size ≤ 2000 := by rw [← hTe, mkB_size]; omega
  clear hTe htl htl2
  replace hok := hide hok
  replace hF0 := hide hF0
  replace hlt5 := hide hlt5
  go_wp2_with fail
  refine (hP _ (World.grownBy.refl _ _)).mono ?_
  rintro e w2 ⟨rfl, hg2⟩
  clear hP
  have ho2 := ho1.pure hg2
  go_wp2_with fail
  refine (pick_any b (N + 800) _ _ _ [0, 0, 1, 2] _ (ho2.2.pure (gr_alloc (World.grownBy.refl _ _) _)) (by omega) (sl_intsAt _ _ _ _ _ (by first | rfl | simp) (by have := ho2.lt; omega) (by simp [maxLen])) rfl (by simp)).mono ?_
  rintro e w3 ⟨r, rfl, hr, ho3⟩
  obtain ⟨m, rfl, hm⟩ : ∃ m : Nat, r = m ∧ m ≤ 2 := by
    simp only [List.mem_cons, List.not_mem_nil, or_false] at hr
    exact ⟨r.toNat, by omega, by omega⟩
  clear hr
  have ho4 := (ho2.al _).trans ho3
  clear ho3
  go_wp2_with fail
  go_loopw [5, 20] (fun o i wr => ∃ (k : Nat) (t : ByteArray), k ≤ m ∧ i = .int .i64 k ∧ o = .string t ∧ t.size ≤ 2000 + 104 * k ∧ SOut b (N + 801 + 3 * k) w wr) (fun _ i _ => m - (intOf i).toNat)
  case atStart => exact ⟨0, T, Nat.zero_le _, rfl, rfl, by omega, ho4.mono (by omega)⟩
  case round =>
    obtain ⟨k, t, hk, rfl, rfl, ht, ho⟩ := hrel
    by_cases hlt : k < m
    · have hC := changed_any b (N + 801 + 3 * k) t ⟨#[32, 10, 48, 49, 115, 100, 45]⟩ wr ho.2 (by omega) (by omega) (by decide)
      go_wp2_with fail
      refine hC.mono ?_
      rintro e w5 ⟨t2, rfl, ht2, ho5⟩
      clear hC
      have ho6 := ho.trans ho5
      go_wp2_with fail
      (go_roundw; (case rel => exact ⟨k + 1, t2, by omega, by go_num, rfl, by omega, ho6.mono (by omega)⟩); (case measure => simp [intOf]; omega))
    · go_wp2_with fail
      go_ret
      exact ⟨t, rfl, by omega, ho.mono (by omega)⟩

set_option maxHeartbeats 1600000 in
theorem sameEv_any (A : Option Addr) (c : Nat) (l : List Ev) (B : Option Addr) (d : Nat) (w : World) (hl : Sl w 0 A l) (hm : Sl w 0 B l) :
    Calls Tryz.prog 7 #[.slice A l.length c, .slice B l.length d] w fun e w' => e = .returned (.bool true) ∧ w.grownBy w' none := by
  have hm1 := hl.1
  unfold maxLen at hm1
  have hb : ((l.length : Int) != l.length) = false := by simp
  go_enter Tryz.func7, Tryz.ntmps7
  go_wp2
  go_loopw [13] (fun i wr => ∃ k : Nat, k ≤ l.length ∧ i = .int .i64 k ∧ w.grownBy wr none) (fun i _ => l.length - (intOf i).toNat)
  case atStart => exact ⟨0, Nat.zero_le _, rfl, World.grownBy.refl _ _⟩
  case round =>
    obtain ⟨k, hk, rfl, hg⟩ := hrel
    by_cases hlt : k < l.length
    · obtain ⟨g, o, cx, rfl, hb0, hb1, rfl, hc⟩ := (hl.pure hg).at_ (by decide) hlt
      have c0 : wr.cell? ⟨g, o + k * 5, none⟩ = some (.int .i64 l[k].at_) := hc 0 _ rfl
      have c1 : wr.cell? ⟨g, o + k * 5 + 1, none⟩ = some (.int .i64 l[k].kind) := hc 1 _ rfl
      have c2 : wr.cell? ⟨g, o + k * 5 + 2, none⟩ = some (.string l[k].pr) := hc 2 _ rfl
      have c3 : wr.cell? ⟨g, o + k * 5 + 3, none⟩ = some (.string l[k].job) := hc 3 _ rfl
      have c4 : wr.cell? ⟨g, o + k * 5 + 4, none⟩ = some (.string l[k].mat) := hc 4 _ rfl
      obtain ⟨g2, o2, cx, rfl, hb2, hb3, rfl, hc2⟩ := (hm.pure hg).at_ (by decide) hlt
      have d0 : wr.cell? ⟨g2, o2 + k * 5, none⟩ = some (.int .i64 l[k].at_) := hc2 0 _ rfl
      have d1 : wr.cell? ⟨g2, o2 + k * 5 + 1, none⟩ = some (.int .i64 l[k].kind) := hc2 1 _ rfl
      have d2 : wr.cell? ⟨g2, o2 + k * 5 + 2, none⟩ = some (.string l[k].pr) := hc2 2 _ rfl
      have d3 : wr.cell? ⟨g2, o2 + k * 5 + 3, none⟩ = some (.string l[k].job) := hc2 3 _ rfl
      have d4 : wr.cell? ⟨g2, o2 + k * 5 + 4, none⟩ = some (.string l[k].mat) := hc2 4 _ rfl
      clear hc hc2
      have hi0 : (0 : Int) ≤ (k : Int) ∧ (k : Int) < l.length := by omega
      generalize l[k] = q at *
      go_wp2_with fail
      go_quiet (fail)
      go_wp2
      go_roundw
      case rel => exact ⟨k + 1, by omega, by go_num, gr_drewN hg _⟩
      case measure => simp [intOf]; omega
    · go_wp2
      go_ret
      exact ⟨rfl, hg⟩

end Go.Proofs.YtfleljmmfkkkpaaGreatDoor

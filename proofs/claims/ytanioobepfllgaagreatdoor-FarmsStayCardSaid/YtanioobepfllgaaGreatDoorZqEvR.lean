/- Contracts of functions that this seat's laws reach, each: what one call returns and what it leaves in memory; no condition beyond each theorem's own hypotheses. -/
import Derived.Test.YtanioobepfllgaaGreatDoorZqPrnBin
import Derived.Test.YtanioobepfllgaaGreatDoorZqEvG
set_option linter.unusedVariables false
set_option linter.unusedSimpArgs false
namespace Go.Proofs.YtanioobepfllgaaGreatDoor
open Go Go.RowKit Go.Bl

def evQ : List Prn := [⟨⟨#[112, 49]⟩, ⟨#[112, 108, 97]⟩⟩, ⟨⟨#[112, 50]⟩, ⟨#[112, 101, 116]⟩⟩]

theorem evQ_ok : prnsF evQ = 0 := by decide +kernel

theorem evQ_key : ∀ x ∈ evQ, keyB x.key = true := by decide

/-- printers and right events -/
def REv2 (b : Nat) (N : Int) (w : World) (e : Ending) (w' : World) : Prop := ∃ (l : List Ev) (P A : Option Addr) (c : Nat), e = .returned (.tuple #[.slice P 2 2, .slice A l.length c]) ∧ Sl w' (b + 1) A l ∧ l.length ≤ 16 ∧ l.length ≤ c ∧ ersF evQ l = 0 ∧ Sl w' (b + 1) P evQ ∧ SOut b (N + 800) w w'

set_option maxHeartbeats 2000000 in
set_option maxRecDepth 100000 in
theorem rightEv2_any (b : Nat) (N : Int) (w : World) (hs : Strm w b N) (hN : N ≤ 900000000) :
    Calls Tryz.prog 23 #[.pointer (some ⟨b, 0, none⟩)] w (REv2 b N w) := by
  have hbw := hs.lt
  have ho0 := (SOut.refl hs).al (.cells #[.string ⟨#[112, 49]⟩, .string ⟨#[112, 108, 97]⟩, .string ⟨#[112, 50]⟩, .string ⟨#[112, 101, 116]⟩] 46)
  have hp0 : Sl (w.alloc (.cells #[.string ⟨#[112, 49]⟩, .string ⟨#[112, 108, 97]⟩, .string ⟨#[112, 50]⟩, .string ⟨#[112, 101, 116]⟩] 46)) (b + 1) (some ⟨w.heap.size, 0, none⟩) evQ :=
    sl_lit w (b + 1) [.string ⟨#[112, 49]⟩, .string ⟨#[112, 108, 97]⟩, .string ⟨#[112, 50]⟩, .string ⟨#[112, 101, 116]⟩] _ evQ (by omega) (by simp [maxLen, evQ]) ⟨_, _, rfl, rfl, _, [], rfl, rfl, rfl⟩
  obtain ⟨pl, hple⟩ : ∃ p, evQ = p := ⟨_, rfl⟩
  have hpq : Hid (evQ = pl) := hple
  have hp2 : Hid (pl.length = 2) := by rw [Hid, ← hple]; rfl
  have hpf : Hid (prnsF pl = 0) := by rw [Hid, ← hple]; exact evQ_ok
  have hpk : Hid (∀ x ∈ pl, keyB x.key = true) := by rw [Hid, ← hple]; exact evQ_key
  rw [hple] at hp0
  clear hple
  go_enter Tryz.func23, Tryz.ntmps23
  go_wp2_with fail
  generalize w.heap.size = g0 at hp0 ⊢
  generalize w.alloc (.cells #[.string ⟨#[112, 49]⟩, .string ⟨#[112, 108, 97]⟩, .string ⟨#[112, 50]⟩, .string ⟨#[112, 101, 116]⟩] 46) = w1 at *
  go_loopw [9] (fun i wr => ∃ k : Nat, k ≤ 6 ∧ i = .int .i64 k ∧ SOut b (N + 120 * k) w wr ∧ Sl wr (b + 1) (some ⟨g0, 0, none⟩) pl) (fun i _ => 6 - (intOf i).toNat)
  case atStart => exact ⟨0, by omega, rfl, ho0.mono (by omega), hp0⟩
  case round =>
    clear ho0 hp0
    obtain ⟨k, hk, rfl, ho, hp⟩ := hrel
    by_cases hlt : k < 6
    · go_wp2_with fail
      refine (eventList_any b _ wr ho.2 (by omega)).mono ?_
      rintro e w2 ⟨l, A, c, rfl, hl, hl16, hlc, ho2⟩
      have hpz := hp.s ho2 (by simp)
      replace ho := ho.trans ho2
      clear ho2 hp
      have hF := eventsFault_any (some ⟨g0, 0, none⟩) 2 pl A c l w2 (hpz.mono (Nat.zero_le _)) hpf.out (hl.mono (Nat.zero_le _))
      rw [hp2.out] at hF
      by_cases hz : ersF pl l = 0
      · have hz2 := hide hz
        rw [hz] at hF
        clear hz
        go_wp2_with fail
        refine hF.mono ?_
        rintro e w3 ⟨rfl, h1⟩
        go_wp2_with fail
        go_ret2
        exact ⟨l, some ⟨g0, 0, none⟩, A, c, rfl, hl.pure h1, hl16, hlc, by rw [hpq.out]; exact hz2.out, by rw [hpq.out]; exact hpz.pure h1, (ho.pure h1).mono (by omega)⟩
      · have hb : (ersF pl l == 0) = false := by simp [hz]
        generalize ersF pl l = F at *
        clear hz
        go_wp2_with fail
        refine hF.mono ?_
        rintro e w3 ⟨rfl, h1⟩
        go_wp2_with fail
        (go_roundw; (case rel => exact ⟨k + 1, by omega, by go_num, (ho.pure h1).mono (by push_cast; omega), hpz.pure h1⟩); (case measure => simp [intOf]; omega))
    · go_wp2_with fail
      go_ret2
      exact ⟨[], some ⟨g0, 0, none⟩, none, 0, rfl, Sl.nil, by simp, Nat.le_refl _, rfl, by rw [hpq.out]; exact hp, ho.mono (by omega)⟩

end Go.Proofs.YtanioobepfllgaaGreatDoor

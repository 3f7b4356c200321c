/- Contracts of functions that this seat's laws reach, each: what one call returns and what it leaves in memory; no condition beyond each theorem's own hypotheses. -/
import Derived.Test.YtncplpbnhlodaaaGreatDoorMSpoolR
import Derived.Test.YtncplpbnhlodaaaGreatDoorMDrawD
import Derived.Test.YtncplpbnhlodaaaGreatDoorMFlowE
set_option linter.unusedVariables false
set_option linter.unusedSimpArgs false
namespace Go.Proofs.YtncplpbnhlodaaaGreatDoor
open Go Go.RowKit Go.Bl

def leftL (s : List Spl) (d : List Drw) (at_ : Int) : List Int := if drwsF s d = 0 ∧ momO at_ = false then (follW s d (cutK d at_)).1 else []

def oneF (s : List Spl) (d : List Drw) (at_ : Int) : Int := if drwsF s d ≠ 0 then drwsF s d else if momO at_ then 1 else 0

def refL (s : List Spl) (d : List Drw) : List Int := if drwsF s d = 0 then (follW s d d.length).2 else []

def txT (d : List Drw) : ByteArray := if txsF d = 0 then mkB (drawText d) else ⟨#[]⟩

theorem oneF_or (s : List Spl) (d : List Drw) (at_ : Int) : orL [drwsF s d, spanF at_ 0 345686399999] = oneF s d at_ := by
  unfold oneF
  by_cases h : drwsF s d = 0
  · rw [if_neg (by simp [h]), h]
    cases hb : outB at_ 0 345686399999 <;> simp [orL, spanF, momO, hb]
  · rw [if_pos h]; simp [orL, h]

set_option maxHeartbeats 1000000 in
theorem leftMom_any (A : Option Addr) (c : Nat) (s : List Spl) (B : Option Addr) (e0 : Nat) (d : List Drw) (at_ : Int) (w : World) (hl : Sl w 0 A s) (hm : Sl w 0 B d) (hf : drwsF s d = 0) (ha : momO at_ = true) :
    Calls Tryz.prog 12 #[.slice A s.length c, .slice B d.length e0, .int .i64 at_] w fun e w' => e = .returned (.tuple #[.slice none 0 0, .int .i64 1]) ∧ w.grownBy w' none := by
  have hD := drawsFault_any A c s B e0 d w hl hm
  rw [hf] at hD
  replace hf := hide hf
  go_enter Tryz.func12, Tryz.ntmps12
  go_wp2_with fail
  refine hD.mono ?_
  rintro e w1 ⟨rfl, hg1⟩
  clear hD
  go_wp2_with (go_at_call 41; refine (isMoment_any _ _).mono ?_; rintro _ _ ⟨rfl, rfl⟩; rw [ha])
  go_ret2
  exact ⟨rfl, hg1⟩

set_option maxHeartbeats 1000000 in
theorem leftNo_any (A : Option Addr) (c : Nat) (s : List Spl) (B : Option Addr) (e0 : Nat) (d : List Drw) (at_ : Int) (w : World) (hl : Sl w 0 A s) (hm : Sl w 0 B d) (hf : drwsF s d ≠ 0) :
    Calls Tryz.prog 12 #[.slice A s.length c, .slice B d.length e0, .int .i64 at_] w fun e w' => e = .returned (.tuple #[.slice none 0 0, .int .i64 (drwsF s d)]) ∧ w.grownBy w' none := by
  have hD := drawsFault_any A c s B e0 d w hl hm
  generalize drwsF s d = F at *
  have hb : (F != 0) = true := by simp [hf]
  clear hf
  go_enter Tryz.func12, Tryz.ntmps12
  go_wp2_with fail
  refine hD.mono ?_
  rintro e w1 ⟨rfl, hg1⟩
  clear hD
  go_wp2_with fail
  go_ret2
  exact ⟨rfl, hg1⟩

set_option maxHeartbeats 1000000 in
theorem refusedNo_any (A : Option Addr) (c : Nat) (s : List Spl) (B : Option Addr) (e0 : Nat) (d : List Drw) (w : World) (hl : Sl w 0 A s) (hm : Sl w 0 B d) (hf : drwsF s d ≠ 0) :
    Calls Tryz.prog 13 #[.slice A s.length c, .slice B d.length e0] w fun e w' => e = .returned (.tuple #[.slice none 0 0, .int .i64 (drwsF s d)]) ∧ w.grownBy w' none := by
  have hD := drawsFault_any A c s B e0 d w hl hm
  generalize drwsF s d = F at *
  have hb : (F != 0) = true := by simp [hf]
  clear hf
  go_enter Tryz.func13, Tryz.ntmps13
  go_wp2_with fail
  refine hD.mono ?_
  rintro e w1 ⟨rfl, hg1⟩
  clear hD
  go_wp2_with fail
  go_ret2
  exact ⟨rfl, hg1⟩

set_option maxHeartbeats 1000000 in
theorem textNo_any (A : Option Addr) (c : Nat) (l : List Drw) (w : World) (hl : Sl w 0 A l) (hp : txsF l ≠ 0) :
    Calls Tryz.prog 17 #[.slice A l.length c] w fun e w' => e = .returned (.tuple #[.string ⟨#[]⟩, .int .i64 (txsF l)]) ∧ w.grownBy w' none := by
  have hC := textFault_any A c l w hl
  generalize txsF l = F at *
  have hb : (F != 0) = true := by simp [hp]
  clear hp
  go_enter Tryz.func17, Tryz.ntmps17
  go_wp2_with fail
  refine hC.mono ?_
  rintro e w1 ⟨rfl, hg1⟩
  clear hC
  go_wp2_with fail
  go_ret2
  exact ⟨rfl, hg1⟩

theorem left_all (A : Option Addr) (c : Nat) (s : List Spl) (B : Option Addr) (e0 : Nat) (d : List Drw) (at_ : Int) (w : World) (hl : Sl w 0 A s) (hm : Sl w 0 B d) :
    Calls Tryz.prog 12 #[.slice A s.length c, .slice B d.length e0, .int .i64 at_] w fun e w' => ∃ A1 c1, e = .returned (.tuple #[.slice A1 (leftL s d at_).length c1, .int .i64 (oneF s d at_)]) ∧ Sl w' 0 A1 (leftL s d at_) ∧ w.grownBy w' none := by
  by_cases hf : drwsF s d = 0
  · rcases ha : momO at_ with _ | _
    · have e1 : leftL s d at_ = (follW s d (cutK d at_)).1 := by unfold leftL; rw [if_pos ⟨hf, ha⟩]
      have e2 : oneF s d at_ = 0 := by unfold oneF; rw [if_neg (by simp [hf]), ha]; rfl
      refine (left_any A c s B e0 d at_ w hl hm hf ha).mono ?_
      rintro e w' ⟨A1, c1, rfl, hO, hg⟩
      rw [e1, e2, (follW_len s d _).1]
      exact ⟨A1, c1, rfl, hO.sl.mono (Nat.zero_le _), hg⟩
    · have e1 : leftL s d at_ = [] := by unfold leftL; rw [if_neg (by rw [ha]; simp)]
      have e2 : oneF s d at_ = 1 := by unfold oneF; rw [if_neg (by simp [hf]), ha]; rfl
      refine (leftMom_any A c s B e0 d at_ w hl hm hf ha).mono ?_
      rintro e w' ⟨rfl, hg⟩
      rw [e1, e2]
      exact ⟨none, 0, rfl, Sl.nil, hg⟩
  · have e1 : leftL s d at_ = [] := by unfold leftL; rw [if_neg (fun h => hf h.1)]
    have e2 : oneF s d at_ = drwsF s d := by unfold oneF; rw [if_pos hf]
    refine (leftNo_any A c s B e0 d at_ w hl hm hf).mono ?_
    rintro e w' ⟨rfl, hg⟩
    rw [e1, e2]
    exact ⟨none, 0, rfl, Sl.nil, hg⟩

theorem refused_all (A : Option Addr) (c : Nat) (s : List Spl) (B : Option Addr) (e0 : Nat) (d : List Drw) (w : World) (hl : Sl w 0 A s) (hm : Sl w 0 B d) :
    Calls Tryz.prog 13 #[.slice A s.length c, .slice B d.length e0] w fun e w' => ∃ A1 c1, e = .returned (.tuple #[.slice A1 (refL s d).length c1, .int .i64 (drwsF s d)]) ∧ Sl w' 0 A1 (refL s d) ∧ w.grownBy w' none := by
  by_cases hf : drwsF s d = 0
  · have e1 : refL s d = (follW s d d.length).2 := by unfold refL; rw [if_pos hf]
    refine (refused_any A c s B e0 d w hl hm hf).mono ?_
    rintro e w' ⟨A1, c1, rfl, hO, hg⟩
    rw [e1, hf]
    exact ⟨A1, c1, rfl, hO.sl.mono (Nat.zero_le _), hg⟩
  · have e1 : refL s d = [] := by unfold refL; rw [if_neg hf]
    refine (refusedNo_any A c s B e0 d w hl hm hf).mono ?_
    rintro e w' ⟨rfl, hg⟩
    rw [e1]
    exact ⟨none, 0, rfl, Sl.nil, hg⟩

theorem leftAt_all (A : Option Addr) (c : Nat) (s : List Spl) (B : Option Addr) (e0 : Nat) (d : List Drw) (at_ : Int) (w : World) (hl : Sl w 0 A s) (hm : Sl w 0 B d) (h0 : oneF s d at_ = 0) :
    Calls Tryz.prog 14 #[.slice A s.length c, .slice B d.length e0, .int .i64 at_] w fun e w' => ∃ A1 c1, e = .returned (.slice A1 (leftL s d at_).length c1) ∧ Sl w' 0 A1 (leftL s d at_) ∧ w.grownBy w' none := by
  have hf : drwsF s d = 0 := by
    unfold oneF at h0
    by_cases hf : drwsF s d = 0
    · exact hf
    · rw [if_pos hf] at h0; exact absurd h0 hf
  have ha : momO at_ = false := by
    unfold oneF at h0
    rw [if_neg (by simp [hf])] at h0
    cases h : momO at_
    · rfl
    · rw [h] at h0; cases h0
  have e1 : leftL s d at_ = (follW s d (cutK d at_)).1 := by unfold leftL; rw [if_pos ⟨hf, ha⟩]
  refine (leftAt_any A c s B e0 d at_ w hl hm hf).mono ?_
  rintro e w' ⟨A1, c1, rfl, hO, hg⟩
  rw [e1, (follW_len s d _).1]
  exact ⟨A1, c1, rfl, hO.sl.mono (Nat.zero_le _), hg⟩

theorem leftL_nil {s : List Spl} {d : List Drw} {at_ : Int} (h0 : oneF s d at_ ≠ 0) : leftL s d at_ = [] := by
  unfold leftL
  rw [if_neg]
  rintro ⟨hf, ha⟩
  exact h0 (by unfold oneF; rw [if_neg (by simp [hf]), ha]; rfl)

theorem refusedDraws_all (A : Option Addr) (c : Nat) (s : List Spl) (B : Option Addr) (e0 : Nat) (d : List Drw) (w : World) (hl : Sl w 0 A s) (hm : Sl w 0 B d) (hf : drwsF s d = 0) :
    Calls Tryz.prog 15 #[.slice A s.length c, .slice B d.length e0] w fun e w' => ∃ A1 c1, e = .returned (.slice A1 (refL s d).length c1) ∧ Sl w' 0 A1 (refL s d) ∧ w.grownBy w' none := by
  have e1 : refL s d = (follW s d d.length).2 := by unfold refL; rw [if_pos hf]
  refine (refusedDraws_any A c s B e0 d w hl hm hf).mono ?_
  rintro e w' ⟨A1, c1, rfl, hO, hg⟩
  rw [e1]
  exact ⟨A1, c1, rfl, hO.sl.mono (Nat.zero_le _), hg⟩

theorem refL_nil {s : List Spl} {d : List Drw} (h0 : drwsF s d ≠ 0) : refL s d = [] := by
  unfold refL
  rw [if_neg h0]

set_option maxHeartbeats 400000 in
theorem momentFault_any (n : Int) (w : World) :
    Calls Tryz.prog 11 #[.int .i64 n] w fun e w' => e = .returned (.int .i64 (spanF n 0 345686399999)) ∧ w = w' := by
  go_enter Tryz.func11, Tryz.ntmps11
  go_wp2_with (go_at_call 39; refine (spanFault_any _ _ _ _).mono ?_; rintro _ _ ⟨rfl, rfl⟩)
  go_ret
  exact ⟨rfl, rfl⟩

set_option maxHeartbeats 400000 in
theorem aClock_any (b : Nat) (N : Int) (w : World) (hs : Strm w b N) (hN : N ≤ 100000000000) :
    Calls Tryz.prog 6 #[.pointer (some ⟨b, 0, none⟩)] w (SInt b (N + 2) (fun r => -1 ≤ r ∧ r ≤ 345686400000) w) := by
  go_enter Tryz.func6, Tryz.ntmps6
  go_wp2_with fail
  refine (pick_any b N _ _ _ [-1, 345686400000, 345686399999] _ (hs.pure (gr_alloc (World.grownBy.refl _ _) _)) (by omega) (sl_ints _ _ _ _ hs.lt (by simp [maxLen])) rfl (by simp)).mono ?_
  rintro e w2 ⟨r, rfl, hr, ho2⟩
  have hr2 : -1 ≤ r ∧ r ≤ 345686400000 := by simp at hr; omega
  clear hr
  go_wp2_with fail
  refine (pick_any b (N + 1) _ _ _ [0, 1, 8, 15, 30, 60, 100, r] _ (ho2.2.pure (gr_alloc (World.grownBy.refl _ _) _)) (by omega) (sl_ints _ _ _ _ ho2.2.lt (by simp [maxLen])) rfl (by simp)).mono ?_
  rintro e w3 ⟨q, rfl, hq, ho3⟩
  go_wp2_with fail
  go_ret
  exact ⟨_, rfl, by simp at hq; omega, gr_trans (gr_alloc (World.grownBy.refl _ _) _) (gr_trans ho2.1 (gr_trans (gr_alloc (World.grownBy.refl _ _) _) ho3.1)), by have := ho3.2; rwa [Int.add_assoc] at this⟩

end Go.Proofs.YtncplpbnhlodaaaGreatDoor

/- Contracts of functions that this seat's laws reach, each: what one call returns and what it leaves in memory; no condition beyond each theorem's own hypotheses. -/
import Derived.Test.YtanioobepfllgaaGreatDoorZqBusData
import Derived.Test.YtanioobepfllgaaGreatDoorZqSpoolE
import Derived.Test.YtanioobepfllgaaGreatDoorZqGreData
import Derived.Test.YtanioobepfllgaaGreatDoorZqSpoolData
set_option linter.unusedVariables false
set_option linter.unusedSimpArgs false
namespace Go.Proofs.YtanioobepfllgaaGreatDoor
open Go Go.RowKit Go.Bl

theorem info_ev : (Tryz.prog.info? 60).map (fun i => (i.zero, i.size, i.bytes)) = some (some (.agg #[.int .i64 0, .int .i64 0, .string ⟨#[]⟩, .string ⟨#[]⟩, .string ⟨#[]⟩]), 5, 64) := by kernel_rfl

theorem emp_iff (s : ByteArray) : s.toList.isEmpty = true ↔ s = ⟨#[]⟩ := by
  rw [Lib.toList_data, List.isEmpty_iff]
  constructor
  · intro h
    cases s with
    | mk d => simp only [ByteArray.mk.injEq]; exact Array.toList_inj.1 h
  · rintro rfl; rfl

theorem neE (s : ByteArray) : decide (s ≠ ⟨#[]⟩) = !s.toList.isEmpty := by
  cases h : s.toList.isEmpty with
  | true => rw [(emp_iff s).1 h]; rfl
  | false =>
    have : s ≠ ⟨#[]⟩ := fun e => by rw [(emp_iff s).2 e] at h; cases h
    rw [decide_eq_true this]; rfl

set_option maxHeartbeats 400000 in
theorem isKind_any (k : Int) (w : World) :
    Calls Tryz.prog 97 #[.int .i64 k] w fun e w' => e = .returned (.bool (!kindO k)) ∧ w = w' := by
  go_enter Tryz.func97, Tryz.ntmps97
  go_wp2_with (go_at_call 62; refine (outside_any _ _ _ _).mono ?_; rintro _ _ ⟨rfl, rfl⟩)
  go_ret
  exact ⟨rfl, rfl⟩

set_option maxHeartbeats 2000000 in
theorem formFault_any (d : Ev) (w : World) :
    Calls Tryz.prog 99 #[.agg #[.int .i64 d.at_, .int .i64 d.kind, .string d.pr, .string d.job, .string d.mat]] w fun e w' => e = .returned (.int .i64 (if formB d then 3 else 0)) ∧ w.grownBy w' none := by
  have HV : Hid (formB d = ((!(d.kind == 1) && !d.job.toList.isEmpty) || (!(d.kind == 4) && !d.mat.toList.isEmpty))) := by rw [Hid, formB, neE, neE]
  generalize hV : (if formB d = true then (3 : Int) else 0) = V
  generalize formB d = F at *
  replace hV := hide hV
  have hn1 : (d.kind != 1) = !(d.kind == 1) := rfl
  have hn4 : (d.kind != 4) = !(d.kind == 4) := rfl
  rcases h1 : (d.kind == 1) with _ | _ <;> rcases h2 : d.job.toList.isEmpty with _ | _ <;> rcases h3 : (d.kind == 4) with _ | _ <;> rcases h4 : d.mat.toList.isEmpty with _ | _ <;>
    (rw [h1, h2, h3, h4] at HV
     rw [h1] at hn1
     rw [h3] at hn4
     go_enter Tryz.func99, Tryz.ntmps99
     go_wp2_with fail
     go_ret
     exact ⟨ret_int (by rw [← hV.out, HV.out]; rfl), (by repeat (first | exact World.grownBy.refl _ _ | assumption | refine gr_alloc ?_ _ | (apply gr_tail; assumption) | refine gr_drewN ?_ _ | refine gr_drew ?_))⟩)

set_option maxHeartbeats 2000000 in
theorem usedFault_any (d : Ev) (w : World) :
    Calls Tryz.prog 100 #[.agg #[.int .i64 d.at_, .int .i64 d.kind, .string d.pr, .string d.job, .string d.mat]] w fun e w' => e = .returned (.int .i64 (if usedB d then 5 else 0)) ∧ w.grownBy w' none := by
  have HV : Hid (usedB d = ((d.kind == 1 && !keyB d.job) || (d.kind == 4 && !keyB d.mat))) := rfl
  generalize hV : (if usedB d = true then (5 : Int) else 0) = V
  generalize usedB d = F at *
  replace hV := hide hV
  have hK1 := hide fun wx => isKey_any d.job wx
  have hK2 := hide fun wx => isKey_any d.mat wx
  have hgb := gr_alloc (World.grownBy.refl w none) (.cells #[.int .i64 d.at_, .int .i64 d.kind, .string d.pr, .string d.job, .string d.mat] 60)
  by_cases h1 : d.kind = 1
  · have e1 : (d.kind == 1) = true := by simp [h1]
    have e4 : (d.kind == 4) = false := by simp [h1]
    rw [e1, e4] at HV
    replace h1 := hide h1
    rcases h2 : keyB d.job with _ | _
    · rw [h2] at HV hK1
      go_enter Tryz.func100, Tryz.ntmps100
      go_wp2_with fail
      refine (hK1.out _).mono ?_
      rintro e w2 ⟨rfl, hg2⟩
      go_wp2_with fail
      go_ret
      exact ⟨ret_int (by rw [← hV.out, HV.out]; rfl), hgb.t hg2⟩
    · rw [h2] at HV hK1
      go_enter Tryz.func100, Tryz.ntmps100
      go_upto_region 1 with fail
      obtain ⟨w1, hw1⟩ : ∃ x, x = (w).alloc (.cells [.int .i64 d.at_, .int .i64 d.kind, .string d.pr, .string d.job, .string d.mat].toArray 60) := ⟨_, rfl⟩
      have hg1 : (w).grownBy w1 none := by rw [hw1]; exact gr_alloc (World.grownBy.refl _ _) _
      have hb1 : Box w1 (w).heap.size 60 [.int .i64 d.at_, .int .i64 d.kind, .string d.pr, .string d.job, .string d.mat] := by rw [hw1]; exact Box.new _ _ _
      have hxs1 := hb1.lt
      rw [← hw1]
      clear hw1
      obtain ⟨x1, hx1⟩ : ∃ x, x = (w).heap.size := ⟨_, rfl⟩
      rw [← hx1] at hb1 hxs1 ⊢
      have hxl1 : (w).heap.size ≤ x1 := by omega
      clear hx1
      obtain ⟨b1, _⟩ := hb1.c 1 rfl
      obtain ⟨b3, _⟩ := hb1.c 3 rfl
      go_wp2_with fail
      refine (hK1.out _).mono ?_
      rintro e w2 ⟨rfl, hg2⟩
      obtain ⟨d1, _⟩ := (hb1.pure hg2).c 1 rfl
      clear b1 b3
      go_wp2_with fail
      go_ret
      exact ⟨ret_int (by rw [← hV.out, HV.out]; rfl), hg1.t hg2⟩
  · have e1 : (d.kind == 1) = false := by simp [h1]
    by_cases h4 : d.kind = 4
    · have e4 : (d.kind == 4) = true := by simp [h4]
      rw [e1, e4] at HV
      replace h1 := hide h1
      replace h4 := hide h4
      rcases h2 : keyB d.mat with _ | _
      · rw [h2] at HV hK2
        go_enter Tryz.func100, Tryz.ntmps100
        go_wp2_with fail
        refine (hK2.out _).mono ?_
        rintro e w2 ⟨rfl, hg2⟩
        go_wp2_with fail
        go_ret
        exact ⟨ret_int (by rw [← hV.out, HV.out]; rfl), hgb.t hg2⟩
      · rw [h2] at HV hK2
        go_enter Tryz.func100, Tryz.ntmps100
        go_wp2_with fail
        refine (hK2.out _).mono ?_
        rintro e w2 ⟨rfl, hg2⟩
        go_wp2_with fail
        go_ret
        exact ⟨ret_int (by rw [← hV.out, HV.out]; rfl), hgb.t hg2⟩
    · have e4 : (d.kind == 4) = false := by simp [h4]
      rw [e1, e4] at HV
      replace h1 := hide h1
      replace h4 := hide h4
      go_enter Tryz.func100, Tryz.ntmps100
      go_wp2_with fail
      go_ret
      exact ⟨ret_int (by rw [← hV.out, HV.out]; rfl), hgb⟩

end Go.Proofs.YtanioobepfllgaaGreatDoor

namespace Go.Proofs.YtanioobepfllgaaGreatDoor
open Go Go.RowKit Go.Bl

def keyIsP (key : ByteArray) (x : Prn) : Bool := decide (x.key = key)

set_option maxHeartbeats 800000 in
theorem prnCl_any (key : ByteArray) (gc : Nat) (f : Prn) (w : World) (hp : w.cell? ⟨gc, 0, none⟩ = some (.string key)) :
    Calls Tryz.prog 95 #[.agg #[.string f.key, .string f.mat], .pointer (some ⟨gc, 0, none⟩)] w fun e w' => e = .returned (.bool (keyIsP key f)) ∧ w.grownBy w' none := by
  have hlt := cell_lt hp
  simp only at hlt
  have hne : gc ≠ w.heap.size := by omega
  by_cases h : f.key = key
  · have HV : Hid (keyIsP key f = true) := by simp [Hid, keyIsP, h]
    have hb : (f.key.toList == key.toList) = true := by simp [h]
    clear h
    go_enter Tryz.func95, Tryz.ntmps95
    go_wp2
    go_ret
    exact ⟨ret_bool HV.out.symm, (by repeat (first | exact World.grownBy.refl _ _ | assumption | refine gr_alloc ?_ _ | (apply gr_tail; assumption) | refine gr_drewN ?_ _ | refine gr_drew ?_))⟩
  · have HV : Hid (keyIsP key f = false) := by simp [Hid, keyIsP, h]
    have hb : (f.key.toList == key.toList) = false := by
      rw [beq_eq_false_iff_ne]; intro e; rw [Lib.toList_data, Lib.toList_data] at e
      exact h (by cases hf : f.key; cases key; rw [hf] at e; simp only [ByteArray.mk.injEq]; exact Array.toList_inj.1 e)
    clear h
    go_enter Tryz.func95, Tryz.ntmps95
    go_wp2
    go_ret
    exact ⟨ret_bool HV.out.symm, (by repeat (first | exact World.grownBy.refl _ _ | assumption | refine gr_alloc ?_ _ | (apply gr_tail; assumption) | refine gr_drewN ?_ _ | refine gr_drew ?_))⟩

set_option maxHeartbeats 800000 in
set_option maxRecDepth 100000 in
theorem indexPrn_any (key : ByteArray) (gc : Nat) (A : Option Addr) (c : Nat) (l : List Prn) (w : World) (hl : Sl w 0 A l) (hp : w.cell? ⟨gc, 0, none⟩ = some (.string key)) :
    Calls Tryz.prog 120 #[.slice A l.length c, .func (.func 95) #[] #[.pointer (some ⟨gc, 0, none⟩)]] w fun e w' => ∃ r : Int, e = .returned (.int .i64 r) ∧ decide (0 ≤ r) = l.any (keyIsP key) ∧ w.grownBy w' none := by
  have hm := hl.1
  unfold maxLen at hm
  go_enter Tryz.func120, Tryz.ntmps120
  go_wp2
  go_loopw [8] (fun i wr => ∃ k : Nat, k ≤ l.length ∧ i = .int .i64 k ∧ w.grownBy wr none ∧ Hid ((l.take k).any (keyIsP key) = false)) (fun i _ => l.length - (intOf i).toNat)
  case atStart => exact ⟨0, Nat.zero_le _, rfl, World.grownBy.refl _ _, by simp [Hid]⟩
  case round =>
    obtain ⟨k, hk, rfl, hg, hall⟩ := hrel
    by_cases hlt : k < l.length
    · obtain ⟨g, o, cx, rfl, hb0, hb1, rfl, hc⟩ := (hl.pure hg).at_ (by decide) hlt
      have c0 : wr.cell? ⟨g, o + k * 2, none⟩ = some (.string l[k].key) := hc 0 _ rfl
      have c1 : wr.cell? ⟨g, o + k * 2 + 1, none⟩ = some (.string l[k].mat) := hc 1 _ rfl
      clear hc
      have HS : Hid ((l.take (k + 1)).any (keyIsP key) = ((l.take k).any (keyIsP key) || (keyIsP key) l[k])) := by rw [Hid, take_snoc hlt, List.any_append]; simp
      have HA : Hid ((keyIsP key) l[k] = true → l.any (keyIsP key) = true) := fun h => List.any_eq_true.2 ⟨_, List.getElem_mem _, h⟩
      have hmem := List.getElem_mem hlt
      have hp' := hg.k hp
      generalize l[k] = f at *
      obtain ⟨bb, hbb⟩ : ∃ bb, (keyIsP key) f = bb := ⟨_, rfl⟩
      have hcon := prnCl_any key gc f wr hp'
      simp only [hbb] at hcon HS HA
      replace hcon := hide hcon
      replace hbb := hide hbb
      replace HS := hide HS
      replace HA := hide HA
      replace hmem := hide hmem
      go_wp2_with fail
      refine (hcon.out).mono ?_
      rintro e w' ⟨rfl, hg'⟩
      cases bb
      · go_wp2_with fail
        (go_roundw; (case rel => exact ⟨k + 1, by omega, by go_num, gr_trans hg hg', by rw [Hid, HS.out, hall.out]; rfl⟩); (case measure => simp [intOf]; omega))
      · have HB := hide (HA.out rfl)
        go_wp2_with fail
        go_ret
        exact ⟨k, rfl, by rw [HB.out]; simp, gr_trans hg hg'⟩
    · have HB : Hid (l.any (keyIsP key) = false) := by have := hall.out; rwa [List.take_of_length_le (by omega)] at this
      go_wp2
      go_ret
      exact ⟨-1, rfl, by rw [HB.out]; rfl, hg⟩

set_option maxHeartbeats 400000 in
theorem containsPrn_any (key : ByteArray) (gc : Nat) (A : Option Addr) (c : Nat) (l : List Prn) (w : World) (hl : Sl w 0 A l) (hp : w.cell? ⟨gc, 0, none⟩ = some (.string key)) :
    Calls Tryz.prog 94 #[.slice A l.length c, .func (.func 95) #[] #[.pointer (some ⟨gc, 0, none⟩)]] w fun e w' => e = .returned (.bool (l.any (keyIsP key))) ∧ w.grownBy w' none := by
  go_enter Tryz.func94, Tryz.ntmps94
  go_wp2_with fail
  refine (indexPrn_any _ _ _ _ _ _ hl (by assumption)).mono ?_
  rintro e w1 ⟨r, rfl, hr, hg⟩
  replace hr := hide hr
  go_wp2_with fail
  go_ret
  exact ⟨ret_bool hr.out, hg⟩

def hasP' (p : List Prn) (key : ByteArray) : Bool := p.any (keyIsP key)

set_option maxHeartbeats 800000 in
theorem hasPrinter_any (A : Option Addr) (c : Nat) (p : List Prn) (key : ByteArray) (w : World) (hl : Sl w 0 A p) :
    Calls Tryz.prog 75 #[.slice A p.length c, .string key] w fun e w' => e = .returned (.bool (hasP' p key)) ∧ w.grownBy w' none := by
  go_enter Tryz.func75, Tryz.ntmps75
  go_upto_region 1 with fail
  obtain ⟨w3, hw3⟩ : ∃ x, x = (w).alloc (.cells [.string key].toArray 9) := ⟨_, rfl⟩
  have hg3 : (w).grownBy w3 none := by rw [hw3]; exact gr_alloc (World.grownBy.refl _ _) _
  have hb3 : Box w3 (w).heap.size 9 [.string key] := by rw [hw3]; exact Box.new _ _ _
  have hxs3 := hb3.lt
  rw [← hw3]
  clear hw3
  obtain ⟨x3, hx3⟩ : ∃ x, x = (w).heap.size := ⟨_, rfl⟩
  rw [← hx3] at hb3 hxs3 ⊢
  have hxl3 : (w).heap.size ≤ x3 := by omega
  clear hx3
  obtain ⟨b0, _⟩ := hb3.c 0 rfl
  have hC := containsPrn_any key x3 A c p w3 (hl.pure hg3) b0
  go_wp2_with fail
  refine hC.mono ?_
  rintro e w4 ⟨rfl, hg4⟩
  go_wp2_with fail
  go_ret
  exact ⟨rfl, hg3.t hg4⟩

def eformV (d : Ev) : Int := if formB d then 3 else if usedB d then 5 else 0

set_option maxHeartbeats 4000000 in
theorem eventForm_any (d : Ev) (w : World) :
    Calls Tryz.prog 76 #[.agg #[.int .i64 d.at_, .int .i64 d.kind, .string d.pr, .string d.job, .string d.mat]] w fun e w' => e = .returned (.int .i64 (eformV d)) ∧ w.grownBy w' none := by
  have HV : Hid (formB d = ((!(d.kind == 1) && !d.job.toList.isEmpty) || (!(d.kind == 4) && !d.mat.toList.isEmpty))) := by rw [Hid, formB, neE, neE]
  have HU : Hid (usedB d = ((d.kind == 1 && !keyB d.job) || (d.kind == 4 && !keyB d.mat))) := rfl
  have hK1 := hide fun wx => key_any d.job wx
  have hK2 := hide fun wx => key_any d.mat wx
  have hR : Hid (eformV d = if formB d then 3 else if usedB d then 5 else 0) := rfl
  generalize eformV d = V at *
  generalize formB d = F at *
  generalize usedB d = U at *
  obtain ⟨w1, hw1⟩ : ∃ x, x = w := ⟨w, rfl⟩
  rcases h1 : (d.kind == 1) with _ | _
  · rcases h4 : (d.kind == 4) with _ | _
    · -- another kind
      rcases h2 : d.job.toList.isEmpty with _ | _ <;> rcases h3 : d.mat.toList.isEmpty with _ | _
      · have e : Hid (V = 3) := by rw [Hid, hR.out, HV.out, h1, h2, h3, h4]; rfl
        clear HV HU hR
        go_enter Tryz.func76, Tryz.ntmps76
        go_upto_region 1 with fail
        go_quiet (fail)
        go_wp2_with fail
        go_ret
        exact ⟨ret_int e.out.symm, gr_drewN (gr_alloc (World.grownBy.refl _ _) _) _⟩
      · have e : Hid (V = 3) := by rw [Hid, hR.out, HV.out, h1, h2, h3, h4]; rfl
        clear HV HU hR
        go_enter Tryz.func76, Tryz.ntmps76
        go_upto_region 1 with fail
        go_quiet (fail)
        go_wp2_with fail
        go_ret
        exact ⟨ret_int e.out.symm, gr_drewN (gr_alloc (World.grownBy.refl _ _) _) _⟩
      · have e : Hid (V = 3) := by rw [Hid, hR.out, HV.out, h1, h2, h3, h4]; rfl
        clear HV HU hR
        go_enter Tryz.func76, Tryz.ntmps76
        go_upto_region 1 with fail
        go_quiet (fail)
        go_wp2_with fail
        go_ret
        exact ⟨ret_int e.out.symm, gr_drewN (gr_alloc (World.grownBy.refl _ _) _) _⟩
      · have e : Hid (V = 0) := by rw [Hid, hR.out, HV.out, HU.out, h1, h2, h3, h4]; rfl
        clear HV HU hR
        go_enter Tryz.func76, Tryz.ntmps76
        go_upto_region 1 with fail
        go_quiet (fail)
        go_wp2_with fail
        go_ret
        exact ⟨ret_int e.out.symm, gr_drewN (gr_alloc (World.grownBy.refl _ _) _) _⟩
    · rcases h2 : d.job.toList.isEmpty with _ | _
      · have e : Hid (V = 3) := by rw [Hid, hR.out, HV.out, h1, h2]; rfl
        clear HV HU hR
        go_enter Tryz.func76, Tryz.ntmps76
        go_upto_region 1 with fail
        go_quiet (fail)
        go_wp2_with fail
        go_ret
        exact ⟨ret_int e.out.symm, gr_drewN (gr_alloc (World.grownBy.refl _ _) _) _⟩
      · rcases h5 : keyB d.mat with _ | _
        · have e : Hid (V = 5) := by rw [Hid, hR.out, HV.out, HU.out, h1, h2, h4, h5]; rfl
          rw [h5] at hK2
          clear HV HU hR
          go_enter Tryz.func76, Tryz.ntmps76
          go_upto_region 1 with fail
          go_quiet (fail)
          go_wp2_with fail
          refine (hK2.out _).mono ?_
          rintro e' w2 ⟨rfl, hg2⟩
          go_wp2_with fail
          go_ret
          exact ⟨ret_int e.out.symm, (gr_drewN (gr_alloc (World.grownBy.refl _ _) _) _).t hg2⟩
        · have e : Hid (V = 0) := by rw [Hid, hR.out, HV.out, HU.out, h1, h2, h4, h5]; rfl
          rw [h5] at hK2
          clear HV HU hR
          go_enter Tryz.func76, Tryz.ntmps76
          go_upto_region 1 with fail
          go_quiet (fail)
          go_wp2_with fail
          refine (hK2.out _).mono ?_
          rintro e' w2 ⟨rfl, hg2⟩
          go_wp2_with fail
          go_ret
          exact ⟨ret_int e.out.symm, (gr_drewN (gr_alloc (World.grownBy.refl _ _) _) _).t hg2⟩
  · have h4 : (d.kind == 4) = false := by
      rw [beq_iff_eq] at h1; rw [h1]; rfl
    rcases h3 : d.mat.toList.isEmpty with _ | _
    · have e : Hid (V = 3) := by rw [Hid, hR.out, HV.out, h1, h3, h4]; rfl
      clear HV HU hR
      go_enter Tryz.func76, Tryz.ntmps76
      go_upto_region 1 with fail
      go_quiet (fail)
      go_wp2_with fail
      go_ret
      exact ⟨ret_int e.out.symm, gr_drewN (gr_alloc (World.grownBy.refl _ _) _) _⟩
    · rcases h5 : keyB d.job with _ | _
      · have e : Hid (V = 5) := by rw [Hid, hR.out, HV.out, HU.out, h1, h3, h4, h5]; rfl
        rw [h5] at hK1
        clear HV HU hR
        go_enter Tryz.func76, Tryz.ntmps76
        go_upto_region 1 with fail
        go_quiet (fail)
        go_wp2_with fail
        refine (hK1.out _).mono ?_
        rintro e' w2 ⟨rfl, hg2⟩
        go_wp2_with fail
        go_ret
        exact ⟨ret_int e.out.symm, (gr_drewN (gr_alloc (World.grownBy.refl _ _) _) _).t hg2⟩
      · have e : Hid (V = 0) := by rw [Hid, hR.out, HV.out, HU.out, h1, h3, h4, h5]; rfl
        rw [h5] at hK1
        clear HV HU hR
        have hbx := (Box.new w [.int .i64 d.at_, .int .i64 d.kind, .string d.pr, .string d.job, .string d.mat] 60)
        go_enter Tryz.func76, Tryz.ntmps76
        go_upto_region 1 with fail
        go_quiet (fail)
        go_wp2_with fail
        refine (hK1.out _).mono ?_
        rintro e' w2 ⟨rfl, hg2⟩
        have b1 := ((hbx.pure (gr_drewN (World.grownBy.refl _ _) _)).pure hg2).c 1 rfl
        obtain ⟨b1, _⟩ := b1
        go_wp2_with fail
        go_ret
        exact ⟨ret_int e.out.symm, (gr_drewN (gr_alloc (World.grownBy.refl _ _) _) _).t hg2⟩

def erF (p : List Prn) (l : List Ev) (k : Nat) : Int :=
  if momO (l.getD k default).at_ then 1 else if kindO (l.getD k default).kind then 4 else if !hasP' p (l.getD k default).pr then 8
  else if eformV (l.getD k default) ≠ 0 then eformV (l.getD k default) else if lateB l k then 7 else 0

def ersF (p : List Prn) (l : List Ev) : Int := if 5000 < l.length then 2 else scanN (erF p l) l.length

theorem erF_at {p : List Prn} {l : List Ev} {k : Nat} (h : k < l.length) : erF p l k = if momO l[k].at_ then 1 else if kindO l[k].kind then 4 else if !hasP' p l[k].pr then 8 else if eformV l[k] ≠ 0 then eformV l[k] else if lateB l k then 7 else 0 := by
  unfold erF
  rw [show l.getD k default = l[k] by simp [List.getD, h]]

theorem scanN_nul {f : Nat → Int} : ∀ {n : Nat}, (∀ k, k < n → f k = 0) → scanN f n = 0
  | 0, _ => rfl
  | n + 1, h => by
    unfold scanN
    rw [if_pos (scanN_nul fun k hk => h k (by omega)), h n (by omega)]

theorem ersF_zero {p : List Prn} {l : List Ev} (hk : ∀ x ∈ p, keyB x.key = true) (h : ersF p l = 0) : evsF l = 0 := by
  unfold ersF at h
  unfold evsF
  by_cases h1 : 5000 < l.length
  · rw [if_pos h1] at h; cases h
  · rw [if_neg h1] at h ⊢
    refine scanN_nul fun k hkl => ?_
    have h2 := scanN_all h k hkl
    unfold erF at h2
    unfold evF
    generalize l.getD k default = d at *
    by_cases a1 : momO d.at_ = true
    · rw [if_pos a1] at h2; cases h2
    rw [if_neg a1] at h2 ⊢
    by_cases a2 : kindO d.kind = true
    · rw [if_pos a2] at h2; cases h2
    rw [if_neg a2] at h2 ⊢
    by_cases a3 : hasP' p d.pr = true
    · rw [a3, if_neg (by decide)] at h2
      have hkey : keyB d.pr = true := by
        obtain ⟨x, hx, he⟩ := List.any_eq_true.1 a3
        unfold keyIsP at he
        rw [decide_eq_true_eq] at he
        rw [← he]; exact hk x hx
      by_cases a4 : eformV d = 0
      · rw [if_neg (fun k => k a4)] at h2
        have hf : formB d = false := by
          unfold eformV at a4
          by_cases q : formB d = true
          · rw [if_pos q] at a4; cases a4
          · simpa using q
        have hu : usedB d = false := by
          unfold eformV at a4
          rw [hf, if_neg (by decide)] at a4
          by_cases q : usedB d = true
          · rw [if_pos q] at a4; cases a4
          · simpa using q
        rw [hf, if_neg (by decide), hkey, hu, if_neg (by decide)]
        exact h2
      · rw [if_pos a4] at h2; exact absurd h2 a4
    · rw [Bool.not_eq_true] at a3
      rw [a3, if_pos (by decide)] at h2; cases h2

set_option maxHeartbeats 8000000 in
set_option maxRecDepth 100000 in
theorem eventsFault_any (P0 : Option Addr) (pc : Nat) (p : List Prn) (A : Option Addr) (c : Nat) (l : List Ev) (w : World) (hpl : Sl w 0 P0 p) (hp0 : prnsF p = 0) (hl : Sl w 0 A l) :
    Calls Tryz.prog 51 #[.slice P0 p.length pc, .slice A l.length c] w fun e w' => e = .returned (.int .i64 (ersF p l)) ∧ w.grownBy w' none := by
  have hm := hl.1
  unfold maxLen at hm
  have hPF := printersFault_any P0 pc p w hpl
  rw [hp0] at hPF
  clear hp0
  by_cases h50 : 5000 < l.length
  · have HE : Hid (ersF p l = 2) := by simp [Hid, ersF, h50]
    have hd : decide ((l.length : Int) > 5000) = true := by simp; omega
    go_enter Tryz.func51, Tryz.ntmps51
    go_wp2_with fail
    refine hPF.mono ?_
    rintro e w1 ⟨rfl, hg1⟩
    go_wp2_with fail
    go_ret
    exact ⟨ret_int HE.out.symm, hg1⟩
  · have HE : Hid (ersF p l = scanN (erF p l) l.length) := by simp [Hid, ersF, h50]
    have hd : decide ((l.length : Int) > 5000) = false := by simp; omega
    go_enter Tryz.func51, Tryz.ntmps51
    go_wp2_with fail
    refine hPF.mono ?_
    rintro e w1 ⟨rfl, hg1⟩
    go_wp2_with fail
    go_loopw [19] (fun i wr => ∃ k : Nat, k ≤ l.length ∧ i = .int .i64 k ∧ w.grownBy wr none ∧ Hid (scanN (erF p l) k = 0)) (fun i _ => l.length - (intOf i).toNat)
    case atStart => exact ⟨0, Nat.zero_le _, rfl, hg1, rfl⟩
    case round =>
      clear hg1
      obtain ⟨k, hk, rfl, hg, hall⟩ := hrel
      by_cases hlt : k < l.length
      · have hls := hl.gr hg (by simp)
        obtain ⟨g, o, cx, rfl, hb0, hb1, rfl, hc⟩ := hls.at_ (by decide) hlt
        have c0 : wr.cell? ⟨g, o + k * 5, none⟩ = some (.int .i64 l[k].at_) := hc 0 _ rfl
        have c1 : wr.cell? ⟨g, o + k * 5 + 1, none⟩ = some (.int .i64 l[k].kind) := hc 1 _ rfl
        have c2 : wr.cell? ⟨g, o + k * 5 + 2, none⟩ = some (.string l[k].pr) := hc 2 _ rfl
        have c3 : wr.cell? ⟨g, o + k * 5 + 3, none⟩ = some (.string l[k].job) := hc 3 _ rfl
        have c4 : wr.cell? ⟨g, o + k * 5 + 4, none⟩ = some (.string l[k].mat) := hc 4 _ rfl
        clear hc
        have hprev : Hid (∀ j, j + 1 = k → ∃ v : Int, wr.cell? ⟨g, o + j * 5, none⟩ = some (.int .i64 v) ∧ lateB l k = decide (l[k].at_ < v)) := fun j hj => by
          have hjl : j < l.length := by omega
          obtain ⟨g', o', cx, e, -, -, rfl, hc⟩ := hls.at_ (by decide) hjl
          cases e
          refine ⟨l[j].at_, hc 0 _ rfl, ?_⟩
          unfold lateB
          rw [decide_eq_true (by omega), Bool.true_and, show l.getD k default = l[k] by simp [List.getD, hlt], show k - 1 = j by omega, show l.getD j default = l[j] by simp [List.getD, hjl]]
        have hlate0 : Hid (k = 0 → lateB l k = false) := fun h => by unfold lateB; rw [decide_eq_false (by omega)]; rfl
        replace hd := hide hd
        have HF : Hid (erF p l k ≠ 0 → ersF p l = erF p l k) := fun h => HE.out.trans (scanN_at hall.out h hlt)
        have HO : Hid (erF p l k = 0 → scanN (erF p l) (k + 1) = 0) := fun h => scanN_ok hall.out h
        have HV : Hid (erF p l k = _) := erF_at (p := p) hlt
        generalize erF p l k = F at *
        generalize lateB l k = LB at *
        generalize hdk : l[k] = d at *
        clear hdk hls
        have hpr := hpl.pure hg
        have hEf := hide fun wx => eventForm_any d wx
        go_upto_region 9 with fail
        obtain ⟨w7, hw7⟩ : ∃ x, x = (wr).alloc (.cells [.int .i64 d.at_, .int .i64 d.kind, .string d.pr, .string d.job, .string d.mat].toArray 60) := ⟨_, rfl⟩
        have hg7 : (wr).grownBy w7 none := by rw [hw7]; exact gr_alloc (World.grownBy.refl _ _) _
        have hb7 : Box w7 (wr).heap.size 60 [.int .i64 d.at_, .int .i64 d.kind, .string d.pr, .string d.job, .string d.mat] := by rw [hw7]; exact Box.new _ _ _
        have hxs7 := hb7.lt
        rw [← hw7]
        clear hw7
        obtain ⟨x7, hx7⟩ : ∃ x, x = (wr).heap.size := ⟨_, rfl⟩
        rw [← hx7] at hb7 hxs7 ⊢
        have hxl7 : (wr).heap.size ≤ x7 := by omega
        clear hx7
        clear c0 c1 c2 c3 c4
        have hHp := hide (hasPrinter_any P0 pc p d.pr w7 (hpr.pure hg7))
        have b0 := (hb7.c 0 rfl).1
        have b1 := (hb7.c 1 rfl).1
        have b2 := (hb7.c 2 rfl).1
        rcases h1 : momO d.at_ with _ | _
        · rw [h1, if_neg (by decide)] at HV
          have k1 : (!momO d.at_) = true := by rw [h1]; rfl
          replace h1 := hide h1
          rcases h2 : kindO d.kind with _ | _
          · rw [h2, if_neg (by decide)] at HV
            have k2 : inB d.kind 1 6 = true := by
              have e := inB_not d.kind 1 6
              have e2 : outB d.kind 1 6 = false := h2
              rw [e2] at e; simpa using e
            replace h2 := hide h2
            go_wp2_with fail
            refine (moment_any _ _).mono ?_
            rintro e wq ⟨rfl, rfl⟩
            rw [k1]
            go_wp2_with fail
            refine (in_any _ _ _ _).mono ?_
            rintro e wq ⟨rfl, rfl⟩
            rw [k2]
            go_wp2_with fail
            refine hHp.out.mono ?_
            rintro e w5 ⟨rfl, hg5⟩
            clear hHp b0 b1 b2
            have hb5 := hb7.pure hg5
            rcases h3 : hasP' p d.pr with _ | _
            · have e : F = 8 := by have e := HV.out; rw [h3] at e; exact e
              have hR := hide (HF.out (by rw [e]; decide))
              replace e := hide e
              clear HV HF HO
              go_wp2_with fail
              go_ret
              exact ⟨ret_int (by rw [hR.out, e.out]), hg.t (hg7.t hg5)⟩
            · rw [h3, if_neg (by decide)] at HV
              have b0 := (hb5.c 0 rfl).1
              have b1 := (hb5.c 1 rfl).1
              have b2 := (hb5.c 2 rfl).1
              have b3 := (hb5.c 3 rfl).1
              have b4 := (hb5.c 4 rfl).1
              go_wp2_with fail
              refine (hEf.out _).mono ?_
              rintro e w6 ⟨rfl, hg6⟩
              clear hEf b0 b1 b2 b3 b4
              have hb6 := hb5.pure hg6
              have hgz := hg7.t (hg5.t hg6)
              generalize eformV d = EF at *
              by_cases h4 : EF = 0
              · subst h4
                have HV5 : Hid (F = if LB then 7 else 0) := by have e := HV.out; rw [if_neg (by decide)] at e; exact e
                clear HV
                have b0 := (hb6.c 0 rfl).1
                go_upto_region 18 with fail
                rcases k with _ | j
                · have hL := hlate0.out rfl
                  have e : F = 0 := by have e := HV5.out; rw [hL] at e; exact e
                  have hR := hide (HO.out e)
                  clear HV5 HF HO e hL hlate0 hprev
                  go_quiet (fail)
                  go_wp2
                  (go_roundw; (case rel => exact ⟨1, by omega, by go_num, hg.t (hgz.t (gr_drewN (World.grownBy.refl _ _) _)), hR.out⟩); (case measure => simp [intOf]; omega))
                · obtain ⟨v, hv, hL⟩ := hprev.out j rfl
                  have hvz := hgz.k hv
                  have hp : 0 < j + 1 := by omega
                  have hjl : (0 : Int) ≤ (j : Int) ∧ (j : Int) < l.length := by omega
                  rcases hlv : decide (d.at_ < v) with _ | _
                  · have e : F = 0 := by have e := HV5.out; rw [hL, hlv] at e; exact e
                    have hR := hide (HO.out e)
                    clear HV5 HF HO e hL hlate0 hprev hv
                    go_quiet (fail)
                    go_wp2
                    (go_roundw; (case rel => exact ⟨j + 2, by omega, by go_num, hg.t (hgz.t (gr_drewN (World.grownBy.refl _ _) _)), hR.out⟩); (case measure => simp [intOf]; omega))
                  · have e : F = 7 := by have e := HV5.out; rw [hL, hlv] at e; exact e
                    have hR := hide (HF.out (by rw [e]; decide))
                    replace e := hide e
                    clear HV5 HF HO hL hlate0 hprev hv
                    go_quiet (fail)
                    go_wp2
                    go_ret
                    exact ⟨ret_int (by rw [hR.out, e.out]), hg.t (hgz.t (gr_drewN (World.grownBy.refl _ _) _))⟩
              · have e : F = EF := by have e := HV.out; rw [if_pos h4] at e; exact e
                have hR := hide (HF.out (by rw [e]; exact h4))
                have hbE : (EF != 0) = true := by simp [h4]
                replace e := hide e
                replace h4 := hide h4
                clear HV HF HO
                go_wp2_with fail
                go_ret
                exact ⟨ret_int (by rw [hR.out, e.out]), hg.t hgz⟩
          · have e : F = 4 := by have e := HV.out; rw [h2] at e; exact e
            have hR := hide (HF.out (by rw [e]; decide))
            replace e := hide e
            have k2 : inB d.kind 1 6 = false := by
              have e := inB_not d.kind 1 6
              have e2 : outB d.kind 1 6 = true := h2
              rw [e2] at e; simpa using e
            clear HV HF HO
            go_wp2_with fail
            refine (moment_any _ _).mono ?_
            rintro e wq ⟨rfl, rfl⟩
            rw [k1]
            go_wp2_with fail
            refine (in_any _ _ _ _).mono ?_
            rintro e wq ⟨rfl, rfl⟩
            rw [k2]
            go_wp2_with fail
            go_ret
            exact ⟨ret_int (by rw [hR.out, e.out]), hg.t hg7⟩
        · have e : F = 1 := by have e := HV.out; rw [h1] at e; exact e
          have hR := hide (HF.out (by rw [e]; decide))
          replace e := hide e
          have k1 : (!momO d.at_) = false := by rw [h1]; rfl
          clear HV HF HO
          go_wp2_with fail
          refine (moment_any _ _).mono ?_
          rintro e wq ⟨rfl, rfl⟩
          rw [k1]
          go_wp2_with fail
          go_ret
          exact ⟨ret_int (by rw [hR.out, e.out]), hg.t hg7⟩
      · have HB : Hid (ersF p l = 0) := by
          have : k = l.length := by omega
          subst this
          exact HE.out.trans hall.out
        go_wp2_with fail
        go_ret
        exact ⟨ret_int HB.out.symm, hg⟩

end Go.Proofs.YtanioobepfllgaaGreatDoor

namespace Go.Proofs.YtanioobepfllgaaGreatDoor
open Go Go.RowKit Go.Bl

theorem prnsF_zero {s : List Prn} (h : prnsF s = 0) : s.length ≤ 50 ∧ ∀ k (hk : k < s.length), (keyB s[k].key = true ∧ keyB s[k].mat = true) ∧ ∀ (h0 : 0 < k), cmpK s[k - 1].key s[k].key = -1 := by
  unfold prnsF at h
  by_cases hz : s.length = 0
  · rw [if_pos hz] at h; cases h
  rw [if_neg hz] at h
  by_cases h1 : 50 < s.length
  · rw [if_pos h1] at h; cases h
  · rw [if_neg h1] at h
    refine ⟨by omega, fun k hk => ?_⟩
    have := scanN_all h k hk
    unfold prnF at this
    simp only [List.getD_eq_getElem?_getD, List.getElem?_eq_getElem hk, Option.getD_some] at this
    split at this
    · rename_i ho
      split at this
      · cases this
      · rename_i hq
        refine ⟨by simpa using ho, fun h0 => leS_no ?_⟩
        have hk1 : k - 1 < s.length := by omega
        simp only [List.getElem?_eq_getElem hk1, Option.getD_some] at hq
        simpa [h0] using hq
    · cases this

theorem prn_sorted {s : List Prn} (h : prnsF s = 0) : ∀ j i (hj : j < s.length) (hi : i < j), cmpK s[i].key s[j].key = -1
  | 0, i, _, hi => by omega
  | j + 1, i, hj, hi => by
    have h1 := ((prnsF_zero h).2 (j + 1) hj).2 (by omega)
    simp only [Nat.add_sub_cancel] at h1
    by_cases e : i = j
    · subst e; exact h1
    · exact cmpK_trans (prn_sorted h j i (by omega) (by omega)) h1

theorem hasP_at {s : List Prn} {key : ByteArray} {k : Nat} (hk : k < s.length) (e : s[k].key = key) : hasP' s key = true :=
  List.any_eq_true.2 ⟨s[k], List.getElem_mem _, by simp [keyIsP, e]⟩

theorem hasP_not {s : List Prn} {key : ByteArray} (h : ∀ k (hk : k < s.length), s[k].key ≠ key) : hasP' s key = false := by
  unfold hasP'
  rw [List.any_eq_false]
  intro x hx
  obtain ⟨k, hk, rfl⟩ := List.mem_iff_getElem.1 hx
  simpa [keyIsP] using h k hk

set_option maxHeartbeats 800000 in
theorem prnCmp_any (x : Prn) (key : ByteArray) (w : World) :
    Calls Tryz.prog 122 #[.agg #[.string x.key, .string x.mat], .string key] w fun e w' => e = .returned (.int .i64 (cmpK x.key key)) ∧ w.grownBy w' none := by
  go_enter Tryz.func122, Tryz.ntmps122
  go_wp2_with (go_at_call 123; refine (Tryz.strings_Compare _ _ _).mono ?_; rintro e w' ⟨rfl, rfl⟩)
  go_ret
  exact ⟨rfl, (by repeat (first | exact World.grownBy.refl _ _ | assumption | refine gr_alloc ?_ _ | (apply gr_tail; assumption) | refine gr_drewN ?_ _ | refine gr_drew ?_))⟩

set_option maxHeartbeats 2000000 in
theorem binPrn_any (A : Option Addr) (c : Nat) (l : List Prn) (key : ByteArray) (w : World) (hl : Sl w 0 A l) (h0 : prnsF l = 0) :
    Calls Tryz.prog 121 #[.slice A l.length c, .string key, .func (.func 122) #[] #[]] w fun e w' => ∃ r : Int, e = .returned (.tuple #[.int .i64 r, .bool (hasP' l key)]) ∧ w.grownBy w' none := by
  have hup := hide (prn_sorted h0)
  have hlen := (prnsF_zero h0).1
  clear h0
  go_enter Tryz.func121, Tryz.ntmps121
  go_wp2
  go_loopw [9, 10] (fun a b wr => ∃ i j : Nat, i ≤ j ∧ j ≤ l.length ∧ a = .int .i64 i ∧ b = .int .i64 j ∧ Hid (∀ k (hk : k < l.length), k < i → cmpK l[k].key key = -1) ∧ Hid (∀ k (hk : k < l.length), j ≤ k → cmpK l[k].key key ≠ -1) ∧ w.grownBy wr none) (fun a b _ => (intOf b - intOf a).toNat)
  case atStart => exact ⟨0, l.length, Nat.zero_le _, Nat.le_refl _, rfl, rfl, fun k _ h => by omega, fun k _ h => by omega, World.grownBy.refl _ _⟩
  case round =>
    obtain ⟨i, j, hij, hj, rfl, rfl, hlo, hhi, hg⟩ := hrel
    by_cases hlt : i < j
    · obtain ⟨m, hm⟩ : ∃ m : Nat, ((i : Int) + j) / 2 = m := ⟨(i + j) / 2, by omega⟩
      have hm2 : i ≤ m ∧ m < j := by omega
      have hml : m < l.length := by omega
      obtain ⟨g, o, cx, rfl, hb0, hb1, rfl, hc⟩ := (hl.pure hg).at_ (by decide) hml
      have c0 : wr.cell? ⟨g, o + m * 2, none⟩ = some (.string l[m].key) := hc 0 _ rfl
      have c1 : wr.cell? ⟨g, o + m * 2 + 1, none⟩ = some (.string l[m].mat) := hc 1 _ rfl
      clear hc
      obtain ⟨z, hz⟩ : ∃ z, cmpK l[m].key key = z := ⟨_, rfl⟩
      rcases hb : decide (z < 0) with _ | _
      · have hge : cmpK l[m].key key ≠ -1 := by rw [hz]; have := of_decide_eq_false hb; omega
        have HS : Hid (∀ k (hk : k < l.length), m ≤ k → cmpK l[k].key key ≠ -1) := fun k hk hmk => by
          rcases Nat.lt_or_ge m k with h | h
          · exact fun e => hge (cmpK_trans (hup.out k m hk h) e)
          · obtain rfl : m = k := by omega
            exact hge
        clear hge
        replace hz := hide hz
        go_wp2_with fail
        refine (prnCmp_any l[m] _ _).mono ?_
        rintro e w' ⟨rfl, hg2⟩
        rw [hz.out]
        go_wp2
        go_roundw
        case rel => exact ⟨i, m, by omega, by omega, rfl, rfl, hlo, HS, hg.t hg2⟩
        case measure => simp [intOf]; omega
      · have hlt2 : cmpK l[m].key key = -1 := by
          have := of_decide_eq_true hb
          rcases cmpK_val l[m].key key with h | h | h <;> omega
        have HS : Hid (∀ k (hk : k < l.length), k < m + 1 → cmpK l[k].key key = -1) := fun k hk hmk => by
          rcases Nat.lt_or_ge k m with h | h
          · exact cmpK_trans (hup.out m k hml h) hlt2
          · obtain rfl : m = k := by omega
            exact hlt2
        clear hlt2
        replace hz := hide hz
        go_wp2_with fail
        refine (prnCmp_any l[m] _ _).mono ?_
        rintro e w' ⟨rfl, hg2⟩
        rw [hz.out]
        go_wp2
        go_roundw
        case rel => exact ⟨m + 1, j, by omega, by omega, by go_num, rfl, HS, hhi, hg.t hg2⟩
        case measure => simp [intOf]; omega
    · have hij2 : i = j := by omega
      subst hij2
      by_cases hil : i < l.length
      · obtain ⟨g, o, cx, rfl, hb0, hb1, rfl, hc⟩ := (hl.pure hg).at_ (by decide) hil
        have c0 : wr.cell? ⟨g, o + i * 2, none⟩ = some (.string l[i].key) := hc 0 _ rfl
        have c1 : wr.cell? ⟨g, o + i * 2 + 1, none⟩ = some (.string l[i].mat) := hc 1 _ rfl
        clear hc
        obtain ⟨z, hz⟩ : ∃ z, cmpK l[i].key key = z := ⟨_, rfl⟩
        rcases hb : (z == 0) with _ | _
        · have HS : Hid (hasP' l key = false) := hasP_not (fun k hk e => by
            have h1 := hhi.out i hil (Nat.le_refl _)
            have hz0 : z ≠ 0 := by simpa using hb
            rcases Nat.lt_trichotomy k i with h | h | h
            · have h2 := hlo.out k hk h
              rw [e, cmpK_zero.2 rfl] at h2
              cases h2
            · subst h
              rw [e, cmpK_zero.2 rfl] at hz
              exact hz0 hz.symm
            · have h2 := hup.out k i hk h
              rw [e] at h2
              exact h1 h2)
          replace hz := hide hz
          go_wp2_with fail
          refine (prnCmp_any l[i] _ _).mono ?_
          rintro e w' ⟨rfl, hg2⟩
          rw [hz.out]
          go_wp2
          go_ret2
          exact ⟨_, by rw [HS.out]; rfl, hg.t hg2⟩
        · have hk : l[i].key = key := cmpK_zero.1 (by rw [hz]; simpa using hb)
          have HS := hide (hasP_at hil hk)
          clear hk
          replace hz := hide hz
          go_wp2_with fail
          refine (prnCmp_any l[i] _ _).mono ?_
          rintro e w' ⟨rfl, hg2⟩
          rw [hz.out]
          go_wp2
          go_ret2
          exact ⟨_, by rw [HS.out]; rfl, hg.t hg2⟩
      · have HS : Hid (hasP' l key = false) := hasP_not (fun k hk e => by
          have h2 := hlo.out k hk (by omega)
          rw [e, cmpK_zero.2 rfl] at h2
          cases h2)
        go_wp2
        go_ret2
        exact ⟨_, by rw [HS.out]; rfl, hg⟩

set_option maxHeartbeats 800000 in
theorem printerAt_any (A : Option Addr) (c : Nat) (l : List Prn) (key : ByteArray) (w : World) (hl : Sl w 0 A l) (h0 : prnsF l = 0) :
    Calls Tryz.prog 98 #[.slice A l.length c, .string key] w fun e w' => ∃ r : Int, e = .returned (.tuple #[.int .i64 r, .bool (hasP' l key)]) ∧ w.grownBy w' none := by
  have h0' := hide h0
  go_enter Tryz.func98, Tryz.ntmps98
  go_wp2_with fail
  refine (binPrn_any _ _ _ _ _ hl h0'.out).mono ?_
  rintro e w1 ⟨r, rfl, hg⟩
  go_wp2_with fail
  go_ret2
  exact ⟨r, rfl, hg⟩

end Go.Proofs.YtanioobepfllgaaGreatDoor

/- Contracts of functions that this seat's laws reach, each: what one call returns and what it leaves in memory; no condition beyond each theorem's own hypotheses. -/
import Derived.Test.YtncplpbnhlodaaaGreatDoorMDrawData
import Derived.Test.YtncplpbnhlodaaaGreatDoorMSpoolR
set_option linter.unusedVariables false
set_option linter.unusedSimpArgs false
namespace Go.Proofs.YtncplpbnhlodaaaGreatDoor
open Go.RowKit Go.Bl

set_option maxHeartbeats 4000000 in
theorem textFault_any (A : Option Addr) (c : Nat) (l : List Drw) (w : World) (hl : Sl w 0 A l) :
    Calls Tryz.prog 44 #[.slice A l.length c] w fun e w' => e = .returned (.int .i64 (txsF l)) ∧ w.grownBy w' none := by
  have hm := hl.1
  unfold maxLen at hm
  by_cases h50 : 5000 < l.length
  · have HE : Hid (txsF l = 2) := by simp [Hid, txsF, h50]
    have hd : decide ((l.length : Int) > 5000) = true := by simp; omega
    go_enter Tryz.func44, Tryz.ntmps44
    go_wp2_with fail
    go_ret
    exact ⟨ret_int HE.out.symm, (by repeat (first | exact World.grownBy.refl _ _ | assumption | refine gr_alloc ?_ _ | (apply gr_tail; assumption) | refine gr_drewN ?_ _ | refine gr_drew ?_))⟩
  · have HE : Hid (txsF l = scanN (txF l) l.length) := by simp [Hid, txsF, h50]
    have hd : decide ((l.length : Int) > 5000) = false := by simp; omega
    go_enter Tryz.func44, Tryz.ntmps44
    go_wp2_with fail
    go_loopw [10] (fun i wr => ∃ k : Nat, k ≤ l.length ∧ i = .int .i64 k ∧ w.grownBy wr none ∧ Hid (scanN (txF l) k = 0)) (fun i _ => l.length - (intOf i).toNat)
    case atStart => exact ⟨0, Nat.zero_le _, rfl, World.grownBy.refl _ _, rfl⟩
    case round =>
      obtain ⟨k, hk, rfl, hg, hall⟩ := hrel
      by_cases hlt : k < l.length
      · have hls := hl.gr hg (by simp)
        obtain ⟨g, o, cx, rfl, hb0, hb1, rfl, hc⟩ := hls.at_ (by decide) hlt
        have c0 : wr.cell? ⟨g, o + k * 3, none⟩ = some (.int .i64 l[k].at_) := hc 0 _ rfl
        have c1 : wr.cell? ⟨g, o + k * 3 + 1, none⟩ = some (.string l[k].spool) := hc 1 _ rfl
        have c2 : wr.cell? ⟨g, o + k * 3 + 2, none⟩ = some (.int .i64 l[k].long) := hc 2 _ rfl
        clear hc
        replace hd := hide hd
        have HF : Hid (txF l k ≠ 0 → txsF l = txF l k) := fun h => HE.out.trans (scanN_at hall.out h hlt)
        have HO : Hid (txF l k = 0 → scanN (txF l) (k + 1) = 0) := fun h => scanN_ok hall.out h
        have HV : Hid (txF l k = if momO l[k].at_ then 1 else if keyB l[k].spool then (if longO l[k].long then 1 else 0) else 5) := by
          simp only [Hid, txF, List.getD_eq_getElem?_getD, List.getElem?_eq_getElem hlt, Option.getD_some]
        generalize txF l k = F at *
        generalize hdk : l[k] = d at *
        clear hdk
        go_wp2_with fail
        obtain ⟨w1, hw1⟩ : ∃ x, x = (wr).alloc (.cells [.int .i64 d.at_, .string d.spool, .int .i64 d.long].toArray 51) := ⟨_, rfl⟩
        have hg1 : (wr).grownBy w1 none := by rw [hw1]; exact gr_alloc (World.grownBy.refl _ _) _
        have hb1 : Box w1 (wr).heap.size 51 [.int .i64 d.at_, .string d.spool, .int .i64 d.long] := by rw [hw1]; exact Box.new _ _ _
        have hxs1 := hb1.lt
        rw [← hw1]
        clear hw1
        obtain ⟨x1, hx1⟩ : ∃ x, x = (wr).heap.size := ⟨_, rfl⟩
        rw [← hx1] at hb1 hxs1 ⊢
        have hxl1 : (wr).heap.size ≤ x1 := by omega
        clear hx1
        clear c0 c1 c2
        have b0 := (hb1.c 0 rfl).1
        have b1 := (hb1.c 1 rfl).1
        rcases h1 : momO d.at_ with _ | _
        · have HV2 : Hid (F = if keyB d.spool then (if longO d.long then 1 else 0) else 5) := by
            have e := HV.out; rw [h1] at e; exact e
          clear HV
          replace h1 := hide h1
          go_wp2_with (go_at_call 41; refine (isMoment_any _ _).mono ?_; rintro _ _ ⟨rfl, rfl⟩; rw [h1.out])
          refine (isKey_any _ _).mono ?_
          rintro e wq ⟨rfl, hgq⟩
          have hbq := hb1.pure hgq
          clear b0 b1
          have b2 := (hbq.c 2 rfl).1
          rcases h2 : keyB d.spool with _ | _
          · go_wp2_with fail
            go_ret
            exact ⟨ret_int (by have e := HV2.out; rw [h2] at e; simp only [Bool.false_eq_true, if_false] at e; rw [HF.out (by rw [e]; decide), e]), hg.t (hg1.t hgq)⟩
          · have HV3 : Hid (F = if longO d.long then 1 else 0) := by
              have e := HV2.out; rw [h2] at e; exact e
            clear HV2
            rcases h3 : longO d.long with _ | _
            · have e : F = 0 := by have e := HV3.out; rw [h3] at e; exact e
              have hR := hide (HO.out e)
              clear HV3 HF HO e
              go_wp2_with (go_at_call 64; refine (isLong_any _ _).mono ?_; rintro _ _ ⟨rfl, rfl⟩; rw [h3])
              first
                | exact ⟨⟨k + 1, by omega, by go_num, hg.t (hg1.t hgq), hR.out⟩, by simp [intOf]; omega⟩
                | (go_roundw; (case rel => exact ⟨k + 1, by omega, by go_num, hg.t (hg1.t hgq), hR.out⟩); (case measure => simp [intOf]; omega))
            · have e : F = 1 := by have e := HV3.out; rw [h3] at e; exact e
              have hR := hide (HF.out (by rw [e]; decide))
              replace e := hide e
              clear HV3 HF HO
              go_wp2_with (go_at_call 64; refine (isLong_any _ _).mono ?_; rintro _ _ ⟨rfl, rfl⟩; rw [h3])
              go_ret
              exact ⟨ret_int (by rw [hR.out, e.out]), hg.t (hg1.t hgq)⟩
        · have e : F = 1 := by have e := HV.out; rw [h1] at e; exact e
          have hR := hide (HF.out (by rw [e]; decide))
          replace e := hide e
          clear HV HF HO
          go_wp2_with (go_at_call 41; refine (isMoment_any _ _).mono ?_; rintro _ _ ⟨rfl, rfl⟩; rw [h1])
          go_ret
          exact ⟨ret_int (by rw [hR.out, e.out]), hg.t hg1⟩
      · have HB : Hid (txsF l = 0) := by
          have : k = l.length := by omega
          subst this
          exact HE.out.trans hall.out
        go_wp2_with fail
        go_ret
        exact ⟨ret_int HB.out.symm, hg⟩

set_option maxHeartbeats 4000000 in
theorem drawLinesFault_any (A : Option Addr) (c : Nat) (l : List Drw) (w : World) (hl : Sl w 0 A l) :
    Calls Tryz.prog 18 #[.slice A l.length c] w fun e w' => e = .returned (.int .i64 (txsF l)) ∧ w.grownBy w' none := by
  have hm := hl.1
  unfold maxLen at hm
  by_cases h50 : 5000 < l.length
  · have HE : Hid (txsF l = 2) := by simp [Hid, txsF, h50]
    have hd : decide ((l.length : Int) > 5000) = true := by simp; omega
    go_enter Tryz.func18, Tryz.ntmps18
    go_wp2_with fail
    go_ret
    exact ⟨ret_int HE.out.symm, (by repeat (first | exact World.grownBy.refl _ _ | assumption | refine gr_alloc ?_ _ | (apply gr_tail; assumption) | refine gr_drewN ?_ _ | refine gr_drew ?_))⟩
  · have HE : Hid (txsF l = scanN (txF l) l.length) := by simp [Hid, txsF, h50]
    have hd : decide ((l.length : Int) > 5000) = false := by simp; omega
    go_enter Tryz.func18, Tryz.ntmps18
    go_wp2_with fail
    go_loopw [10] (fun i wr => ∃ k : Nat, k ≤ l.length ∧ i = .int .i64 k ∧ w.grownBy wr none ∧ Hid (scanN (txF l) k = 0)) (fun i _ => l.length - (intOf i).toNat)
    case atStart => exact ⟨0, Nat.zero_le _, rfl, World.grownBy.refl _ _, rfl⟩
    case round =>
      obtain ⟨k, hk, rfl, hg, hall⟩ := hrel
      by_cases hlt : k < l.length
      · have hls := hl.gr hg (by simp)
        obtain ⟨g, o, cx, rfl, hb0, hb1, rfl, hc⟩ := hls.at_ (by decide) hlt
        have c0 : wr.cell? ⟨g, o + k * 3, none⟩ = some (.int .i64 l[k].at_) := hc 0 _ rfl
        have c1 : wr.cell? ⟨g, o + k * 3 + 1, none⟩ = some (.string l[k].spool) := hc 1 _ rfl
        have c2 : wr.cell? ⟨g, o + k * 3 + 2, none⟩ = some (.int .i64 l[k].long) := hc 2 _ rfl
        clear hc
        replace hd := hide hd
        have HF : Hid (txF l k ≠ 0 → txsF l = txF l k) := fun h => HE.out.trans (scanN_at hall.out h hlt)
        have HO : Hid (txF l k = 0 → scanN (txF l) (k + 1) = 0) := fun h => scanN_ok hall.out h
        have HV : Hid (txF l k = if momO l[k].at_ then 1 else if keyB l[k].spool then (if longO l[k].long then 1 else 0) else 5) := by
          simp only [Hid, txF, List.getD_eq_getElem?_getD, List.getElem?_eq_getElem hlt, Option.getD_some]
        generalize txF l k = F at *
        generalize hdk : l[k] = d at *
        clear hdk
        go_wp2_with fail
        obtain ⟨w1, hw1⟩ : ∃ x, x = (wr).alloc (.cells [.int .i64 d.at_, .string d.spool, .int .i64 d.long].toArray 51) := ⟨_, rfl⟩
        have hg1 : (wr).grownBy w1 none := by rw [hw1]; exact gr_alloc (World.grownBy.refl _ _) _
        have hb1 : Box w1 (wr).heap.size 51 [.int .i64 d.at_, .string d.spool, .int .i64 d.long] := by rw [hw1]; exact Box.new _ _ _
        have hxs1 := hb1.lt
        rw [← hw1]
        clear hw1
        obtain ⟨x1, hx1⟩ : ∃ x, x = (wr).heap.size := ⟨_, rfl⟩
        rw [← hx1] at hb1 hxs1 ⊢
        have hxl1 : (wr).heap.size ≤ x1 := by omega
        clear hx1
        clear c0 c1 c2
        have b0 := (hb1.c 0 rfl).1
        have b1 := (hb1.c 1 rfl).1
        rcases h1 : momO d.at_ with _ | _
        · have HV2 : Hid (F = if keyB d.spool then (if longO d.long then 1 else 0) else 5) := by
            have e := HV.out; rw [h1] at e; exact e
          clear HV
          replace h1 := hide h1
          go_wp2_with (go_at_call 35; refine (moment_any _ _).mono ?_; rintro _ _ ⟨rfl, rfl⟩; rw [h1.out])
          refine (key_any _ _).mono ?_
          rintro e wq ⟨rfl, hgq⟩
          have hbq := hb1.pure hgq
          clear b0 b1
          have b2 := (hbq.c 2 rfl).1
          rcases h2 : keyB d.spool with _ | _
          · go_wp2_with fail
            go_ret
            exact ⟨ret_int (by have e := HV2.out; rw [h2] at e; simp only [Bool.false_eq_true, if_false] at e; rw [HF.out (by rw [e]; decide), e]), hg.t (hg1.t hgq)⟩
          · have HV3 : Hid (F = if longO d.long then 1 else 0) := by
              have e := HV2.out; rw [h2] at e; exact e
            clear HV2
            rcases h3 : longO d.long with _ | _
            · have e : F = 0 := by have e := HV3.out; rw [h3] at e; exact e
              have hR := hide (HO.out e)
              clear HV3 HF HO e
              go_wp2_with (go_at_call 38; refine (longFault_any _ _).mono ?_; rintro _ _ ⟨rfl, rfl⟩; (have hlf := lfF_ne d.long; rw [h3] at hlf))
              first
                | exact ⟨⟨k + 1, by omega, by go_num, hg.t (hg1.t hgq), hR.out⟩, by simp [intOf]; omega⟩
                | (go_roundw; (case rel => exact ⟨k + 1, by omega, by go_num, hg.t (hg1.t hgq), hR.out⟩); (case measure => simp [intOf]; omega))
            · have e : F = 1 := by have e := HV3.out; rw [h3] at e; exact e
              have hR := hide (HF.out (by rw [e]; decide))
              replace e := hide e
              clear HV3 HF HO
              go_wp2_with (go_at_call 38; refine (longFault_any _ _).mono ?_; rintro _ _ ⟨rfl, rfl⟩; (have hlf := lfF_ne d.long; rw [h3] at hlf))
              go_ret
              exact ⟨ret_int (by rw [hR.out, e.out]), hg.t (hg1.t hgq)⟩
        · have e : F = 1 := by have e := HV.out; rw [h1] at e; exact e
          have hR := hide (HF.out (by rw [e]; decide))
          replace e := hide e
          clear HV HF HO
          go_wp2_with (go_at_call 35; refine (moment_any _ _).mono ?_; rintro _ _ ⟨rfl, rfl⟩; rw [h1])
          go_ret
          exact ⟨ret_int (by rw [hR.out, e.out]), hg.t hg1⟩
      · have HB : Hid (txsF l = 0) := by
          have : k = l.length := by omega
          subst this
          exact HE.out.trans hall.out
        go_wp2_with fail
        go_ret
        exact ⟨ret_int HB.out.symm, hg⟩

end Go.Proofs.YtncplpbnhlodaaaGreatDoor

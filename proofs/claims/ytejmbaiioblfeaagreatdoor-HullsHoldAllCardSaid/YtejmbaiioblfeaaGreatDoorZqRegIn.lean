/- Contracts of functions that this seat's laws reach, each: what one call returns and what it leaves in memory; no condition beyond each theorem's own hypotheses. -/
import Derived.Test.YtejmbaiioblfeaaGreatDoorZqRegH
import Derived.Test.YtejmbaiioblfeaaGreatDoorZqFillOut
import Derived.Test.YtejmbaiioblfeaaGreatDoorZqFlowD
set_option linter.unusedVariables false
set_option linter.unusedSimpArgs false
namespace Go.Bl
open Go

theorem onS_self (p d : Pt) : onB p p d = true := by
  rw [onB_iff]
  exact ⟨by unfold turnP; grind, by unfold boxP; omega⟩

theorem boxS_pp {c p : Pt} (h : boxP c p p) : c = p := by
  unfold boxP at h
  cases c; cases p; simp only [Pt.mk.injEq] at *; omega

theorem ppS_on (c d p : Pt) : meetM c d p p = onB p c d := by
  rw [Bool.eq_iff_iff]
  constructor
  · intro h
    rw [meetM_eq] at h
    unfold meetR at h
    simp only [Bool.or_eq_true, Bool.and_eq_true, crossB, decide_eq_true_eq] at h
    rcases h with (((k | k) | k) | k) | k
    · rw [boxS_pp (onB_iff.1 k).2]; exact onS_self _ _
    · rw [boxS_pp (onB_iff.1 k).2, onB_flip]; exact onS_self _ _
    · exact k
    · exact k
    · omega
  · intro h
    have k := onB_iff.1 h
    exact (meetM_sym _ _ _ _).1 (meet_on k.1 k.2)

def onS (p : Pt) (s : Sid) : Bool := onB p s.a s.b
/-- the state of the count: 1 in, -1 out -/
def sgnB (b : Bool) : Int := if b then 1 else -1

theorem sgn_next (rs : List (List Pt)) (p : Pt) (k : Nat) : sgnB (parR rs p (k + 1)) = if isInF (rs.getD k []) p then -sgnB (parR rs p k) else sgnB (parR rs p k) := by
  show sgnB (parR rs p k ^^ isInF (rs.getD k []) p) = _
  cases parR rs p k <;> cases isInF (rs.getD k []) p <;> rfl

end Go.Bl
namespace Go.Proofs.YtejmbaiioblfeaaGreatDoor
open Go Go.RowKit Go.Bl

/-- a captured point, beside a row of sides: all are near -/
structure SdH (w : World) (gc : Nat) (P : Pt) (l : List Sid) : Prop where
  bx : Box w gc 29 [.int .i64 P.x, .int .i64 P.y]
  bl : ∀ x ∈ l, bdP x.a ∧ bdP x.b
  pb : bdP P

theorem SdH.gr {w w' : World} {gc : Nat} {P : Pt} {l : List Sid} (h : SdH w gc P l) (hg : w.grownBy w' none) : SdH w' gc P l := ⟨h.bx.pure hg, h.bl, h.pb⟩

theorem sl_sid {w : World} {A : Option Addr} {l : List Sid} (h : Sl w 0 A l) (h0 : 0 < l.length) : ∃ g o, A = some ⟨g, o, none⟩ ∧ ∀ k (hk : k < l.length), (w.cell? ⟨g, o + k * 5, none⟩ = some (.int .i64 l[k].ring) ∧ w.cell? ⟨g, o + k * 5 + 1, none⟩ = some (.int .i64 l[k].a.x) ∧ w.cell? ⟨g, o + k * 5 + 2, none⟩ = some (.int .i64 l[k].a.y) ∧ w.cell? ⟨g, o + k * 5 + 3, none⟩ = some (.int .i64 l[k].b.x) ∧ w.cell? ⟨g, o + k * 5 + 4, none⟩ = some (.int .i64 l[k].b.y)) := by
  obtain ⟨g, o, -, e, -⟩ := h.at_ (by decide) h0
  refine ⟨g, o, e, fun k hk => ?_⟩
  obtain ⟨g', o', cs, e', _, _, hr, hc⟩ := h.at_ (by decide) hk
  rw [e] at e'
  injection e' with e'
  injection e' with e1 e2
  subst e1; subst e2
  have hr' : cs = [.int .i64 l[k].ring, .int .i64 l[k].a.x, .int .i64 l[k].a.y, .int .i64 l[k].b.x, .int .i64 l[k].b.y] := hr
  subst hr'
  exact ⟨hc 0 _ rfl, hc 1 _ rfl, hc 2 _ rfl, hc 3 _ rfl, hc 4 _ rfl⟩

set_option maxHeartbeats 1000000 in
theorem inClo_any (P : Pt) (gc : Nat) (l : List Sid) (y : Sid) (w : World) (h : SdH w gc P l) (hx : bdP y.a ∧ bdP y.b) :
    Calls Tryz.prog 49 #[.agg #[.int .i64 y.ring, .int .i64 y.a.x, .int .i64 y.a.y, .int .i64 y.b.x, .int .i64 y.b.y], .pointer (some ⟨gc, 0, none⟩)] w fun e w' => e = .returned (.bool (onS P y)) ∧ w.grownBy w' none := by
  have hM := hide fun w => meet_any y.a y.b P P w hx.1 hx.2 h.pb h.pb
  rw [ppS_on] at hM
  have hV : Hid (onS P y = onB P y.a y.b) := rfl
  rw [hV.out]
  generalize onB P y.a y.b = m at *
  go_enter Tryz.func49, Tryz.ntmps49
  go_upto_region 1 with fail
  obtain ⟨w2, hw2⟩ : ∃ x, x = (w).alloc (.cells [.int .i64 y.ring, .int .i64 y.a.x, .int .i64 y.a.y, .int .i64 y.b.x, .int .i64 y.b.y].toArray 86) := ⟨_, rfl⟩
  have hg2 : (w).grownBy w2 none := by rw [hw2]; exact gr_alloc (World.grownBy.refl _ _) _
  have hb2 : Box w2 (w).heap.size 86 [.int .i64 y.ring, .int .i64 y.a.x, .int .i64 y.a.y, .int .i64 y.b.x, .int .i64 y.b.y] := by rw [hw2]; exact Box.new _ _ _
  have hxs2 := hb2.lt
  rw [← hw2]
  clear hw2
  obtain ⟨x2, hx2⟩ : ∃ x, x = (w).heap.size := ⟨_, rfl⟩
  rw [← hx2] at hb2 hxs2 ⊢
  have hxl2 : (w).heap.size ≤ x2 := by omega
  clear hx2
  have hb := h.bx.pure hg2
  obtain ⟨s0, -⟩ := hb.c 0 rfl
  obtain ⟨s1, -⟩ := hb.c 1 rfl
  obtain ⟨t1, -⟩ := hb2.c 1 rfl
  obtain ⟨t2, -⟩ := hb2.c 2 rfl
  obtain ⟨t3, -⟩ := hb2.c 3 rfl
  obtain ⟨t4, -⟩ := hb2.c 4 rfl
  clear h hx
  go_wp2_with fail
  refine (hM.out _).mono ?_
  rintro e w1 ⟨rfl, hg1⟩
  go_wp2_with fail
  go_ret
  exact ⟨rfl, hg2.t hg1⟩

set_option maxHeartbeats 800000 in
set_option maxRecDepth 100000 in
theorem indexSd_any (P : Pt) (gc : Nat) (A : Option Addr) (c : Nat) (l : List Sid) (w : World) (hl : Sl w 0 A l) (hp : SdH w gc P l) :
    Calls Tryz.prog 82 #[.slice A l.length c, .func (.func 49) #[] #[.pointer (some ⟨gc, 0, none⟩)]] w fun e w' => ∃ r : Int, e = .returned (.int .i64 r) ∧ decide (0 ≤ r) = l.any (onS P) ∧ w.grownBy w' none := by
  have hm := hl.1
  unfold maxLen at hm
  go_enter Tryz.func82, Tryz.ntmps82
  go_wp2
  go_loopw [8] (fun i wr => ∃ k : Nat, k ≤ l.length ∧ i = .int .i64 k ∧ w.grownBy wr none ∧ Hid ((l.take k).any (onS P) = false)) (fun i _ => l.length - (intOf i).toNat)
  case atStart => exact ⟨0, Nat.zero_le _, rfl, World.grownBy.refl _ _, by simp [Hid]⟩
  case round =>
    obtain ⟨k, hk, rfl, hg, hall⟩ := hrel
    by_cases hlt : k < l.length
    · obtain ⟨g, o, rfl, hcell⟩ := sl_sid (hl.pure hg) (by omega)
      obtain ⟨q0, q1, q2, q3, q4⟩ := hcell k hlt
      clear hcell
      have HS : Hid ((l.take (k + 1)).any (onS P) = ((l.take k).any (onS P) || (onS P) l[k])) := by rw [Hid, take_snoc hlt, List.any_append]; simp
      have HA : Hid ((onS P) l[k] = true → l.any (onS P) = true) := fun h => List.any_eq_true.2 ⟨_, List.getElem_mem _, h⟩
      have hmem := List.getElem_mem hlt
      have hp' := SdH.gr hp hg
      generalize l[k] = f at *
      obtain ⟨bb, hbb⟩ : ∃ bb, (onS P) f = bb := ⟨_, rfl⟩
      have hcon := inClo_any P gc l f wr hp' (hp'.bl _ hmem)
      simp only [hbb] at hcon HS HA
      replace hcon := hide hcon
      replace hbb := hide hbb
      replace HS := hide HS
      replace HA := hide HA
      replace hmem := hide hmem
      go_wp2_with fail
      refine (hcon.out).mono ?_
      rintro e w' ⟨rfl, hg'⟩
      cases bb
      · go_wp2_with fail
        (go_roundw; (case rel => exact ⟨k + 1, by omega, by go_num, gr_trans hg hg', by rw [Hid, HS.out, hall.out]; rfl⟩); (case measure => simp [intOf]; omega))
      · have HB := hide (HA.out rfl)
        go_wp2_with fail
        go_ret
        exact ⟨k, rfl, by rw [HB.out]; simp, gr_trans hg hg'⟩
    · have HB : Hid (l.any (onS P) = false) := by have := hall.out; rwa [List.take_of_length_le (by omega)] at this
      go_wp2
      go_ret
      exact ⟨-1, rfl, by rw [HB.out]; rfl, hg⟩

set_option maxHeartbeats 400000 in
theorem containsSd_any (P : Pt) (gc : Nat) (A : Option Addr) (c : Nat) (l : List Sid) (w : World) (hl : Sl w 0 A l) (hp : SdH w gc P l) :
    Calls Tryz.prog 47 #[.slice A l.length c, .func (.func 49) #[] #[.pointer (some ⟨gc, 0, none⟩)]] w fun e w' => e = .returned (.bool (l.any (onS P))) ∧ w.grownBy w' none := by
  go_enter Tryz.func47, Tryz.ntmps47
  go_wp2_with fail
  refine (indexSd_any _ _ _ _ _ _ hl (by assumption)).mono ?_
  rintro e w1 ⟨r, rfl, hr, hg⟩
  replace hr := hide hr
  go_wp2_with fail
  go_ret
  exact ⟨ret_bool hr.out, hg⟩

theorem sides_bd {rs : List (List Pt)} (hok : ROk rs) : ∀ x ∈ sidesK rs rs.length, bdP x.a ∧ bdP x.b := by
  intro x hx
  obtain ⟨i, hi, k, hk, rfl⟩ := mem_sidesK.1 hx
  have e : rs.getD i [] = rs[i] := by simp [List.getD, hi]
  rw [e]
  have h1 := hok.bd _ (List.getElem_mem hi)
  have h2 := (hok.len _ (List.getElem_mem hi)).1
  exact ⟨cor_bd h1 (by omega) k, cor_bd h1 (by omega) (k + 1)⟩
/-- what is wrong with a question -/
def insE (rs : List (List Pt)) (p : Pt) : Int := if regF rs ≠ 0 then regF rs else if farP p then 1 else 0

def insV (rs : List (List Pt)) (p : Pt) : Int := if insE rs p ≠ 0 then 0 else insF rs p

set_option maxHeartbeats 4000000 in
set_option maxRecDepth 100000 in
theorem inside_any (A : Option Addr) (c : Nat) (rs : List (List Pt)) (p : Pt) (w : World) (hl : Sl w 0 A rs) (hs : (flatK rs rs.length).length ≤ 100000) :
    Calls Tryz.prog 18 #[.slice A rs.length c, .agg #[.int .i64 p.x, .int .i64 p.y]] w fun e w' => e = .returned (.tuple #[.int .i64 (insV rs p), .int .i64 (insE rs p)]) ∧ w.grownBy w' none := by
  have hm := hl.1
  unfold maxLen at hm
  have hCR := hide fun W (hl : Sl W 0 A rs) => checkRegion_any A c rs W hl (by omega)
  obtain ⟨F, hF⟩ : ∃ F, F = regF rs := ⟨_, rfl⟩
  have hE : Hid (insE rs p = if F ≠ 0 then F else if farP p then 1 else 0) := by rw [Hid, insE, hF]
  rw [← hF] at hCR
  rcases hz : (F == 0) with _ | _
  · have hne : F ≠ 0 := by simpa using hz
    have hE' : Hid (insE rs p = F) := by rw [Hid, hE.out, if_pos hne]
    have hz' : (F != 0) = true := by simp [hne]
    clear hE hF
    go_enter Tryz.func18, Tryz.ntmps18
    go_upto_region 1 with fail
    obtain ⟨w3, hw3⟩ : ∃ x, x = (w).alloc (.cells [.int .i64 p.x, .int .i64 p.y].toArray 29) := ⟨_, rfl⟩
    have hg3 : (w).grownBy w3 none := by rw [hw3]; exact gr_alloc (World.grownBy.refl _ _) _
    have hb3 : Box w3 (w).heap.size 29 [.int .i64 p.x, .int .i64 p.y] := by rw [hw3]; exact Box.new _ _ _
    have hxs3 := hb3.lt
    rw [← hw3]
    clear hw3
    obtain ⟨x3, hx3⟩ : ∃ x, x = (w).heap.size := ⟨_, rfl⟩
    rw [← hx3] at hb3 hxs3 ⊢
    have hxl3 : (w).heap.size ≤ x3 := by omega
    clear hx3
    go_wp2_with fail
    refine (hCR.out _ (hl.pure hg3)).mono ?_
    rintro e w1 ⟨rfl, hg1⟩
    go_wp2_with fail
    go_ret2
    refine ⟨?_, hg3.t hg1⟩
    rw [hE'.out, insV, hE'.out, if_pos hne]
    rfl
  · have hF0 : F = 0 := by simpa using hz
    subst hF0
    clear hz
    have hok := hide (rok_of hF.symm)
    clear hF
    have hfar := hide (fun W => isFar_any p W)
    rcases hfp : farP p with _ | _
    · have hpb : bdP p := by
        simp only [farP, outB, Bool.or_eq_false_iff, decide_eq_false_iff_not] at hfp
        unfold bdP; omega
      have hE' : Hid (insE rs p = 0) := by rw [Hid, hE.out, if_neg (by simp), hfp]; rfl
      rw [hfp] at hfar
      have hSd := hide fun W (h : Sl W 0 A rs) => sidesG_any A c rs W h (fun r hr => by have := (hok.out.len r hr).1; omega) hs
      have hbl := hide (sides_bd hok.out)
      have hV : Hid (insF rs p = if (sidesK rs rs.length).any (onS p) then 0 else sgnB (parR rs p rs.length)) := by
        rw [Hid, insF]
        show (if onAny rs p = true then _ else _) = (if (sidesK rs rs.length).any (onS p) = true then (0 : Int) else _)
        have e : onAny rs p = (sidesK rs rs.length).any (onS p) := rfl
        rw [e]; rfl
      have hK := hide (sgn_next rs p)
      clear hE
      go_enter Tryz.func18, Tryz.ntmps18
      go_upto_region 1 with fail
      obtain ⟨w3, hw3⟩ : ∃ x, x = (w).alloc (.cells [.int .i64 p.x, .int .i64 p.y].toArray 29) := ⟨_, rfl⟩
      have hg3 : (w).grownBy w3 none := by rw [hw3]; exact gr_alloc (World.grownBy.refl _ _) _
      have hb3 : Box w3 (w).heap.size 29 [.int .i64 p.x, .int .i64 p.y] := by rw [hw3]; exact Box.new _ _ _
      have hxs3 := hb3.lt
      rw [← hw3]
      clear hw3
      obtain ⟨x3, hx3⟩ : ∃ x, x = (w).heap.size := ⟨_, rfl⟩
      rw [← hx3] at hb3 hxs3 ⊢
      have hxl3 : (w).heap.size ≤ x3 := by omega
      clear hx3
      go_wp2_with fail
      refine (hCR.out _ (hl.pure hg3)).mono ?_
      rintro e w1 ⟨rfl, hg1⟩
      replace hb3 := hb3.pure hg1
      obtain ⟨b0, -⟩ := hb3.c 0 rfl
      obtain ⟨b1, -⟩ := hb3.c 1 rfl
      replace hg3 := hg3.t hg1
      clear hg1 hCR
      go_wp2_with fail
      refine (hfar.out _).mono ?_
      rintro e w2 ⟨rfl, hg2⟩
      clear b0 b1 hfar
      replace hb3 := hb3.pure hg2
      replace hg3 := hg3.t hg2
      go_wp2_with fail
      refine (hSd.out _ (hl.pure hg3)).mono ?_
      rintro e w4 ⟨A4, c4, rfl, hO4, hg4⟩
      replace hb3 := hb3.pure hg4
      replace hg3 := hg3.t hg4
      have hsl4 := (hO4.sl).mono (Nat.zero_le _)
      have hSH : SdH w4 x3 p (sidesK rs rs.length) := ⟨hb3, hbl.out, hpb⟩
      clear hSd hO4 hg4 hg2 hbl
      generalize sidesK rs rs.length = L at *
      have hCF := hide (containsSd_any p x3 A4 c4 L w4 hsl4 hSH)
      clear hsl4 hSH
      go_wp2_with fail
      refine hCF.out.mono ?_
      rintro e w5 ⟨rfl, hg5⟩
      replace hb3 := hb3.pure hg5
      replace hg3 := hg3.t hg5
      clear hCF hg5
      rcases ha : L.any (onS p) with _ | _
      · rw [ha] at hV
        have hI := hide fun (k : Nat) (hk : k < rs.length) B d W (h : Sl W 0 B rs[k]) => isIn_any B d rs[k] p W h (by have := (hok.out.len _ (List.getElem_mem hk)).1; omega) (hok.out.len _ (List.getElem_mem hk)).2 (hok.out.bd _ (List.getElem_mem hk)) hpb
        replace hpb := hide hpb
        clear ha
        go_wp2_with fail
        go_loopw [7, 23] (fun s i wr => ∃ k : Nat, k ≤ rs.length ∧ i = .int .i64 k ∧ s = .int .i64 (sgnB (parR rs p k)) ∧ Box wr x3 29 [.int .i64 p.x, .int .i64 p.y] ∧ w.grownBy wr none) (fun _ i _ => rs.length - (intOf i).toNat)
        case atStart => exact ⟨0, Nat.zero_le _, rfl, rfl, hb3, hg3⟩
        case round =>
          clear hb3 hg3
          obtain ⟨k, hk, rfl, rfl, hb3, hg3⟩ := hrel
          by_cases hlt : k < rs.length
          · obtain ⟨g, o, Bk, dk, rfl, hb1, c0, -, hsl⟩ := sl_inner' (hl.pure hg3) hlt
            have hIk := hide (hI.out k hlt Bk dk wr hsl)
            have hKk := hide (hK.out k)
            have e : rs.getD k [] = rs[k] := by simp [List.getD, hlt]
            rw [e] at hKk
            obtain ⟨b0, -⟩ := hb3.c 0 rfl
            obtain ⟨b1, -⟩ := hb3.c 1 rfl
            generalize isInF rs[k] p = v at *
            obtain ⟨n, hn⟩ : ∃ n, n = rs[k].length := ⟨_, rfl⟩
            rw [← hn] at c0 hIk
            obtain ⟨z, hz⟩ : ∃ z, z = sgnB (parR rs p k) := ⟨_, rfl⟩
            have hzb : z = 1 ∨ z = -1 := by rw [hz]; unfold sgnB; split <;> simp
            have hzb' : -1 ≤ z ∧ z ≤ 1 := by omega
            clear hzb
            rw [← hz] at hKk ⊢
            replace hz := hide hz
            replace hn := hide hn
            clear e hsl
            go_wp2_with fail
            refine hIk.out.mono ?_
            rintro e w7 ⟨rfl, hg7⟩
            replace hb3 := hb3.pure hg7
            replace hg3 := hg3.t hg7
            clear b0 b1 c0 hIk hg7
            cases v
            · have hr := hide (hKk.out.trans (if_neg (by simp)))
              clear hKk
              go_wp2_with fail
              (go_roundw; (case rel => exact ⟨k + 1, by omega, by go_num, by rw [hr.out], hb3, hg3⟩); (case measure => simp [intOf]; omega))
            · have hr := hide (hKk.out.trans (if_pos rfl))
              clear hKk
              go_wp2_with fail
              (go_roundw; (case rel => exact ⟨k + 1, by omega, by go_num, by rw [hr.out], hb3, hg3⟩); (case measure => simp [intOf]; omega))
          · obtain rfl : k = rs.length := by omega
            go_wp2_with fail
            go_ret2
            refine ⟨?_, hg3⟩
            rw [hE'.out, insV, hE'.out, hV.out]
            simp
      · rw [ha] at hV
        go_wp2_with fail
        go_ret2
        refine ⟨?_, hg3⟩
        rw [hE'.out, insV, hE'.out, hV.out]
        simp
    · have hE' : Hid (insE rs p = 1) := by rw [Hid, hE.out, if_neg (by simp), hfp]; rfl
      rw [hfp] at hfar
      clear hE
      go_enter Tryz.func18, Tryz.ntmps18
      go_upto_region 1 with fail
      obtain ⟨w3, hw3⟩ : ∃ x, x = (w).alloc (.cells [.int .i64 p.x, .int .i64 p.y].toArray 29) := ⟨_, rfl⟩
      have hg3 : (w).grownBy w3 none := by rw [hw3]; exact gr_alloc (World.grownBy.refl _ _) _
      have hb3 : Box w3 (w).heap.size 29 [.int .i64 p.x, .int .i64 p.y] := by rw [hw3]; exact Box.new _ _ _
      have hxs3 := hb3.lt
      rw [← hw3]
      clear hw3
      obtain ⟨x3, hx3⟩ : ∃ x, x = (w).heap.size := ⟨_, rfl⟩
      rw [← hx3] at hb3 hxs3 ⊢
      have hxl3 : (w).heap.size ≤ x3 := by omega
      clear hx3
      go_wp2_with fail
      refine (hCR.out _ (hl.pure hg3)).mono ?_
      rintro e w1 ⟨rfl, hg1⟩
      replace hb3 := hb3.pure hg1
      obtain ⟨b0, -⟩ := hb3.c 0 rfl
      obtain ⟨b1, -⟩ := hb3.c 1 rfl
      replace hg3 := hg3.t hg1
      clear hg1 hCR
      go_wp2_with fail
      refine (hfar.out _).mono ?_
      rintro e w2 ⟨rfl, hg2⟩
      go_wp2_with fail
      go_ret2
      refine ⟨?_, hg3.t hg2⟩
      rw [hE'.out, insV, hE'.out]
      simp

end Go.Proofs.YtejmbaiioblfeaaGreatDoor

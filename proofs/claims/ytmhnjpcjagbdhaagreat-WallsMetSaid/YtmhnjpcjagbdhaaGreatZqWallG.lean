/- Contracts of functions that this seat's laws reach, each: what one call returns and what it leaves in memory; no condition beyond each theorem's own hypotheses. -/
import Derived.Test.YtmhnjpcjagbdhaaGreatZqPathN
import Derived.Test.YtmhnjpcjagbdhaaGreatZqWallC
import Derived.Test.YtmhnjpcjagbdhaaGreatZqJm
import Derived.Deep.DeepCutAuto
set_option linter.unusedVariables false
set_option linter.unusedSimpArgs false
namespace Go.Proofs.YtmhnjpcjagbdhaaGreat
open Go.RowKit Go.Bl

/-- the visits to which the head travels far, or over a side -/
def retW (rs : List (List Pt)) (l : List PathV) (st : Pt) (o : List Vis) (free : Int) : Nat → List Int
  | 0 => []
  | k + 1 => retW rs l st o free k ++ (if free < distP (travS l st (o.take k)).1 (eA l (o.getD k default)) ∨ 0 < metF rs (travS l st (o.take k)).1 (eA l (o.getD k default)) then [(k : Int)] else [])

theorem retW_len (rs : List (List Pt)) (l : List PathV) (st : Pt) (o : List Vis) (free : Int) : ∀ k, (retW rs l st o free k).length ≤ k
  | 0 => by simp [retW]
  | k + 1 => by
    have := retW_len rs l st o free k
    unfold retW
    rw [List.length_append]
    split <;> simp <;> omega

theorem near_bdP {p : Pt} (h : near p) : bdP p := by unfold near at h; unfold bdP; omega

set_option maxHeartbeats 4000000 in
set_option maxRecDepth 100000 in
theorem retrW_any (A : Option Addr) (c : Nat) (l : List PathV) (B : Option Addr) (d : Nat) (o : List Vis) (st : Pt) (free : Int) (R0 : Option Addr) (rc : Nat) (rs : List (List Pt)) (w : World) (hw : Sl w 0 R0 rs) (hrF : regF rs = 0) (hrs : (flatK rs rs.length).length ≤ 1000000) (hl : Sl w 0 A l) (ho : Sl w 0 B o) (hst : near st) (hsf : farP st = false) (hO : orderF l o = 0) (hfr : 0 ≤ free ∧ free ≤ 1000000) :
    Calls Tryz.prog 11 #[.slice R0 rs.length rc, .agg #[.int .i64 st.x, .int .i64 st.y], .slice A l.length c, .slice B o.length d, .int .i64 free] w fun e w' => ∃ (A' : Option Addr) (c' : Nat), e = .returned (.tuple #[.slice A' (retW rs l st o free o.length).length c', .int .i64 0]) ∧ Own w' w.heap.size 3 A' c' (retW rs l st o free o.length) ∧ w.grownBy w' none := by
  obtain ⟨hl2, hol, hov⟩ := orderF_zero hO
  have hom : o.length ≤ 200 := by omega
  clear hol
  have hF := fun W => isFar_any st W
  rw [hsf] at hF
  have hR := fun W (hx : w.grownBy W none) => checkRegion_any R0 rc rs W (hw.pure hx) hrs
  rw [hrF] at hR
  have hMet := hide (fun W (hx : w.grownBy W none) a b ha hb => met_any R0 rc rs a b W (hw.pure hx) (rings_ok hrF).1 (rings_ok hrF).2 ha hb)
  replace hrF := hide hrF
  have hC := fun W h1 h2 => checkOrder_any A c l B d o W h1 h2
  rw [hO] at hC
  have hUt : Hid (outB free 0 1000000 = false) := by simp [Hid, outB]; omega
  replace hov := hide hov
  replace hF := hide hF
  replace hR := hide hR
  replace hC := hide hC
  clear hO hsf
  obtain ⟨W, hW⟩ : ∃ x, x = w.alloc (.cells [.int .i64 st.x, .int .i64 st.y].toArray 29) := ⟨_, rfl⟩
  have hB0 : Box W w.heap.size 29 [.int .i64 st.x, .int .i64 st.y] := by rw [hW]; exact Box.new _ _ _
  have hgW : w.grownBy W none := by rw [hW]; exact gr_alloc (World.grownBy.refl _ _) _
  have s0 := (hB0.c 0 rfl).1
  have s1 := (hB0.c 1 rfl).1
  replace hW := hide hW.symm
  go_enter Tryz.func11, Tryz.ntmps11
  go_upto_region 1 with fail
  rw [show w.alloc (.cells #[.int .i64 st.x, .int .i64 st.y] 29) = W from hW.out]
  clear hW
  go_wp2_with fail
  refine (hF.out _).mono ?_
  rintro e w1 ⟨rfl, h1⟩
  clear s0 s1
  go_wp2_with fail
  refine (hR.out _ (gr_trans hgW h1)).mono ?_
  rintro e w2 ⟨rfl, h2⟩
  replace h2 := gr_trans h1 h2
  clear h1
  have hlw := hl.pure (gr_trans hgW h2)
  have how := ho.pure (gr_trans hgW h2)
  go_wp2_with fail
  refine (hC.out _ hlw how).mono ?_
  rintro e w3 ⟨rfl, h3⟩
  replace h3 := gr_trans h2 h3
  clear h2 hlw how hC hR hF
  go_wp2_with (go_at_call 42; refine (outside_any _ _ _ _).mono ?_; rintro _ _ ⟨rfl, rfl⟩; rw [hUt.out])
  have hB3 := hB0.pure h3
  have hg3 := gr_trans hgW h3
  have hl3 := hl.pure hg3
  have ho3 := ho.pure hg3
  have hgs := hB3.lt
  clear hB0 h3 hgW hUt
  obtain ⟨gs, hgse⟩ : ∃ x, x = w.heap.size := ⟨_, rfl⟩
  rw [← hgse] at hB3 hgs ⊢
  have hgsw : w.heap.size ≤ gs := by omega
  clear hgse
  go_loopw [14, 36] (fun s i wr => ∃ (k : Nat) (A2 : Option Addr) (c2 : Nat), k ≤ o.length ∧ i = .int .i64 k ∧ s = .slice A2 (retW rs l st o free k).length c2 ∧ Own wr w3.heap.size 3 A2 c2 (retW rs l st o free k) ∧ Box wr gs 29 [.int .i64 (travS l st (o.take k)).1.x, .int .i64 (travS l st (o.take k)).1.y] ∧ w3.heap.size ≤ wr.heap.size ∧ w.grownBy wr none) (fun _ i _ => o.length - (intOf i).toNat)
  case atStart => exact ⟨0, none, 0, Nat.zero_le _, rfl, rfl, Own.nil _ _ _, hB3, Nat.le_refl _, hg3⟩
  case round =>
    obtain ⟨k, A2, c2, hk, rfl, rfl, hOw, hBx, hsz, hg⟩ := hrel
    by_cases hlt : k < o.length
    · have hv := hov.out _ (List.getElem_mem hlt)
      have HT : Hid ((travS l st (o.take (k + 1))).1 = eB l o[k]) := by rw [Hid, take_snoc hlt, travS_snoc]
      have HR : Hid (retW rs l st o free (k + 1) = retW rs l st o free k ++ (if free < distP (travS l st (o.take k)).1 (eA l o[k]) ∨ 0 < metF rs (travS l st (o.take k)).1 (eA l o[k]) then [(k : Int)] else [])) := by
        rw [Hid]; conv => lhs; unfold retW
        rw [List.getD_eq_getElem?_getD, List.getElem?_eq_getElem hlt, Option.getD_some]
      have hRl : (retW rs l st o free k).length ≤ k := retW_len rs l st o free k
      have hnp := (travS_bd hst hov.out k hk).1
      have hnA := hv.nA
      have hgsl := hBx.lt
      obtain ⟨gv, ov, cx, rfl, hb0, hb1, rfl, hc⟩ := (ho.pure hg).at_ (by decide) hlt
      have v0 : wr.cell? ⟨gv, ov + k * 3, none⟩ = some (.int .i64 o[k].path) := hc 0 _ rfl
      have v1 : wr.cell? ⟨gv, ov + k * 3 + 1, none⟩ = some (.int .i64 o[k].start) := hc 1 _ rfl
      have v2 : wr.cell? ⟨gv, ov + k * 3 + 2, none⟩ = some (.bool o[k].back) := hc 2 _ rfl
      clear hc
      have hal := gr_alloc (World.grownBy.refl wr none) (.cells #[.int .i64 o[k].path, .int .i64 o[k].start, .bool o[k].back] 68)
      have hEn := hide (ends_any A c l o[k] _ ((hl.pure hg).pure hal) hv)
      clear hv
      generalize eA l o[k] = pa at *
      generalize eB l o[k] = pb at *
      generalize o[k] = v at *
      generalize hrk : retW rs l st o free k = R at *
      replace hrk := hide hrk
      generalize (travS l st (o.take k)).1 = pp at *
      have hDi := hide fun W => distance_any pp pa W hnp hnA
      go_wp2_with fail
      refine hEn.out.mono ?_
      rintro e w5 ⟨rfl, h5⟩
      replace h5 := gr_trans hal h5
      have hB5 := hBx.pure h5
      have hO5 := hOw.pure h5
      have hg5 := gr_trans hg h5
      have hsz5 := Nat.le_trans hsz h5.size
      have hgs5 := hB5.lt
      obtain ⟨q0, -⟩ := hB5.c 0 rfl
      obtain ⟨q1, -⟩ := hB5.c 1 rfl
      clear hEn hBx hOw hg hal v0 v1 v2 h5
      go_wp2_with fail
      refine (hDi.out _).mono ?_
      rintro e w6 ⟨rfl, h6⟩
      have a0 := (h6).k (p := ⟨w5.heap.size, 0, none⟩) (v := .int .i64 pa.x) (by go_simp)
      have a1 := (h6).k (p := ⟨w5.heap.size, 1, none⟩) (v := .int .i64 pa.y) (by go_simp)
      have hbb := (show Box ((w5.alloc (.cells [.int .i64 pa.x, .int .i64 pa.y].toArray 29)).alloc (.cells [.int .i64 pb.x, .int .i64 pb.y].toArray 29)) (w5.heap.size + 1) 29 [.int .i64 pb.x, .int .i64 pb.y] by
        rw [show w5.heap.size + 1 = (w5.alloc (.cells [.int .i64 pa.x, .int .i64 pa.y].toArray 29)).heap.size by simp]; exact Box.new _ _ _).pure h6
      replace h6 := gr_trans (gr_alloc (gr_alloc (World.grownBy.refl w5 none) (.cells #[.int .i64 pa.x, .int .i64 pa.y] 29)) (.cells #[.int .i64 pb.x, .int .i64 pb.y] 29)) h6
      have hB6 := hB5.pure h6
      have hO6 := hO5.pure h6
      have hg6 := gr_trans hg5 h6
      have hsz6 := Nat.le_trans hsz5 h6.size
      clear hB5 hO5 hg5 hDi q0 q1 h6
      obtain ⟨q0, z0⟩ := hB6.c 0 rfl
      obtain ⟨q1, z1⟩ := hB6.c 1 rfl
      have hgb : w5.heap.size + 1 ≠ gs := by omega
      generalize w5.heap.size + 1 = gb at *
      have hMe := fun wx (hx : w.grownBy wx none) => hMet.out wx hx pp pa (near_bdP hnp) (near_bdP hnA)
      by_cases hd : free < distP pp pa
      · rw [if_pos (.inl hd)] at HR
        clear hMe
        generalize distP pp pa = D at *
        go_wp2_with (at_builtin; obtain ⟨i0, hi, hz, h1, h2⟩ := info_parts info_int; refine wpList_pushAt (α := Int) _ rfl (.tmp 59) (.tmp 61) _ rfl w3.heap.size 3 i0 _ 8 Tryz.underlying22 hi hz h1 h2 rfl _ _ _ R rfl ?c1 (by exact (hO6.pure (by repeat (first | exact World.grownBy.refl _ _ | assumption | refine gr_alloc ?_ _ | (apply gr_tail; assumption) | refine gr_drewN ?_ _ | refine gr_drew ?_)))) 0 ⟨_, 0, none⟩ 1 1 [(k : Int)] rfl rfl (by exact sl_int1 _ _ _ _ (by first | rfl | simp)) ?c2 ?c3 ?c4 ?_)
        case c1 => rfl
        case c2 => simp; omega
        case c3 => simp [maxLen]; omega
        case c4 => simp; omega
        intro A9 c9 w9 hO9 hG9
        have hal := gr_alloc (World.grownBy.refl w6 none) (.cells #[.int .i64 (k : Int)] 3)
        have hB9 := (hB6.pure hal).gr hG9.1 (hB6.ne_own hO6 (by decide))
        have hb9 := (hbb.pure hal).gr hG9.1 (hbb.ne_own hO6 (by decide))
        have hg9 := gr_row (gr_trans hg6 hal) hG9.1 (fun x e => by have := (hO6.blk_lt e).1; have := hg3.size; omega)
        have hsz9 := Nat.le_trans hsz6 (Nat.le_trans hal.size hG9.1.size)
        clear hG9 hal q0 q1 z0 z1 hB6 hbb hO6
        rw [← HR.out] at hO9
        have hRl2 : Hid ((retW rs l st o free (k + 1)).length = R.length + 1) := by rw [Hid, HR.out, List.length_append]; rfl
        obtain ⟨q0, z0⟩ := hB9.c 0 rfl
        obtain ⟨q1, z1⟩ := hB9.c 1 rfl
        obtain ⟨b0, -⟩ := hb9.c 0 rfl
        obtain ⟨b1, -⟩ := hb9.c 1 rfl
        have hB10 := hB9.set_ 0 (.int .i64 pb.x) (by simp)
        have hO10 := hO9.set_other (i := 0) (.int .i64 pb.x) (hB9.ne_own hO9 (by decide))
        have hB11 := hide (hB10.set_ 1 (.int .i64 pb.y) (by simp))
        have hO11 := hide (hO10.set_other (i := 1) (.int .i64 pb.y) (hB10.ne_own hO10 (by decide)))
        have hg11 := hide (gr_set (gr_set hg9 (p := ⟨gs, 0, none⟩) (.inr hgsw) (.int .i64 pb.x)) (p := ⟨gs, 1, none⟩) (.inr hgsw) (.int .i64 pb.y))
        have hgz := gr_set (gr_set (World.grownBy.refl w9 (some gs)) (p := ⟨gs, 0, none⟩) (.inl rfl) (.int .i64 pb.x)) (p := ⟨gs, 1, none⟩) (.inl rfl) (.int .i64 pb.y)
        have hsz11 := hide (Nat.le_trans hsz9 hgz.size)
        clear hB10 hO10 hg9 hgz hB9 hb9 hO9
        go_wp2_with fail
        refine ⟨⟨k + 1, A9, c9, by omega, by go_num, by rw [hRl2.out], hO11.out, by rw [HT.out]; exact hB11.out, hsz11.out, hg11.out⟩, by simp [intOf]; omega⟩
      · by_cases hd2 : 0 < metF rs pp pa
        · rw [if_pos (.inr hd2)] at HR
          generalize metF rs pp pa = Mt at *
          generalize distP pp pa = D at *
          go_wp2_with fail
          refine (hMe _ hg6).mono ?_
          rintro e w7 ⟨rfl, h7⟩
          have hB7 := hB6.pure h7
          have hO7 := hO6.pure h7
          have hbb7 := hbb.pure h7
          have hg7 := gr_trans hg6 h7
          have hsz7 := Nat.le_trans hsz6 h7.size
          clear h7 hB6 hO6 hbb hg6 q0 q1 z0 z1 hMe
          go_wp2_with (at_builtin; obtain ⟨i0, hi, hz, h1, h2⟩ := info_parts info_int; refine wpList_pushAt (α := Int) _ rfl (.tmp 59) (.tmp 61) _ rfl w3.heap.size 3 i0 _ 8 Tryz.underlying22 hi hz h1 h2 rfl _ _ _ R rfl ?c1 (by exact (hO7.pure (by repeat (first | exact World.grownBy.refl _ _ | assumption | refine gr_alloc ?_ _ | (apply gr_tail; assumption) | refine gr_drewN ?_ _ | refine gr_drew ?_)))) 0 ⟨_, 0, none⟩ 1 1 [(k : Int)] rfl rfl (by exact sl_int1 _ _ _ _ (by first | rfl | simp)) ?c2 ?c3 ?c4 ?_)
          case c1 => rfl
          case c2 => simp; omega
          case c3 => simp [maxLen]; omega
          case c4 => simp; omega
          intro A9 c9 w9 hO9 hG9
          have hal := gr_alloc (World.grownBy.refl w7 none) (.cells #[.int .i64 (k : Int)] 3)
          have hB9 := (hB7.pure hal).gr hG9.1 (hB7.ne_own hO7 (by decide))
          have hb9 := (hbb7.pure hal).gr hG9.1 (hbb7.ne_own hO7 (by decide))
          have hg9 := gr_row (gr_trans hg7 hal) hG9.1 (fun x e => by have := (hO7.blk_lt e).1; have := hg3.size; omega)
          have hsz9 := Nat.le_trans hsz7 (Nat.le_trans hal.size hG9.1.size)
          clear hG9 hal hB7 hbb7 hO7
          rw [← HR.out] at hO9
          have hRl2 : Hid ((retW rs l st o free (k + 1)).length = R.length + 1) := by rw [Hid, HR.out, List.length_append]; rfl
          obtain ⟨q0, z0⟩ := hB9.c 0 rfl
          obtain ⟨q1, z1⟩ := hB9.c 1 rfl
          obtain ⟨b0, -⟩ := hb9.c 0 rfl
          obtain ⟨b1, -⟩ := hb9.c 1 rfl
          have hB10 := hB9.set_ 0 (.int .i64 pb.x) (by simp)
          have hO10 := hO9.set_other (i := 0) (.int .i64 pb.x) (hB9.ne_own hO9 (by decide))
          have hB11 := hide (hB10.set_ 1 (.int .i64 pb.y) (by simp))
          have hO11 := hide (hO10.set_other (i := 1) (.int .i64 pb.y) (hB10.ne_own hO10 (by decide)))
          have hg11 := hide (gr_set (gr_set hg9 (p := ⟨gs, 0, none⟩) (.inr hgsw) (.int .i64 pb.x)) (p := ⟨gs, 1, none⟩) (.inr hgsw) (.int .i64 pb.y))
          have hgz := gr_set (gr_set (World.grownBy.refl w9 (some gs)) (p := ⟨gs, 0, none⟩) (.inl rfl) (.int .i64 pb.x)) (p := ⟨gs, 1, none⟩) (.inl rfl) (.int .i64 pb.y)
          have hsz11 := hide (Nat.le_trans hsz9 hgz.size)
          clear hB10 hO10 hg9 hgz hB9 hb9 hO9
          go_wp2_with fail
          refine ⟨⟨k + 1, A9, c9, by omega, by go_num, by rw [hRl2.out], hO11.out, by rw [HT.out]; exact hB11.out, hsz11.out, hg11.out⟩, by simp [intOf]; omega⟩
        · rw [if_neg (fun e => e.elim hd hd2), List.append_nil] at HR
          generalize metF rs pp pa = Mt at *
          generalize distP pp pa = D at *
          go_wp2_with fail
          refine (hMe _ hg6).mono ?_
          rintro e w9 ⟨rfl, h9⟩
          have hB9 := hB6.pure h9
          have hb9 := hbb.pure h9
          have hg9 := gr_trans hg6 h9
          have hsz9 := Nat.le_trans hsz6 h9.size
          have hO9 := hO6.pure h9
          clear h9 q0 q1 z0 z1 hB6 hbb hO6 hMe
          obtain ⟨A9, rfl⟩ : ∃ x, x = A2 := ⟨_, rfl⟩
          obtain ⟨c9, rfl⟩ : ∃ x, x = c2 := ⟨_, rfl⟩
          rw [← HR.out] at hO9
          have hRl2 : Hid ((retW rs l st o free (k + 1)).length = R.length) := by rw [Hid, HR.out]
          obtain ⟨q0, z0⟩ := hB9.c 0 rfl
          obtain ⟨q1, z1⟩ := hB9.c 1 rfl
          obtain ⟨b0, -⟩ := hb9.c 0 rfl
          obtain ⟨b1, -⟩ := hb9.c 1 rfl
          have hB10 := hB9.set_ 0 (.int .i64 pb.x) (by simp)
          have hO10 := hO9.set_other (i := 0) (.int .i64 pb.x) (hB9.ne_own hO9 (by decide))
          have hB11 := hide (hB10.set_ 1 (.int .i64 pb.y) (by simp))
          have hO11 := hide (hO10.set_other (i := 1) (.int .i64 pb.y) (hB10.ne_own hO10 (by decide)))
          have hg11 := hide (gr_set (gr_set hg9 (p := ⟨gs, 0, none⟩) (.inr hgsw) (.int .i64 pb.x)) (p := ⟨gs, 1, none⟩) (.inr hgsw) (.int .i64 pb.y))
          have hgz := gr_set (gr_set (World.grownBy.refl w9 (some gs)) (p := ⟨gs, 0, none⟩) (.inl rfl) (.int .i64 pb.x)) (p := ⟨gs, 1, none⟩) (.inl rfl) (.int .i64 pb.y)
          have hsz11 := hide (Nat.le_trans hsz9 hgz.size)
          clear hB10 hO10 hg9 hgz hB9 hb9 hO9
          go_wp2_with fail
          refine ⟨⟨k + 1, A9, c9, by omega, by go_num, by rw [hRl2.out], hO11.out, by rw [HT.out]; exact hB11.out, hsz11.out, hg11.out⟩, by simp [intOf]; omega⟩
    · have hkn : k = o.length := by omega
      subst hkn
      clear hBx
      generalize hrk : retW rs l st o free o.length = R at *
      replace hrk := hide hrk
      go_wp2_with fail
      refine bodyPost_ret (v := .tuple #[.slice A2 R.length c2, .int .i64 0]) (by simp [results, Tryz.results11, go_sem]) rfl ⟨A2, c2, ?_, ?_, hg⟩
      · rw [hrk.out]
      · rw [hrk.out]; exact hOw.lower hg3.size

end Go.Proofs.YtmhnjpcjagbdhaaGreat

namespace Go.Proofs.YtmhnjpcjagbdhaaGreat
open Go.RowKit Go.Bl

set_option maxHeartbeats 4000000 in
set_option maxRecDepth 100000 in
theorem retrWRef_any (A : Option Addr) (c : Nat) (l : List PathV) (B : Option Addr) (d : Nat) (o : List Vis) (st : Pt) (free : Int) (R0 : Option Addr) (rc : Nat) (rs : List (List Pt)) (w : World) (hw : Sl w 0 R0 rs) (hrF : regF rs = 0) (hrs : (flatK rs rs.length).length ≤ 1000000) (hl : Sl w 0 A l) (ho : Sl w 0 B o) (hst : near st) (hsf : farP st = false) (hO : orderF l o = 0) (hfr : 0 ≤ free ∧ free ≤ 1000000) :
    Calls Tryz.prog 19 #[.slice R0 rs.length rc, .agg #[.int .i64 st.x, .int .i64 st.y], .slice A l.length c, .slice B o.length d, .int .i64 free] w fun e w' => ∃ (A' : Option Addr) (c' : Nat), e = .returned (.slice A' (retW rs l st o free o.length).length c') ∧ Own w' w.heap.size 3 A' c' (retW rs l st o free o.length) ∧ w.grownBy w' none := by
  obtain ⟨hl2, hol, hov⟩ := orderF_zero hO
  have hom : o.length ≤ 200 := by omega
  clear hol
  have hMet := hide (fun W (hx : w.grownBy W none) a b ha hb => meetsOf_any R0 rc rs a b W (hw.pure hx) (rings_ok hrF).1 (rings_ok hrF).2 ha hb)
  replace hrF := hide hrF
  replace hov := hide hov
  clear hO hsf
  obtain ⟨W, hW⟩ : ∃ x, x = w.alloc (.cells [.int .i64 st.x, .int .i64 st.y].toArray 29) := ⟨_, rfl⟩
  have hB0 : Box W w.heap.size 29 [.int .i64 st.x, .int .i64 st.y] := by rw [hW]; exact Box.new _ _ _
  have hgW : w.grownBy W none := by rw [hW]; exact gr_alloc (World.grownBy.refl _ _) _
  have s0 := (hB0.c 0 rfl).1
  have s1 := (hB0.c 1 rfl).1
  replace hW := hide hW.symm
  go_enter Tryz.func19, Tryz.ntmps19
  go_upto_region 1 with fail
  rw [show w.alloc (.cells #[.int .i64 st.x, .int .i64 st.y] 29) = W from hW.out]
  clear hW
  go_wp2_with fail
  obtain ⟨w3, hw3⟩ : ∃ x, x = W := ⟨_, rfl⟩
  have h3 : W.grownBy w3 none := by rw [hw3]; exact World.grownBy.refl _ _
  rw [← hw3]
  clear hw3 s0 s1
  have hB3 := hB0.pure h3
  have hg3 := gr_trans hgW h3
  have hl3 := hl.pure hg3
  have ho3 := ho.pure hg3
  have hgs := hB3.lt
  clear hB0 h3 hgW
  obtain ⟨gs, hgse⟩ : ∃ x, x = w.heap.size := ⟨_, rfl⟩
  rw [← hgse] at hB3 hgs ⊢
  have hgsw : w.heap.size ≤ gs := by omega
  clear hgse
  go_loopw [11, 18] (fun s i wr => ∃ (k : Nat) (A2 : Option Addr) (c2 : Nat), k ≤ o.length ∧ i = .int .i64 k ∧ s = .slice A2 (retW rs l st o free k).length c2 ∧ Own wr w3.heap.size 3 A2 c2 (retW rs l st o free k) ∧ Box wr gs 29 [.int .i64 (travS l st (o.take k)).1.x, .int .i64 (travS l st (o.take k)).1.y] ∧ w3.heap.size ≤ wr.heap.size ∧ w.grownBy wr none) (fun _ i _ => o.length - (intOf i).toNat)
  case atStart => exact ⟨0, none, 0, Nat.zero_le _, rfl, rfl, Own.nil _ _ _, hB3, Nat.le_refl _, hg3⟩
  case round =>
    obtain ⟨k, A2, c2, hk, rfl, rfl, hOw, hBx, hsz, hg⟩ := hrel
    by_cases hlt : k < o.length
    · have hv := hov.out _ (List.getElem_mem hlt)
      have HT : Hid ((travS l st (o.take (k + 1))).1 = eB l o[k]) := by rw [Hid, take_snoc hlt, travS_snoc]
      have HR : Hid (retW rs l st o free (k + 1) = retW rs l st o free k ++ (if free < distP (travS l st (o.take k)).1 (eA l o[k]) ∨ 0 < metF rs (travS l st (o.take k)).1 (eA l o[k]) then [(k : Int)] else [])) := by
        rw [Hid]; conv => lhs; unfold retW
        rw [List.getD_eq_getElem?_getD, List.getElem?_eq_getElem hlt, Option.getD_some]
      have hRl : (retW rs l st o free k).length ≤ k := retW_len rs l st o free k
      have hnp := (travS_bd hst hov.out k hk).1
      have hnA := hv.nA
      have hgsl := hBx.lt
      obtain ⟨gv, ov, cx, rfl, hb0, hb1, rfl, hc⟩ := (ho.pure hg).at_ (by decide) hlt
      have v0 : wr.cell? ⟨gv, ov + k * 3, none⟩ = some (.int .i64 o[k].path) := hc 0 _ rfl
      have v1 : wr.cell? ⟨gv, ov + k * 3 + 1, none⟩ = some (.int .i64 o[k].start) := hc 1 _ rfl
      have v2 : wr.cell? ⟨gv, ov + k * 3 + 2, none⟩ = some (.bool o[k].back) := hc 2 _ rfl
      clear hc
      have hal := gr_alloc (World.grownBy.refl wr none) (.cells #[.int .i64 o[k].path, .int .i64 o[k].start, .bool o[k].back] 68)
      have hEn := hide (endsRef_any A c l o[k] _ ((hl.pure hg).pure hal) hv)
      clear hv
      generalize eA l o[k] = pa at *
      generalize eB l o[k] = pb at *
      generalize o[k] = v at *
      generalize hrk : retW rs l st o free k = R at *
      replace hrk := hide hrk
      generalize (travS l st (o.take k)).1 = pp at *
      have hDi := hide fun W => apart_any pp pa W hnp hnA
      go_wp2_with fail
      refine hEn.out.mono ?_
      rintro e w5 ⟨rfl, h5⟩
      replace h5 := gr_trans hal h5
      have hB5 := hBx.pure h5
      have hO5 := hOw.pure h5
      have hg5 := gr_trans hg h5
      have hsz5 := Nat.le_trans hsz h5.size
      have hgs5 := hB5.lt
      obtain ⟨q0, -⟩ := hB5.c 0 rfl
      obtain ⟨q1, -⟩ := hB5.c 1 rfl
      clear hEn hBx hOw hg hal v0 v1 v2 h5
      go_wp2_with fail
      refine (hDi.out _).mono ?_
      rintro e w6 ⟨rfl, h6⟩
      have a0 := (h6).k (p := ⟨w5.heap.size, 0, none⟩) (v := .int .i64 pa.x) (by go_simp)
      have a1 := (h6).k (p := ⟨w5.heap.size, 1, none⟩) (v := .int .i64 pa.y) (by go_simp)
      have hbb := (show Box ((w5.alloc (.cells [.int .i64 pa.x, .int .i64 pa.y].toArray 29)).alloc (.cells [.int .i64 pb.x, .int .i64 pb.y].toArray 29)) (w5.heap.size + 1) 29 [.int .i64 pb.x, .int .i64 pb.y] by
        rw [show w5.heap.size + 1 = (w5.alloc (.cells [.int .i64 pa.x, .int .i64 pa.y].toArray 29)).heap.size by simp]; exact Box.new _ _ _).pure h6
      replace h6 := gr_trans (gr_alloc (gr_alloc (World.grownBy.refl w5 none) (.cells #[.int .i64 pa.x, .int .i64 pa.y] 29)) (.cells #[.int .i64 pb.x, .int .i64 pb.y] 29)) h6
      have hB6 := hB5.pure h6
      have hO6 := hO5.pure h6
      have hg6 := gr_trans hg5 h6
      have hsz6 := Nat.le_trans hsz5 h6.size
      clear hB5 hO5 hg5 hDi q0 q1 h6
      obtain ⟨q0, z0⟩ := hB6.c 0 rfl
      obtain ⟨q1, z1⟩ := hB6.c 1 rfl
      have hgb : w5.heap.size + 1 ≠ gs := by omega
      generalize w5.heap.size + 1 = gb at *
      have hMe := fun wx (hx : w.grownBy wx none) => hMet.out wx hx pp pa (near_bdP hnp) (near_bdP hnA)
      by_cases hd : free < distP pp pa
      · rw [if_pos (.inl hd)] at HR
        clear hMe
        generalize distP pp pa = D at *
        go_wp2_with (at_builtin; obtain ⟨i0, hi, hz, h1, h2⟩ := info_parts info_int; refine wpList_pushAt (α := Int) _ rfl (.tmp 41) (.tmp 43) _ rfl w3.heap.size 3 i0 _ 8 Tryz.underlying22 hi hz h1 h2 rfl _ _ _ R rfl ?c1 (by exact (hO6.pure (by repeat (first | exact World.grownBy.refl _ _ | assumption | refine gr_alloc ?_ _ | (apply gr_tail; assumption) | refine gr_drewN ?_ _ | refine gr_drew ?_)))) 0 ⟨_, 0, none⟩ 1 1 [(k : Int)] rfl rfl (by exact sl_int1 _ _ _ _ (by first | rfl | simp)) ?c2 ?c3 ?c4 ?_)
        case c1 => rfl
        case c2 => simp; omega
        case c3 => simp [maxLen]; omega
        case c4 => simp; omega
        intro A9 c9 w9 hO9 hG9
        have hal := gr_alloc (World.grownBy.refl w6 none) (.cells #[.int .i64 (k : Int)] 3)
        have hB9 := (hB6.pure hal).gr hG9.1 (hB6.ne_own hO6 (by decide))
        have hb9 := (hbb.pure hal).gr hG9.1 (hbb.ne_own hO6 (by decide))
        have hg9 := gr_row (gr_trans hg6 hal) hG9.1 (fun x e => by have := (hO6.blk_lt e).1; have := hg3.size; omega)
        have hsz9 := Nat.le_trans hsz6 (Nat.le_trans hal.size hG9.1.size)
        clear hG9 hal q0 q1 z0 z1 hB6 hbb hO6
        rw [← HR.out] at hO9
        have hRl2 : Hid ((retW rs l st o free (k + 1)).length = R.length + 1) := by rw [Hid, HR.out, List.length_append]; rfl
        obtain ⟨q0, z0⟩ := hB9.c 0 rfl
        obtain ⟨q1, z1⟩ := hB9.c 1 rfl
        obtain ⟨b0, -⟩ := hb9.c 0 rfl
        obtain ⟨b1, -⟩ := hb9.c 1 rfl
        have hB10 := hB9.set_ 0 (.int .i64 pb.x) (by simp)
        have hO10 := hO9.set_other (i := 0) (.int .i64 pb.x) (hB9.ne_own hO9 (by decide))
        have hB11 := hide (hB10.set_ 1 (.int .i64 pb.y) (by simp))
        have hO11 := hide (hO10.set_other (i := 1) (.int .i64 pb.y) (hB10.ne_own hO10 (by decide)))
        have hg11 := hide (gr_set (gr_set hg9 (p := ⟨gs, 0, none⟩) (.inr hgsw) (.int .i64 pb.x)) (p := ⟨gs, 1, none⟩) (.inr hgsw) (.int .i64 pb.y))
        have hgz := gr_set (gr_set (World.grownBy.refl w9 (some gs)) (p := ⟨gs, 0, none⟩) (.inl rfl) (.int .i64 pb.x)) (p := ⟨gs, 1, none⟩) (.inl rfl) (.int .i64 pb.y)
        have hsz11 := hide (Nat.le_trans hsz9 hgz.size)
        clear hB10 hO10 hg9 hgz hB9 hb9 hO9
        go_wp2_with fail
        refine ⟨⟨k + 1, A9, c9, by omega, by go_num, by rw [hRl2.out], hO11.out, by rw [HT.out]; exact hB11.out, hsz11.out, hg11.out⟩, by simp [intOf]; omega⟩
      · by_cases hd2 : 0 < metF rs pp pa
        · rw [if_pos (.inr hd2)] at HR
          generalize metF rs pp pa = Mt at *
          generalize distP pp pa = D at *
          go_wp2_with fail
          refine (hMe _ hg6).mono ?_
          rintro e w7 ⟨rfl, h7⟩
          have hB7 := hB6.pure h7
          have hO7 := hO6.pure h7
          have hbb7 := hbb.pure h7
          have hg7 := gr_trans hg6 h7
          have hsz7 := Nat.le_trans hsz6 h7.size
          clear h7 hB6 hO6 hbb hg6 q0 q1 z0 z1 hMe
          go_wp2_with (at_builtin; obtain ⟨i0, hi, hz, h1, h2⟩ := info_parts info_int; refine wpList_pushAt (α := Int) _ rfl (.tmp 41) (.tmp 43) _ rfl w3.heap.size 3 i0 _ 8 Tryz.underlying22 hi hz h1 h2 rfl _ _ _ R rfl ?c1 (by exact (hO7.pure (by repeat (first | exact World.grownBy.refl _ _ | assumption | refine gr_alloc ?_ _ | (apply gr_tail; assumption) | refine gr_drewN ?_ _ | refine gr_drew ?_)))) 0 ⟨_, 0, none⟩ 1 1 [(k : Int)] rfl rfl (by exact sl_int1 _ _ _ _ (by first | rfl | simp)) ?c2 ?c3 ?c4 ?_)
          case c1 => rfl
          case c2 => simp; omega
          case c3 => simp [maxLen]; omega
          case c4 => simp; omega
          intro A9 c9 w9 hO9 hG9
          have hal := gr_alloc (World.grownBy.refl w7 none) (.cells #[.int .i64 (k : Int)] 3)
          have hB9 := (hB7.pure hal).gr hG9.1 (hB7.ne_own hO7 (by decide))
          have hb9 := (hbb7.pure hal).gr hG9.1 (hbb7.ne_own hO7 (by decide))
          have hg9 := gr_row (gr_trans hg7 hal) hG9.1 (fun x e => by have := (hO7.blk_lt e).1; have := hg3.size; omega)
          have hsz9 := Nat.le_trans hsz7 (Nat.le_trans hal.size hG9.1.size)
          clear hG9 hal hB7 hbb7 hO7
          rw [← HR.out] at hO9
          have hRl2 : Hid ((retW rs l st o free (k + 1)).length = R.length + 1) := by rw [Hid, HR.out, List.length_append]; rfl
          obtain ⟨q0, z0⟩ := hB9.c 0 rfl
          obtain ⟨q1, z1⟩ := hB9.c 1 rfl
          obtain ⟨b0, -⟩ := hb9.c 0 rfl
          obtain ⟨b1, -⟩ := hb9.c 1 rfl
          have hB10 := hB9.set_ 0 (.int .i64 pb.x) (by simp)
          have hO10 := hO9.set_other (i := 0) (.int .i64 pb.x) (hB9.ne_own hO9 (by decide))
          have hB11 := hide (hB10.set_ 1 (.int .i64 pb.y) (by simp))
          have hO11 := hide (hO10.set_other (i := 1) (.int .i64 pb.y) (hB10.ne_own hO10 (by decide)))
          have hg11 := hide (gr_set (gr_set hg9 (p := ⟨gs, 0, none⟩) (.inr hgsw) (.int .i64 pb.x)) (p := ⟨gs, 1, none⟩) (.inr hgsw) (.int .i64 pb.y))
          have hgz := gr_set (gr_set (World.grownBy.refl w9 (some gs)) (p := ⟨gs, 0, none⟩) (.inl rfl) (.int .i64 pb.x)) (p := ⟨gs, 1, none⟩) (.inl rfl) (.int .i64 pb.y)
          have hsz11 := hide (Nat.le_trans hsz9 hgz.size)
          clear hB10 hO10 hg9 hgz hB9 hb9 hO9
          go_wp2_with fail
          refine ⟨⟨k + 1, A9, c9, by omega, by go_num, by rw [hRl2.out], hO11.out, by rw [HT.out]; exact hB11.out, hsz11.out, hg11.out⟩, by simp [intOf]; omega⟩
        · rw [if_neg (fun e => e.elim hd hd2), List.append_nil] at HR
          generalize metF rs pp pa = Mt at *
          generalize distP pp pa = D at *
          go_wp2_with fail
          refine (hMe _ hg6).mono ?_
          rintro e w9 ⟨rfl, h9⟩
          have hB9 := hB6.pure h9
          have hb9 := hbb.pure h9
          have hg9 := gr_trans hg6 h9
          have hsz9 := Nat.le_trans hsz6 h9.size
          have hO9 := hO6.pure h9
          clear h9 q0 q1 z0 z1 hB6 hbb hO6 hMe
          obtain ⟨A9, rfl⟩ : ∃ x, x = A2 := ⟨_, rfl⟩
          obtain ⟨c9, rfl⟩ : ∃ x, x = c2 := ⟨_, rfl⟩
          rw [← HR.out] at hO9
          have hRl2 : Hid ((retW rs l st o free (k + 1)).length = R.length) := by rw [Hid, HR.out]
          obtain ⟨q0, z0⟩ := hB9.c 0 rfl
          obtain ⟨q1, z1⟩ := hB9.c 1 rfl
          obtain ⟨b0, -⟩ := hb9.c 0 rfl
          obtain ⟨b1, -⟩ := hb9.c 1 rfl
          have hB10 := hB9.set_ 0 (.int .i64 pb.x) (by simp)
          have hO10 := hO9.set_other (i := 0) (.int .i64 pb.x) (hB9.ne_own hO9 (by decide))
          have hB11 := hide (hB10.set_ 1 (.int .i64 pb.y) (by simp))
          have hO11 := hide (hO10.set_other (i := 1) (.int .i64 pb.y) (hB10.ne_own hO10 (by decide)))
          have hg11 := hide (gr_set (gr_set hg9 (p := ⟨gs, 0, none⟩) (.inr hgsw) (.int .i64 pb.x)) (p := ⟨gs, 1, none⟩) (.inr hgsw) (.int .i64 pb.y))
          have hgz := gr_set (gr_set (World.grownBy.refl w9 (some gs)) (p := ⟨gs, 0, none⟩) (.inl rfl) (.int .i64 pb.x)) (p := ⟨gs, 1, none⟩) (.inl rfl) (.int .i64 pb.y)
          have hsz11 := hide (Nat.le_trans hsz9 hgz.size)
          clear hB10 hO10 hg9 hgz hB9 hb9 hO9
          go_wp2_with fail
          refine ⟨⟨k + 1, A9, c9, by omega, by go_num, by rw [hRl2.out], hO11.out, by rw [HT.out]; exact hB11.out, hsz11.out, hg11.out⟩, by simp [intOf]; omega⟩
    · have hkn : k = o.length := by omega
      subst hkn
      clear hBx
      generalize hrk : retW rs l st o free o.length = R at *
      replace hrk := hide hrk
      go_wp2_with fail
      go_ret
      refine ⟨A2, c2, ?_, ?_, hg⟩
      · rw [hrk.out]; rfl
      · rw [hrk.out]; exact hOw.lower hg3.size

end Go.Proofs.YtmhnjpcjagbdhaaGreat

namespace Go.Proofs.YtmhnjpcjagbdhaaGreat
open Go Go.RowKit Go.Bl

def retrE (rs : List (List Pt)) (l : List PathV) (o : List Vis) (st : Pt) (free : Int) : Int :=
  if farP st then 1 else if regF rs ≠ 0 then regF rs else if orderF l o ≠ 0 then orderF l o else if outB free 0 1000000 then 1 else 0

set_option maxHeartbeats 2000000 in
set_option maxRecDepth 100000 in
theorem retrErr_any (A : Option Addr) (c : Nat) (l : List PathV) (B : Option Addr) (d : Nat) (o : List Vis) (st : Pt) (free : Int) (R0 : Option Addr) (rc : Nat) (rs : List (List Pt)) (w : World) (hw : Sl w 0 R0 rs) (hrs : (flatK rs rs.length).length ≤ 1000000) (hl : Sl w 0 A l) (ho : Sl w 0 B o) (hE : retrE rs l o st free ≠ 0) :
    Calls Tryz.prog 11 #[.slice R0 rs.length rc, .agg #[.int .i64 st.x, .int .i64 st.y], .slice A l.length c, .slice B o.length d, .int .i64 free] w fun e w' => e = .returned (.tuple #[.slice none 0 0, .int .i64 (retrE rs l o st free)]) ∧ w.grownBy w' none := by
  have hF := fun W => isFar_any st W
  have hR := fun W (hx : w.grownBy W none) => checkRegion_any R0 rc rs W (hw.pure hx) hrs
  have hC := fun W (hx : w.grownBy W none) => checkOrder_any A c l B d o W (hl.pure hx) (ho.pure hx)
  have hg0 := gr_alloc (World.grownBy.refl w none) (.cells #[.int .i64 st.x, .int .i64 st.y] 29)
  unfold retrE at hE ⊢
  cases hfar : farP st with
  | true =>
    rw [hfar] at hF
    simp only [if_true]
    clear hE hR hC hfar
    go_enter Tryz.func11, Tryz.ntmps11
    go_wp2_with fail
    refine (hF _).mono ?_
    rintro e w1 ⟨rfl, hg1⟩
    go_wp2_with fail
    go_ret2
    exact ⟨rfl, hg0.t hg1⟩
  | false =>
    rw [hfar] at hF
    simp only [hfar, Bool.false_eq_true, if_false] at hE ⊢
    clear hfar
    by_cases hr : regF rs = 0
    · rw [hr] at hR
      simp only [hr, ne_eq, not_true_eq_false, if_false] at hE ⊢
      clear hr
      by_cases hO : orderF l o = 0
      · rw [hO] at hC
        simp only [hO, ne_eq, not_true_eq_false, if_false] at hE ⊢
        clear hO
        have hU : Hid (outB free 0 1000000 = true) := by
          cases h : outB free 0 1000000 with
          | true => rfl
          | false => rw [h] at hE; exact absurd rfl hE
        rw [hU.out]
        simp only [if_true]
        clear hE
        go_enter Tryz.func11, Tryz.ntmps11
        go_wp2_with fail
        refine (hF _).mono ?_
        rintro e w1 ⟨rfl, hg1⟩
        replace hg1 := hg0.t hg1
        clear hF
        go_wp2_with fail
        refine (hR _ hg1).mono ?_
        rintro e w2 ⟨rfl, hg2⟩
        replace hg2 := hg1.t hg2
        clear hR
        go_wp2_with fail
        refine (hC _ hg2).mono ?_
        rintro e w3 ⟨rfl, hg3⟩
        replace hg3 := hg2.t hg3
        clear hC
        go_wp2_with (go_at_call 42; refine (outside_any _ _ _ _).mono ?_; rintro _ _ ⟨rfl, rfl⟩; rw [hU.out])
        go_ret2
        exact ⟨rfl, hg3⟩
      · simp only [ne_eq, hO, not_false_eq_true, if_true]
        have hb : (orderF l o != 0) = true := by simp [hO]
        generalize orderF l o = F at *
        clear hE
        replace hO := hide hO
        go_enter Tryz.func11, Tryz.ntmps11
        go_wp2_with fail
        refine (hF _).mono ?_
        rintro e w1 ⟨rfl, hg1⟩
        replace hg1 := hg0.t hg1
        clear hF
        go_wp2_with fail
        refine (hR _ hg1).mono ?_
        rintro e w2 ⟨rfl, hg2⟩
        replace hg2 := hg1.t hg2
        clear hR
        go_wp2_with fail
        refine (hC _ hg2).mono ?_
        rintro e w3 ⟨rfl, hg3⟩
        go_wp2_with fail
        go_ret2
        exact ⟨rfl, hg2.t hg3⟩
    · simp only [ne_eq, hr, not_false_eq_true, if_true]
      have hb : (regF rs != 0) = true := by simp [hr]
      generalize regF rs = F at *
      clear hE hC
      replace hr := hide hr
      go_enter Tryz.func11, Tryz.ntmps11
      go_wp2_with fail
      refine (hF _).mono ?_
      rintro e w1 ⟨rfl, hg1⟩
      replace hg1 := hg0.t hg1
      clear hF
      go_wp2_with fail
      refine (hR _ hg1).mono ?_
      rintro e w2 ⟨rfl, hg2⟩
      go_wp2_with fail
      go_ret2
      exact ⟨rfl, hg1.t hg2⟩

end Go.Proofs.YtmhnjpcjagbdhaaGreat

/- Contracts of functions that this seat's laws reach, each: what one call returns and what it leaves in memory; no condition beyond each theorem's own hypotheses. -/
import Derived.Test.YtpdhbhlnopmifaaGreatDoorZqFitC
import Derived.Test.YtpdhbhlnopmifaaGreatDoorZqGrS
set_option linter.unusedVariables false
set_option linter.unusedSimpArgs false
namespace Go.Proofs.YtpdhbhlnopmifaaGreatDoor
open Go Go.RowKit Go.Bl Go.Lib

section
variable {w w' : World} {x : Nat} {AN AL AU : Option Addr} {cN cL cU : Nat} {needs left : List Int} {used : List Bool}

theorem FitH.setU {g k : Nat} (h : FitH w x AN AL (some ⟨g, 0, none⟩) cN cL cU needs left used) (hN : blk AN ≠ some g) (b : Bool) (hk : k < used.length) : FitH (w.setCell ⟨g, k, none⟩ (.bool b)) x AN AL (some ⟨g, 0, none⟩) cN cL cU needs left (used.set k b) := by
  have hg : w.grownBy (w.setCell ⟨g, k, none⟩ (.bool b)) (some g) := gr_set (World.grownBy.refl _ _) (.inl rfl) _
  refine ⟨?_, h.nd.neI hg (fun q e1 e2 => hN (e1.trans e2.symm)), h.ol.ne hg (fun q e1 e2 => h.ol.ne_own h.ou (by decide) e1 e2), h.ou.set_bool hk b, by rw [List.length_set]; exact h.ll, h.nl⟩
  rw [List.length_set]
  exact h.bx.gr hg (fun e => h.bx.ne_own h.ou (by decide) e)

theorem FitH.row {r : Option Nat} {lo : Nat} (h : FitH w x AN AL AU cN cL cU needs left used) (hg : w.grownBy w' r) (hr : ∀ y, r = some y → lo ≤ y) (hx : x < lo) (hN : ∀ g, blk AN = some g → g < lo) (hL : ∀ g, blk AL = some g → g < lo) (hU : ∀ g, blk AU = some g → g < lo) : FitH w' x AN AL AU cN cL cU needs left used :=
  ⟨h.bx.gr hg (fun e => by have := hr _ e; omega), h.nd.neI hg (fun g e1 e2 => by have := hr _ e2; have := hN _ e1; omega), h.ol.ne hg (fun g e1 e2 => by have := hr _ e2; have := hL _ e1; omega), h.ou.ne hg (fun g e1 e2 => by have := hr _ e2; have := hU _ e1; omega), h.ll, h.nl⟩
end

theorem take_snocI {α : Type} {l : List α} {k : Nat} (h : k < l.length) : l.take (k + 1) = l.take k ++ [l[k]] := by rw [List.take_succ_eq_append_getElem h]

set_option maxHeartbeats 8000000 in
set_option maxRecDepth 100000 in
theorem put_any (x : Nat) (AN AL AU : Option Addr) (cN cL cU : Nat) (needs left : List Int) (used : List Bool) (most : Nat) (w : World) (h50 : used.length ≤ 50) (h8 : needs.length ≤ 8) (hnb : ∀ v ∈ needs, 1 ≤ v ∧ v ≤ 1000000000)
    (hH : FitH w x AN AL AU cN cL cU needs left used) (hlb : ∀ v ∈ left, -1 ≤ v ∧ v ≤ 1000000000) (hAN : ∀ g, blk AN = some g → g < w.heap.size) (hNU : ∀ g, blk AU = some g → blk AN ≠ some g) (hm : most ≤ 100) :
    Calls Tryz.prog 39 #[.pointer (some ⟨x, 0, none⟩), .int .i64 most] w fun e w' => ∃ (out : List Int) (A : Option Addr) (c : Nat), e = .returned (.tuple #[.slice A out.length c, .bool (fitsF needs left used [] most)]) ∧ Own w' w.heap.size 3 A c out ∧
      (fitsF needs left used [] most = true → ∃ left', PutTo needs left out left') ∧ (fitsF needs left used [] most = false → out = []) ∧ GrS (fun y => blk AL = some y ∨ blk AU = some y) w w' := by
  have hF0 := hide (fits_any x AN AL AU cN cL cU needs used h50 h8 hnb needs.length 0 (by omega) left [] none 0 most w hH hlb (Own.nil _ _ _) (fun g e => by cases e) (fun v hv => by cases hv) (Nat.le_refl _) hm)
  rw [List.drop_zero] at hF0
  obtain ⟨V, hV⟩ : ∃ V, V = fitsF needs left used [] most := ⟨_, rfl⟩
  rw [← hV] at hF0 ⊢
  have hxl := hH.bx.lt
  have hAL : Hid (∀ g, blk AL = some g → g < w.heap.size) := fun g e => (hH.ol.blk_lt e).2
  have hAU : Hid (∀ g, blk AU = some g → g < w.heap.size) := fun g e => (hH.ou.blk_lt e).2
  have hul : Hid (used.length ≤ 50) := h50
  replace hnb := hide hnb
  replace hAN := hide hAN
  replace hNU := hide hNU
  replace hlb := hide hlb
  replace hH := hide hH
  have hT0 : Hid (V = true → fitsF (needs.drop 0) left used [] most = true) := fun h => by rw [List.drop_zero, ← hV]; exact h
  clear hV h50
  rcases V with _ | _
  · clear hT0 hH hAL hAU hAN hNU hlb hnb
    go_enter Tryz.func39, Tryz.ntmps39
    go_wp2_with fail
    refine hF0.out.mono ?_
    rintro e w2 ⟨rfl, hg2⟩
    go_wp2_with fail
    go_ret2
    exact ⟨[], none, 0, rfl, Own.nil _ _ _, (fun h => by cases h), fun _ => rfl, (GrS.refl _ w).pure hg2⟩
  · have hT := hide (hT0.out rfl)
    clear hT0
    go_enter Tryz.func39, Tryz.ntmps39
    go_wp2_with fail
    refine hF0.out.mono ?_
    rintro e w2 ⟨rfl, hg2⟩
    have hH2 := hide (hH.out.pure hg2)
    obtain ⟨b0, -⟩ := hH2.out.bx.c 0 rfl
    clear hF0 hH
    go_wp2_with fail
    go_loopw [1, 6, 21] (fun m o i wr => ∃ (k mm : Nat) (out left' : List Int) (used' : List Bool) (A' : Option Addr) (c' : Nat), k ≤ needs.length ∧ i = .int .i64 k ∧ m = .int .i64 mm ∧ o = .slice A' out.length c' ∧ Hid (out.length = k) ∧ Hid (FitH wr x AN AL AU cN cL cU needs left' used') ∧ Own wr w.heap.size 3 A' c' out ∧
      Hid (fitsF (needs.drop k) left' used' [] mm = true) ∧ Hid (PutTo (needs.take k) left out left') ∧ Hid (∀ v ∈ left', -1 ≤ v ∧ v ≤ 1000000000) ∧ mm ≤ 100 ∧ used'.length ≤ 50 ∧ GrS (fun y => blk AL = some y ∨ blk AU = some y) w wr) (fun _ _ i _ => needs.length - (intOf i).toNat)
    case atStart => exact ⟨0, most, [], left, used, none, 0, Nat.zero_le _, rfl, rfl, rfl, rfl, hH2, Own.nil _ _ _, hT, ⟨rfl, rfl⟩, hlb, hm, hul.out, (GrS.refl _ w).pure hg2⟩
    case round =>
      clear hH2 b0 hT hlb hul hg2
      obtain ⟨k, mm, out, left', used', A', c', hk, rfl, rfl, rfl, hol, hHr, hO, hT, hP, hlb, hmm, hul, hGr⟩ := hrel
      obtain ⟨b0, -⟩ := hHr.out.bx.c 0 rfl
      obtain ⟨b1, -⟩ := hHr.out.bx.c 1 rfl
      obtain ⟨b2, -⟩ := hHr.out.bx.c 2 rfl
      by_cases hlt : k < needs.length
      · have hdr : needs.drop k = needs[k] :: needs.drop (k + 1) := List.drop_eq_getElem_cons hlt
        have htk := hide (take_snocI hlt)
        have hn1 := hnb.out _ (List.getElem_mem hlt)
        rw [hdr] at hT
        have hns0 : ∀ v ∈ needs.drop (k + 1), 0 ≤ v := fun v hv => by have := hnb.out v (List.mem_of_mem_drop hv); omega
        have hex := hide (fits_put hns0 hHr.out.ll hT.out)
        obtain ⟨gN, oN, cx, rfl, -, -, rfl, hc⟩ := hHr.out.nd.at_ (by decide) hlt
        have n0 : wr.cell? ⟨gN, oN + k, none⟩ = some (.int .i64 needs[k]) := by
          have h1 := hc 0 _ rfl
          rwa [show Enc.sz Int = 1 from rfl, Nat.mul_one] at h1
        clear hc hns0
        generalize needs[k] = n at *
        generalize hns : needs.drop (k + 1) = ns at *
        replace hns := hide hns
        clear hT hdr
        go_upto_region 7 with fail
        go_wp2_with fail
        go_loopw [1, 6, 31] (fun m2 o2 i2 wr2 => ∃ q : Nat, q ≤ used'.length ∧ i2 = .int .i64 q ∧ m2 = .int .i64 mm ∧ o2 = .slice A' out.length c' ∧ Hid (FitH wr2 x (some ⟨gN, oN, none⟩) AL AU cN cL cU needs left' used') ∧ Own wr2 w.heap.size 3 A' c' out ∧ GrS (fun y => blk AL = some y ∨ blk AU = some y) w wr2 ∧
          Hid (∀ j, j < q → n ≤ left'.getD j 0 → (used'.getD j false = true ∨ 0 < mm) → fitsF ns (left'.set j (left'.getD j 0 - n)) (used'.set j true) [] (if used'.getD j false then mm else mm - 1) = false)) (fun _ _ i2 _ => used'.length - (intOf i2).toNat)
        case atStart => exact ⟨0, Nat.zero_le _, rfl, rfl, rfl, hHr, hO, hGr, fun j h => by omega⟩
        case round =>
          clear hHr hO hGr b0 b1 b2 n0
          obtain ⟨q, hq, rfl, rfl, rfl, hHr, hO, hGr, hno⟩ := hrel
          by_cases hqu : q < used'.length
          · have hql : q < left'.length := by rw [hHr.out.ll]; exact hqu
            obtain ⟨gL, rfl, -, -⟩ := hHr.out.ol.shape (by omega)
            obtain ⟨gU, rfl, -, -⟩ := hHr.out.ou.shape (by omega)
            obtain ⟨b0, -⟩ := hHr.out.bx.c 0 rfl
            obtain ⟨b1, -⟩ := hHr.out.bx.c 1 rfl
            obtain ⟨b2, -⟩ := hHr.out.bx.c 2 rfl
            have hLk := hHr.out.ol.cell_int hql
            have hLf := hHr.out.ol.frozen q
            have hUf := hHr.out.ou.frozen q
            have hUk : wr.cell? ⟨gU, q, none⟩ = some (.bool used'[q]) := by
              obtain ⟨c1, hr, hc⟩ := hHr.out.ou.cell_at (by decide) hqu
              have hr' : c1 = [.bool used'[q]] := hr
              subst hr'
              have h1 := hc 0 _ rfl
              rwa [show Enc.sz Bool = 1 from rfl, Nat.mul_one] at h1
            have hlv := hlb.out _ (List.getElem_mem hql)
            have hgd := getD_at hql
            have hub := getB_at hqu
            generalize left'[q] = v at *
            generalize used'[q] = u at *
            by_cases hnv : n ≤ v
            · have hb : decide (v < n) = false := by simp; omega
              have hsv : Hid (left'.set q v = left') := by
                refine List.ext_getElem (by simp) fun i h1 h2 => ?_
                rw [List.getElem_set]
                by_cases e : q = i
                · subst e
                  rw [if_pos rfl]
                  rw [List.getD_eq_getElem?_getD, List.getElem?_eq_getElem h2] at hgd
                  exact hgd.symm
                · rw [if_neg e]
              have hsu : Hid (used'.set q u = used') := by
                refine List.ext_getElem (by simp) fun i h1 h2 => ?_
                rw [List.getElem_set]
                by_cases e : q = i
                · subst e
                  rw [if_pos rfl]
                  rw [List.getD_eq_getElem?_getD, List.getElem?_eq_getElem h2] at hub
                  exact hub.symm
                · rw [if_neg e]
              rcases u with _ | _
              · by_cases hm0 : mm = 0
                · have hmz : ((mm : Int) == 0) = true := by simp [hm0]
                  have hnx : Hid (∀ j, j < q + 1 → n ≤ left'.getD j 0 → (used'.getD j false = true ∨ 0 < mm) → fitsF ns (left'.set j (left'.getD j 0 - n)) (used'.set j true) [] (if used'.getD j false then mm else mm - 1) = false) := fun j h1 h2 h3 => by
                    by_cases e : j = q
                    · subst e
                      rw [hub] at h3
                      rcases h3 with h3 | h3
                      · cases h3
                      · omega
                    · exact hno.out j (by omega) h2 h3
                  clear hno hgd hub hnv hLf hUf hm0 hsv hsu
                  go_wp2_with fail
                  (go_roundw; (case rel => exact ⟨q + 1, by omega, by go_num, rfl, rfl, hHr, hO, hGr, hnx⟩); (case measure => simp [intOf]; omega))
                · have hmz : ((mm : Int) == 0) = false := by simp [hm0]
                  have hne : gL ≠ gU := fun e => hHr.out.ol.ne_own hHr.out.ou (by decide) (x := gL) rfl (by rw [e]; rfl)
                  have hgL : gL < w.heap.size := hAL.out gL rfl
                  have hgU : gU < w.heap.size := hAU.out gU rfl
                  have hHa := FitH.set_ hHr.out (v - n) hql
                  have hg1 : wr.grownBy (wr.setCell ⟨gL, q, none⟩ (.int .i64 (v - n))) (some gL) := gr_set (World.grownBy.refl _ _) (.inl rfl) _
                  obtain ⟨wa, hwa⟩ : ∃ y, y = wr.setCell ⟨gL, q, none⟩ (.int .i64 (v - n)) := ⟨_, rfl⟩
                  rw [← hwa] at hHa hg1
                  have hg2 : wa.grownBy (wa.setCell ⟨gU, q, none⟩ (.bool true)) (some gU) := gr_set (World.grownBy.refl _ _) (.inl rfl) _
                  have hHb := hHa.setU (hNU.out gU rfl) true hqu
                  obtain ⟨wb, hwb⟩ : ∃ y, y = wa.setCell ⟨gU, q, none⟩ (.bool true) := ⟨_, rfl⟩
                  rw [← hwb] at hHb hg2
                  have hOb := (hO.keep hg1 (fun g e => by injection e with e; omega)).keep hg2 (fun g e => by injection e with e; omega)
                  have hGb := (hGr.step hg1 (fun y e => .inl (.inl (by rw [← e]; rfl)))).step hg2 (fun y e => .inl (.inr (by rw [← e]; rfl)))
                  obtain ⟨hUa, hUaf⟩ := Cell.gr ⟨hUk, hUf⟩ hg1 (fun e => hne (by injection e))
                  obtain ⟨a0, -⟩ := hHa.bx.c 0 rfl
                  obtain ⟨a1, -⟩ := hHa.bx.c 1 rfl
                  obtain ⟨a2, -⟩ := hHa.bx.c 2 rfl
                  obtain ⟨e0, -⟩ := hHb.bx.c 0 rfl
                  obtain ⟨e1, -⟩ := hHb.bx.c 1 rfl
                  obtain ⟨e2, -⟩ := hHb.bx.c 2 rfl
                  rw [List.length_set] at e1 e2
                  have hlb2 : ∀ z ∈ left'.set q (v - n), -1 ≤ z ∧ z ≤ 1000000000 := fun z hz => by
                    rcases List.mem_or_eq_of_mem_set hz with h | h
                    · exact hlb.out z h
                    · omega
                  have hIf := fits_any x (some ⟨gN, oN, none⟩) (some ⟨gL, 0, none⟩) (some ⟨gU, 0, none⟩) cN cL cU needs (used'.set q true) (by rw [List.length_set]; exact hul) h8 hnb.out (needs.length - (k + 1)) (k + 1) (by omega) (left'.set q (v - n)) [] none 0 (mm - 1) wb hHb hlb2 (Own.nil _ _ _) (fun g e => by cases e) (fun v hv => by cases hv) (Nat.zero_le _) (by omega)
                  rw [hns.out] at hIf
                  rw [show ((mm - 1 : Nat) : Int) = (mm : Int) - 1 by omega] at hIf
                  have hnx : Hid (fitsF ns (left'.set q (v - n)) (used'.set q true) [] (mm - 1) = false → ∀ j, j < q + 1 → n ≤ left'.getD j 0 → (used'.getD j false = true ∨ 0 < mm) → fitsF ns (left'.set j (left'.getD j 0 - n)) (used'.set j true) [] (if used'.getD j false then mm else mm - 1) = false) := fun h j h1 h2 h3 => by
                    by_cases e : j = q
                    · subst e
                      rw [hgd, hub]
                      exact h
                    · exact hno.out j (by omega) h2 h3
                  have hyes : Hid (fitsF ns (left'.set q (v - n)) (used'.set q true) [] (mm - 1) = true → fitsF (needs.drop (k + 1)) (left'.set q (v - n)) (used'.set q true) [] (mm - 1) = true) := fun h => by
                    rw [hns.out]
                    exact h
                  have hPs : Hid (PutTo (needs.take (k + 1)) left (out ++ [(q : Int)]) (left'.set q (v - n))) := by
                    have h1 := hP.out.snoc (n := n) hql (by rw [hgd]; exact hnv)
                    rw [hgd] at h1
                    rw [Hid, htk.out]
                    exact h1
                  generalize fitsF ns (left'.set q (v - n)) (used'.set q true) [] (mm - 1) = R at *
                  replace hIf := hide hIf
                  replace hHb := hide hHb
                  clear hHa hGr hO hno hgd hub hP
                  go_upto_region 13 with fail
                  rw [← hwa]
                  clear hwa hLk hLf b0 b1 b2 hUk hUf hg1
                  go_upto_region 14 with fail
                  rw [← hwb]
                  clear hwb hUa hUaf a0 a1 a2 hg2
                  go_wp2_with fail
                  refine hIf.out.mono ?_
                  rintro e w3 ⟨rfl, hg3⟩
                  have hH3 := hHb.out.pure hg3
                  have hO3 := hOb.pure hg3
                  have hG3 := hGb.pure hg3
                  replace e1 := hg3.k e1
                  replace e2 := hg3.k e2
                  clear hIf hHb hOb hGb e0
                  rcases R with _ | _
                  · have hnx2 := hide (hnx.out rfl)
                    have hLc := hH3.ol.cell_int (show q < (left'.set q (v - n)).length by rw [List.length_set]; exact hql)
                    rw [List.getElem_set_self] at hLc
                    have hLf := hH3.ol.frozen q
                    have hHc := FitH.set_ (k := q) hH3 v (by rw [List.length_set]; exact hql)
                    rw [List.set_set] at hHc
                    have hg4 : w3.grownBy (w3.setCell ⟨gL, q, none⟩ (.int .i64 v)) (some gL) := gr_set (World.grownBy.refl _ _) (.inl rfl) _
                    go_upto_region 20 with fail
                    obtain ⟨wc, hwc⟩ : ∃ y, y = w3.setCell ⟨gL, q, none⟩ (.int .i64 v) := ⟨_, rfl⟩
                    rw [← hwc] at hHc hg4 ⊢
                    have hUc : (wc.cell? ⟨gU, q, none⟩).isSome = true := by
                      obtain ⟨c1, hr, hc⟩ := hHc.ou.cell_at (by decide) (show q < (used'.set q true).length by rw [List.length_set]; exact hqu)
                      have hr' : c1 = [.bool ((used'.set q true)[q]'(by rw [List.length_set]; exact hqu))] := hr
                      subst hr'
                      have h1 := hc 0 _ rfl
                      rw [show Enc.sz Bool = 1 from rfl, Nat.mul_one] at h1
                      rw [show q + 0 = q from rfl] at h1
                      rw [h1]; rfl
                    obtain ⟨uz, hUz⟩ := Option.isSome_iff_exists.1 hUc
                    have hUzf := hHc.ou.frozen q
                    obtain ⟨i2, -⟩ := hHc.bx.c 2 rfl
                    rw [List.length_set] at i2
                    have hHd := FitH.setU (k := q) hHc (hNU.out gU rfl) false (by rw [List.length_set]; exact hqu)
                    rw [List.set_set] at hHd
                    have hg5 : wc.grownBy (wc.setCell ⟨gU, q, none⟩ (.bool false)) (some gU) := gr_set (World.grownBy.refl _ _) (.inl rfl) _
                    clear hwc hLc hLf e1 e2 hUc
                    go_upto_region 21 with fail
                    obtain ⟨wd, hwd⟩ : ∃ y, y = wc.setCell ⟨gU, q, none⟩ (.bool false) := ⟨_, rfl⟩
                    rw [← hwd] at hHd hg5 ⊢
                    have hs1 : left'.set q v = left' := hsv.out
                    have hs2 : used'.set q false = used' := hsu.out
                    rw [hs1, hs2] at hHd
                    have hOd := (hO3.keep hg4 (fun g e => by injection e with e; omega)).keep hg5 (fun g e => by injection e with e; omega)
                    have hGd := (hG3.step hg4 (fun y e => .inl (.inl (by rw [← e]; rfl)))).step hg5 (fun y e => .inl (.inr (by rw [← e]; rfl)))
                    replace hHd := hide hHd
                    clear hwd hUz hUzf i2 hs1 hs2 hH3 hO3 hG3 hHc hg4 hg5 hnx hyes hPs
                    go_wp2_with fail
                    (go_roundw; (case rel => exact ⟨q + 1, by omega, by go_num, rfl, rfl, hHd, hOd, hGd, hnx2⟩); (case measure => simp [intOf]; omega))
                  · have hT2 := hide (hyes.out rfl)
                    have hln : Hid ((out ++ [(q : Int)]).length = out.length + 1) := by simp [Hid]
                    have hs3 := hG3.size
                    clear hnx hyes e1 e2
                    go_wp2_with (at_builtin; obtain ⟨i0, hi, hz, h1, h2⟩ := info_parts info_int; refine wpList_pushAt (α := Int) _ rfl (.tmp 84) (.tmp 86) _ rfl w.heap.size 3 i0 _ 8 Tryz.underlying22 hi hz h1 h2 rfl _ _ _ out rfl ?c1 (by exact (hO3.pure (gr_alloc (World.grownBy.refl _ _) _))) 0 ⟨_, 0, none⟩ 1 1 [(q : Int)] rfl rfl (by exact sl_int1 _ _ _ _ (by first | rfl | simp)) ?c2 ?c3 ?c4 ?_)
                    case c1 => rfl
                    case c2 => have := hol.out; first | omega | (simp; omega)
                    case c3 => have := hol.out; first | (simp [maxLen]; omega) | (unfold maxLen; omega)
                    case c4 => first | omega | (simp; omega)
                    intro A5 c5 w5 hO5 hG5
                    have hqq := gr_alloc (World.grownBy.refl w3 none) (.cells #[.int .i64 (q : Int)] 3)
                    have hoq := hO3.pure hqq
                    have hlo5 : ∀ y, blk A' = some y → w.heap.size ≤ y := fun y e => (hoq.blk_lt e).1
                    have hH5 := hide ((hH3.pure hqq).row hG5.1 hlo5 hxl (fun g e => hAN.out g e) (fun g e => hAL.out g e) (fun g e => hAU.out g e))
                    have hG5z := (hG3.pure hqq).step hG5.1 (fun y e => .inr (hlo5 y e))
                    have hl5 : Hid ((out ++ [(q : Int)]).length = k + 1) := by rw [Hid, hln.out, hol.out]
                    have hlb5 := hide hlb2
                    clear hqq hoq hlo5 hG5 hH3 hO3 hG3
                    go_wp2
                    (go_roundw; (case rel => exact ⟨k + 1, mm - 1, out ++ [(q : Int)], left'.set q (v - n), used'.set q true, A5, c5, by omega, by go_num, (by rw [show ((mm - 1 : Nat) : Int) = (mm : Int) - 1 by omega]), by rw [hln.out], hl5, hH5, hO5, hT2, hPs, hlb5, by omega, by rw [List.length_set]; exact hul, hG5z⟩); (case measure => simp [intOf]; omega))
              · have hne : gL ≠ gU := fun e => hHr.out.ol.ne_own hHr.out.ou (by decide) (x := gL) rfl (by rw [e]; rfl)
                have hgL : gL < w.heap.size := hAL.out gL rfl
                have hgU : gU < w.heap.size := hAU.out gU rfl
                have hHa := FitH.set_ hHr.out (v - n) hql
                have hg1 : wr.grownBy (wr.setCell ⟨gL, q, none⟩ (.int .i64 (v - n))) (some gL) := gr_set (World.grownBy.refl _ _) (.inl rfl) _
                obtain ⟨wa, hwa⟩ : ∃ y, y = wr.setCell ⟨gL, q, none⟩ (.int .i64 (v - n)) := ⟨_, rfl⟩
                rw [← hwa] at hHa hg1
                have hg2 : wa.grownBy (wa.setCell ⟨gU, q, none⟩ (.bool true)) (some gU) := gr_set (World.grownBy.refl _ _) (.inl rfl) _
                have hHb := hHa.setU (hNU.out gU rfl) true hqu
                obtain ⟨wb, hwb⟩ : ∃ y, y = wa.setCell ⟨gU, q, none⟩ (.bool true) := ⟨_, rfl⟩
                rw [← hwb] at hHb hg2
                have hOb := (hO.keep hg1 (fun g e => by injection e with e; omega)).keep hg2 (fun g e => by injection e with e; omega)
                have hGb := (hGr.step hg1 (fun y e => .inl (.inl (by rw [← e]; rfl)))).step hg2 (fun y e => .inl (.inr (by rw [← e]; rfl)))
                obtain ⟨hUa, hUaf⟩ := Cell.gr ⟨hUk, hUf⟩ hg1 (fun e => hne (by injection e))
                obtain ⟨a0, -⟩ := hHa.bx.c 0 rfl
                obtain ⟨a1, -⟩ := hHa.bx.c 1 rfl
                obtain ⟨a2, -⟩ := hHa.bx.c 2 rfl
                obtain ⟨e0, -⟩ := hHb.bx.c 0 rfl
                obtain ⟨e1, -⟩ := hHb.bx.c 1 rfl
                obtain ⟨e2, -⟩ := hHb.bx.c 2 rfl
                rw [List.length_set] at e1 e2
                have hlb2 : ∀ z ∈ left'.set q (v - n), -1 ≤ z ∧ z ≤ 1000000000 := fun z hz => by
                  rcases List.mem_or_eq_of_mem_set hz with h | h
                  · exact hlb.out z h
                  · omega
                have hIf := fits_any x (some ⟨gN, oN, none⟩) (some ⟨gL, 0, none⟩) (some ⟨gU, 0, none⟩) cN cL cU needs (used'.set q true) (by rw [List.length_set]; exact hul) h8 hnb.out (needs.length - (k + 1)) (k + 1) (by omega) (left'.set q (v - n)) [] none 0 (mm) wb hHb hlb2 (Own.nil _ _ _) (fun g e => by cases e) (fun v hv => by cases hv) (Nat.zero_le _) (by omega)
                rw [hns.out] at hIf
                skip
                have hnx : Hid (fitsF ns (left'.set q (v - n)) (used'.set q true) [] (mm) = false → ∀ j, j < q + 1 → n ≤ left'.getD j 0 → (used'.getD j false = true ∨ 0 < mm) → fitsF ns (left'.set j (left'.getD j 0 - n)) (used'.set j true) [] (if used'.getD j false then mm else mm - 1) = false) := fun h j h1 h2 h3 => by
                  by_cases e : j = q
                  · subst e
                    rw [hgd, hub]
                    exact h
                  · exact hno.out j (by omega) h2 h3
                have hyes : Hid (fitsF ns (left'.set q (v - n)) (used'.set q true) [] (mm) = true → fitsF (needs.drop (k + 1)) (left'.set q (v - n)) (used'.set q true) [] (mm) = true) := fun h => by
                  rw [hns.out]
                  exact h
                have hPs : Hid (PutTo (needs.take (k + 1)) left (out ++ [(q : Int)]) (left'.set q (v - n))) := by
                  have h1 := hP.out.snoc (n := n) hql (by rw [hgd]; exact hnv)
                  rw [hgd] at h1
                  rw [Hid, htk.out]
                  exact h1
                generalize fitsF ns (left'.set q (v - n)) (used'.set q true) [] (mm) = R at *
                replace hIf := hide hIf
                replace hHb := hide hHb
                clear hHa hGr hO hno hgd hub hP
                go_upto_region 13 with fail
                rw [← hwa]
                clear hwa hLk hLf b0 b1 b2 hUk hUf hg1
                go_upto_region 14 with fail
                rw [← hwb]
                clear hwb hUa hUaf a0 a1 a2 hg2
                go_wp2_with fail
                refine hIf.out.mono ?_
                rintro e w3 ⟨rfl, hg3⟩
                have hH3 := hHb.out.pure hg3
                have hO3 := hOb.pure hg3
                have hG3 := hGb.pure hg3
                replace e1 := hg3.k e1
                replace e2 := hg3.k e2
                clear hIf hHb hOb hGb e0
                rcases R with _ | _
                · have hnx2 := hide (hnx.out rfl)
                  have hLc := hH3.ol.cell_int (show q < (left'.set q (v - n)).length by rw [List.length_set]; exact hql)
                  rw [List.getElem_set_self] at hLc
                  have hLf := hH3.ol.frozen q
                  have hHc := FitH.set_ (k := q) hH3 v (by rw [List.length_set]; exact hql)
                  rw [List.set_set] at hHc
                  have hg4 : w3.grownBy (w3.setCell ⟨gL, q, none⟩ (.int .i64 v)) (some gL) := gr_set (World.grownBy.refl _ _) (.inl rfl) _
                  go_upto_region 20 with fail
                  obtain ⟨wc, hwc⟩ : ∃ y, y = w3.setCell ⟨gL, q, none⟩ (.int .i64 v) := ⟨_, rfl⟩
                  rw [← hwc] at hHc hg4 ⊢
                  have hUc : (wc.cell? ⟨gU, q, none⟩).isSome = true := by
                    obtain ⟨c1, hr, hc⟩ := hHc.ou.cell_at (by decide) (show q < (used'.set q true).length by rw [List.length_set]; exact hqu)
                    have hr' : c1 = [.bool ((used'.set q true)[q]'(by rw [List.length_set]; exact hqu))] := hr
                    subst hr'
                    have h1 := hc 0 _ rfl
                    rw [show Enc.sz Bool = 1 from rfl, Nat.mul_one] at h1
                    rw [show q + 0 = q from rfl] at h1
                    rw [h1]; rfl
                  obtain ⟨uz, hUz⟩ := Option.isSome_iff_exists.1 hUc
                  have hUzf := hHc.ou.frozen q
                  obtain ⟨i2, -⟩ := hHc.bx.c 2 rfl
                  rw [List.length_set] at i2
                  have hHd := FitH.setU (k := q) hHc (hNU.out gU rfl) true (by rw [List.length_set]; exact hqu)
                  rw [List.set_set] at hHd
                  have hg5 : wc.grownBy (wc.setCell ⟨gU, q, none⟩ (.bool true)) (some gU) := gr_set (World.grownBy.refl _ _) (.inl rfl) _
                  clear hwc hLc hLf e1 e2 hUc
                  go_upto_region 21 with fail
                  obtain ⟨wd, hwd⟩ : ∃ y, y = wc.setCell ⟨gU, q, none⟩ (.bool true) := ⟨_, rfl⟩
                  rw [← hwd] at hHd hg5 ⊢
                  have hs1 : left'.set q v = left' := hsv.out
                  have hs2 : used'.set q true = used' := hsu.out
                  rw [hs1, hs2] at hHd
                  have hOd := (hO3.keep hg4 (fun g e => by injection e with e; omega)).keep hg5 (fun g e => by injection e with e; omega)
                  have hGd := (hG3.step hg4 (fun y e => .inl (.inl (by rw [← e]; rfl)))).step hg5 (fun y e => .inl (.inr (by rw [← e]; rfl)))
                  replace hHd := hide hHd
                  clear hwd hUz hUzf i2 hs1 hs2 hH3 hO3 hG3 hHc hg4 hg5 hnx hyes hPs
                  go_wp2_with fail
                  (go_roundw; (case rel => exact ⟨q + 1, by omega, by go_num, rfl, rfl, hHd, hOd, hGd, hnx2⟩); (case measure => simp [intOf]; omega))
                · have hT2 := hide (hyes.out rfl)
                  have hln : Hid ((out ++ [(q : Int)]).length = out.length + 1) := by simp [Hid]
                  have hs3 := hG3.size
                  clear hnx hyes e1 e2
                  go_wp2_with (at_builtin; obtain ⟨i0, hi, hz, h1, h2⟩ := info_parts info_int; refine wpList_pushAt (α := Int) _ rfl (.tmp 84) (.tmp 86) _ rfl w.heap.size 3 i0 _ 8 Tryz.underlying22 hi hz h1 h2 rfl _ _ _ out rfl ?c1 (by exact (hO3.pure (gr_alloc (World.grownBy.refl _ _) _))) 0 ⟨_, 0, none⟩ 1 1 [(q : Int)] rfl rfl (by exact sl_int1 _ _ _ _ (by first | rfl | simp)) ?c2 ?c3 ?c4 ?_)
                  case c1 => rfl
                  case c2 => have := hol.out; first | omega | (simp; omega)
                  case c3 => have := hol.out; first | (simp [maxLen]; omega) | (unfold maxLen; omega)
                  case c4 => first | omega | (simp; omega)
                  intro A5 c5 w5 hO5 hG5
                  have hqq := gr_alloc (World.grownBy.refl w3 none) (.cells #[.int .i64 (q : Int)] 3)
                  have hoq := hO3.pure hqq
                  have hlo5 : ∀ y, blk A' = some y → w.heap.size ≤ y := fun y e => (hoq.blk_lt e).1
                  have hH5 := hide ((hH3.pure hqq).row hG5.1 hlo5 hxl (fun g e => hAN.out g e) (fun g e => hAL.out g e) (fun g e => hAU.out g e))
                  have hG5z := (hG3.pure hqq).step hG5.1 (fun y e => .inr (hlo5 y e))
                  have hl5 : Hid ((out ++ [(q : Int)]).length = k + 1) := by rw [Hid, hln.out, hol.out]
                  have hlb5 := hide hlb2
                  clear hqq hoq hlo5 hG5 hH3 hO3 hG3
                  go_wp2
                  (go_roundw; (case rel => exact ⟨k + 1, mm, out ++ [(q : Int)], left'.set q (v - n), used'.set q true, A5, c5, by omega, by go_num, rfl, by rw [hln.out], hl5, hH5, hO5, hT2, hPs, hlb5, by omega, by rw [List.length_set]; exact hul, hG5z⟩); (case measure => simp [intOf]; omega))
            · have hb : decide (v < n) = true := by simp; omega
              have hnx : Hid (∀ j, j < q + 1 → n ≤ left'.getD j 0 → (used'.getD j false = true ∨ 0 < mm) → fitsF ns (left'.set j (left'.getD j 0 - n)) (used'.set j true) [] (if used'.getD j false then mm else mm - 1) = false) := fun j h1 h2 h3 => by
                by_cases e : j = q
                · subst e
                  rw [hgd] at h2
                  exact absurd h2 hnv
                · exact hno.out j (by omega) h2 h3
              clear hno hgd hub hnv hLf hUf
              go_wp2_with fail
              (go_roundw; (case rel => exact ⟨q + 1, by omega, by go_num, rfl, rfl, hHr, hO, hGr, hnx⟩); (case measure => simp [intOf]; omega))
          · exfalso
            obtain ⟨j, h1, h2, h3, h4⟩ := hex.out
            have h5 := hno.out j (by have := hHr.out.ll; omega) h2 h3
            rw [h5] at h4
            cases h4
      · have hk2 : k = needs.length := by omega
        subst hk2
        have hPz : Hid (PutTo needs left out left') := by
          have h1 := hP.out
          rw [List.take_length] at h1
          exact h1
        clear hT hP hlb hHr
        go_wp2_with fail
        go_ret2
        exact ⟨out, A', c', rfl, hO, fun _ => ⟨left', hPz.out⟩, (fun h => by cases h), hGr⟩

end Go.Proofs.YtpdhbhlnopmifaaGreatDoor

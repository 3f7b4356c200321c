/- Contracts of functions that this seat's laws reach, each: what one call returns and what it leaves in memory; no condition beyond each theorem's own hypotheses. -/
import Derived.Test.YtpdhbhlnopmifaaGreatDoorZqFitSort
import Derived.Test.YtpdhbhlnopmifaaGreatDoorZqSlices
import Derived.Test.YtpdhbhlnopmifaaGreatDoorShelf
set_option linter.unusedVariables false
set_option linter.unusedSimpArgs false
namespace Go.Proofs.YtpdhbhlnopmifaaGreatDoor
open Go Go.RowKit Go.Bl Go.Lib

theorem freeL_take : ∀ {left : List Int} {used : List Bool} {k : Nat} (h : k < left.length) (h2 : k < used.length), freeL (left.take (k + 1)) (used.take (k + 1)) = freeL (left.take k) (used.take k) ++ (if used[k] then [] else [left[k]])
  | x :: l, u :: us, 0, _, _ => by
    show (if u then freeL [] [] else x :: freeL [] []) = [] ++ (if u then [] else [x])
    rfl
  | x :: l, u :: us, k + 1, h, h2 => by
    have hk1 : k < l.length := by simpa using h
    have hk2 : k < us.length := by simpa using h2
    have ih := freeL_take (left := l) (used := us) (k := k) hk1 hk2
    show (if u then freeL (l.take (k + 1)) (us.take (k + 1)) else x :: freeL (l.take (k + 1)) (us.take (k + 1))) = (if u then freeL (l.take k) (us.take k) else x :: freeL (l.take k) (us.take k)) ++ (if us[k] then [] else [l[k]])
    rw [ih]
    by_cases hu : u = true
    · rw [if_pos hu, if_pos hu]
    · rw [if_neg hu, if_neg hu]; rfl

theorem freeL_len : ∀ (left : List Int) (used : List Bool), (freeL left used).length ≤ left.length
  | [], _ => by unfold freeL; simp
  | _ :: _, [] => by unfold freeL; simp
  | x :: l, u :: us => by
    have ih := freeL_len l us
    unfold freeL
    split <;> simp <;> omega

theorem allLe_at : ∀ {l f : List Int}, l.length ≤ f.length → ((∀ k (h : k < l.length) (h2 : k < f.length), l[k] ≤ f[k]) → allLe l f = true) ∧ (∀ k (h : k < l.length) (h2 : k < f.length), ¬ l[k] ≤ f[k] → allLe l f = false)
  | [], _, _ => ⟨fun _ => by unfold allLe; rfl, fun k h => by cases h⟩
  | _ :: _, [], h => by simp at h
  | x :: l, y :: f, h => by
    obtain ⟨h1, h2⟩ := allLe_at (l := l) (f := f) (by simpa using h)
    refine ⟨fun hall => ?_, fun k hk hk2 hn => ?_⟩
    · unfold allLe
      rw [h1 fun k a b => hall (k + 1) (by simpa using a) (by simpa using b), decide_eq_true (show x ≤ y from hall 0 (by simp) (by simp))]
      rfl
    · unfold allLe
      rcases k with _ | k
      · rw [decide_eq_false (show ¬ x ≤ y from hn)]; rfl
      · rw [h2 k (by simpa using hk) (by simpa using hk2) hn, Bool.and_false]

theorem compareD (x y : Int) : Lib.compareInt y x = cmpD x y := rfl

set_option maxHeartbeats 400000 in
theorem enoughC1_any (x y : Int) (w : World) : Calls Tryz.prog 120 #[.int .i64 x, .int .i64 y] w fun e w' => e = .returned (.int .i64 (cmpD x y)) ∧ w = w' := by
  have hC := Tryz.cmp_Compare_int y x w
  rw [compareD] at hC
  generalize cmpD x y = V at *
  go_enter Tryz.func120, Tryz.ntmps120
  go_wp2_with fail
  refine hC.mono ?_
  rintro e w' ⟨rfl, rfl⟩
  go_wp2_with fail
  go_ret
  exact ⟨rfl, rfl⟩

set_option maxHeartbeats 400000 in
theorem enoughC2_any (x y : Int) (w : World) : Calls Tryz.prog 121 #[.int .i64 x, .int .i64 y] w fun e w' => e = .returned (.int .i64 (cmpD x y)) ∧ w = w' := by
  have hC := Tryz.cmp_Compare_int y x w
  rw [compareD] at hC
  generalize cmpD x y = V at *
  go_enter Tryz.func121, Tryz.ntmps121
  go_wp2_with fail
  refine hC.mono ?_
  rintro e w' ⟨rfl, rfl⟩
  go_wp2_with fail
  go_ret
  exact ⟨rfl, rfl⟩

set_option maxHeartbeats 4000000 in
set_option maxRecDepth 100000 in
theorem enough_any (x : Nat) (vN : Value) (AL AU AG : Option Addr) (cL cU cG nL nU : Nat) (left : List Int) (used : List Bool) (G : List Int) (w : World) (hbx : Box w x 90 [vN, .slice AL nL cL, .slice AU nU cU])
    (hnL : left.length = nL) (hnU : used.length = nU) (hlU : nL = nU) (hl : Sl w 0 AL left) (hu : Sl w 0 AU used) (hg : Sl w 0 AG G) (h50 : nL ≤ 50) (hG : G.length ≤ 50) :
    Calls Tryz.prog 97 #[.pointer (some ⟨x, 0, none⟩), .slice AG G.length cG] w fun e w' => e = .returned (.bool (enoughF G (freeL left used))) ∧ w.grownBy w' none := by
  subst hlU
  obtain ⟨b1, -⟩ := hbx.c 1 rfl
  obtain ⟨b2, -⟩ := hbx.c 2 rfl
  have hfl := freeL_len left used
  have hF0 : Hid (freeL (left.take 0) (used.take 0) = []) := rfl
  have hFs : Hid (∀ k (h : k < nL), freeL (left.take (k + 1)) (used.take (k + 1)) = freeL (left.take k) (used.take k) ++ (if used[k]'(by omega) then [] else [left[k]'(by omega)])) := fun k h => freeL_take (by omega) (by omega)
  have hFl : Hid (∀ k, (freeL (left.take k) (used.take k)).length ≤ 50) := fun k => by
    have h1 := freeL_len (left.take k) (used.take k)
    rw [List.length_take] at h1
    omega
  have hFz : Hid (freeL (left.take nL) (used.take nL) = freeL left used) := by
    have e1 : left.take nL = left := by rw [← hnL, List.take_length]
    have e2 : used.take nL = used := by rw [← hnU, List.take_length]
    rw [Hid, e1, e2]
  obtain ⟨FR, hFR⟩ : ∃ FR, FR = freeL left used := ⟨_, rfl⟩
  rw [← hFR] at hFz hfl ⊢
  clear hFR hbx
  obtain ⟨EV, hEV⟩ : ∃ EV, EV = enoughF G FR := ⟨_, rfl⟩
  rw [← hEV]
  replace hEV := hide hEV
  replace hnL := hide hnL
  replace hnU := hide hnU
  go_enter Tryz.func97, Tryz.ntmps97
  go_wp2_with fail
  go_loopw [5, 16] (fun o i wr => ∃ (k : Nat) (Fk : List Int) (A' : Option Addr) (c' : Nat), k ≤ nL ∧ i = .int .i64 k ∧ o = .slice A' Fk.length c' ∧ Hid (Fk = freeL (left.take k) (used.take k)) ∧ Own wr w.heap.size 3 A' c' Fk ∧ w.grownBy wr none) (fun _ i _ => nL - (intOf i).toNat)
  case atStart => exact ⟨0, [], none, 0, Nat.zero_le _, rfl, rfl, hF0.out.symm, Own.nil _ _ _, World.grownBy.refl _ _⟩
  case round =>
    obtain ⟨k, Fk, A', c', hk, rfl, rfl, hFk, hO, hgr⟩ := hrel
    have hF50 : Fk.length ≤ 50 := by rw [hFk.out]; exact hFl.out k
    by_cases hlt : k < nL
    · have hltL : k < left.length := by rw [hnL.out]; exact hlt
      have hltU : k < used.length := by rw [hnU.out]; exact hlt
      obtain ⟨g1, o1, cx1, rfl, -, -, rfl, hc⟩ := ((hl.pure hgr)).at_ (by decide) hltL
      have d1 : wr.cell? ⟨g1, o1 + k, none⟩ = some (.int .i64 left[k]) := by
        have h1 := hc 0 _ rfl
        rwa [show Enc.sz Int = 1 from rfl, Nat.mul_one] at h1
      clear hc
      obtain ⟨g2, o2, cx2, rfl, -, -, rfl, hc⟩ := ((hu.pure hgr)).at_ (by decide) hltU
      have d2 : wr.cell? ⟨g2, o2 + k, none⟩ = some (.bool used[k]) := by
        have h1 := hc 0 _ rfl
        rwa [show Enc.sz Bool = 1 from rfl, Nat.mul_one] at h1
      clear hc
      have e1 := hgr.k b1
      have e2 := hgr.k b2
      have hn := hFs.out k hlt
      rw [← hFk.out] at hn
      replace hn := hide hn
      generalize hv : left[k] = v at *
      clear hv
      rcases hu1 : used[k] with _ | _
      · rw [hu1] at d2 hn
        have hn2 : Hid (Fk ++ [v] = freeL (left.take (k + 1)) (used.take (k + 1))) := by rw [Hid, hn.out]; rfl
        have hln : Hid ((Fk ++ [v]).length = Fk.length + 1) := by simp [Hid]
        clear hn hFk
        go_wp2_with (at_builtin; obtain ⟨i0, hi, hz, h1, h2⟩ := info_parts info_int; refine wpList_pushAt (α := Int) _ rfl (.tmp 29) (.tmp 31) _ rfl w.heap.size 3 i0 _ 8 Tryz.underlying22 hi hz h1 h2 rfl _ _ _ Fk rfl ?c1 (by exact (hO.pure (gr_alloc (World.grownBy.refl _ _) _))) 0 ⟨_, 0, none⟩ 1 1 [v] rfl rfl (by exact sl_int1 _ _ _ _ (by first | rfl | simp)) ?c2 ?c3 ?c4 ?_)
        case c1 => rfl
        case c2 => first | omega | (simp; omega)
        case c3 => first | (simp [maxLen]; omega) | (unfold maxLen; omega)
        case c4 => have := hgr.size; first | omega | (simp; omega)
        intro A5 c5 w5 hO5 hG5
        have hq := gr_alloc (World.grownBy.refl wr none) (.cells #[.int .i64 v] 3)
        have hoq := hO.pure hq
        have hg5 : w.grownBy w5 none := gr_row (gr_trans hgr hq) hG5.1 (fun x e => (hoq.blk_lt e).1)
        clear hq hoq hG5 hO d1 d2 e1 e2
        go_wp2
        (go_roundw; (case rel => exact ⟨k + 1, Fk ++ [v], A5, c5, by omega, by go_num, by rw [hln.out], hn2, hO5, hg5⟩); (case measure => simp [intOf]; omega))
      · rw [hu1] at d2 hn
        have hn2 : Hid (Fk = freeL (left.take (k + 1)) (used.take (k + 1))) := by rw [Hid, hn.out]; simp
        clear hn hFk
        go_wp2_with fail
        (go_roundw; (case rel => exact ⟨k + 1, Fk, A', c', by omega, by go_num, rfl, hn2, hO, hgr⟩); (case measure => simp [intOf]; omega))
    · obtain rfl : k = nL := by omega
      have hFF : Hid (Fk = FR) := by rw [Hid, hFk.out]; exact hFz.out
      clear hFk hFz hFs hFl hF0 b1 b2 hl hu hnL hnU
      by_cases hle : G.length ≤ Fk.length
      · have hb : decide (Fk.length < G.length) = false := by simp; omega
        have e1 : ∀ args w, (callFunc 120 args).run Tryz.prog w = .ok (.enter 120 args) w := enters_of Tryz.func120 (by kernel_rfl) rfl
        have e2 : ∀ args w, (callFunc 121 args).run Tryz.prog w = .ok (.enter 121 args) w := enters_of Tryz.func121 (by kernel_rfl) rfl
        have hS1 := hide (sortA_any 120 A' c' w.heap.size Fk wr hO (by omega) e1 enoughC1_any)
        have hS2 := hide fun (A3 : Option Addr) (c3 lo : Nat) (wx : World) (h : Own wx lo 3 A3 c3 G) => sortA_any 121 A3 c3 lo G wx h (by omega) e2 enoughC2_any
        have hblk := hide fun x (e : blk A' = some x) => (hO.blk_lt e).1
        clear e1 e2 hO
        replace hle := hide hle
        go_wp2_with fail
        refine hS1.out.mono ?_
        rintro e w2 ⟨rfl, hO2, hg2⟩
        have hgw2 : w.grownBy w2 none := gr_row hgr hg2 hblk.out
        clear hS1 hg2 hgr
        go_wp2_with fail
        refine (cloneInt_any AG cG G w2 (hg.pure hgw2) (by omega)).mono ?_
        rintro e w3 ⟨A3, c3, rfl, hO3, hg3⟩
        have hO23 := hO2.pure hg3
        go_wp2_with fail
        refine (hS2.out A3 c3 w2.heap.size w3 hO3).mono ?_
        rintro e w4 ⟨rfl, hO4, hg4⟩
        have hlt4 : ∀ x, blk A3 = some x → w2.heap.size ≤ x := fun x e => (hO3.blk_lt e).1
        have hO24 := hO23.ne hg4 (fun g h1 h2 => by have h3 := (hO2.blk_lt h1).2; have h4 := hlt4 g h2; omega)
        have hgw4 : w.grownBy w4 none := gr_row (gr_trans hgw2 hg3) hg4 (fun x e => by have h4 := hlt4 x e; have := hgw2.size; omega)
        have hl4 := hO4.sl.mono (Nat.zero_le _)
        have hl2 := hO24.sl.mono (Nat.zero_le _)
        have hz4 : Hid ((srtD G).length = G.length) := srtD_len G
        have hz2 : Hid ((srtD Fk).length = Fk.length) := srtD_len Fk
        have hat := hide (allLe_at (l := srtD G) (f := srtD Fk) (by rw [hz4.out, hz2.out]; exact hle.out))
        have hev : Hid (EV = allLe (srtD G) (srtD Fk)) := by
          rw [Hid, hEV.out, ← hFF.out]
          unfold enoughF
          rw [decide_eq_true hle.out, Bool.true_and]
        clear hEV hO2 hO23 hO3 hO4 hO24 hg3 hg4 hlt4 hgw2 hS2 hg hFF hblk
        go_wp2_with fail
        go_loopw [47] (fun i wr => ∃ k : Nat, k ≤ G.length ∧ i = .int .i64 k ∧ w4.grownBy wr none ∧ Hid (∀ j (h : j < (srtD G).length) (h2 : j < (srtD Fk).length), j < k → (srtD G)[j] ≤ (srtD Fk)[j])) (fun i _ => G.length - (intOf i).toNat)
        case atStart => exact ⟨0, Nat.zero_le _, rfl, World.grownBy.refl _ _, fun j _ _ h => by omega⟩
        case round =>
          obtain ⟨k, hk, rfl, hgr, hall⟩ := hrel
          by_cases hlt : k < G.length
          · have hk4 : k < (srtD G).length := by rw [hz4.out]; exact hlt
            have hk2 : k < (srtD Fk).length := by rw [hz2.out]; have := hle.out; omega
            have hkF : k < Fk.length := by have := hle.out; omega
            obtain ⟨g1, o1, cx1, rfl, -, -, rfl, hc⟩ := ((hl4.pure hgr)).at_ (by decide) hk4
            have d1 : wr.cell? ⟨g1, o1 + k, none⟩ = some (.int .i64 (srtD G)[k]) := by
              have h1 := hc 0 _ rfl
              rwa [show Enc.sz Int = 1 from rfl, Nat.mul_one] at h1
            clear hc
            obtain ⟨g2, o2, cx2, rfl, -, -, rfl, hc⟩ := ((hl2.pure hgr)).at_ (by decide) hk2
            have d2 : wr.cell? ⟨g2, o2 + k, none⟩ = some (.int .i64 (srtD Fk)[k]) := by
              have h1 := hc 0 _ rfl
              rwa [show Enc.sz Int = 1 from rfl, Nat.mul_one] at h1
            clear hc
            have hno := hide fun (h : ¬ (srtD G)[k] ≤ (srtD Fk)[k]) => hev.out.trans (hat.out.2 k hk4 hk2 (by first | exact h | exact Int.not_le.1 h))
            have hyes : Hid ((srtD G)[k] ≤ (srtD Fk)[k] → ∀ j (h : j < (srtD G).length) (h2 : j < (srtD Fk).length), j < k + 1 → (srtD G)[j] ≤ (srtD Fk)[j]) := fun h j h1 h2 h3 => by
              by_cases e : j = k
              · subst e; exact h
              · exact hall.out j h1 h2 (by omega)
            generalize (srtD G)[k] = v1 at *
            generalize (srtD Fk)[k] = v2 at *
            by_cases hv : v1 ≤ v2
            · have hb2 : decide (v1 > v2) = false := by simp; omega
              have hnx := hide (hyes.out hv)
              clear hv hyes hno hall
              go_wp2_with fail
              (go_roundw; (case rel => exact ⟨k + 1, by omega, by go_num, hgr, hnx.out⟩); (case measure => simp [intOf]; omega))
            · have hb2 : decide (v1 > v2) = true := by simp; omega
              have hnx := hide (hno.out hv)
              clear hv hyes hno hall
              go_wp2_with fail
              go_ret
              exact ⟨ret_bool hnx.out.symm, hgw4.t hgr⟩
          · have hT : Hid (EV = true) := hev.out.trans (hat.out.1 fun j h h2 => hall.out j h h2 (by rw [hz4.out] at h; omega))
            clear hall hat hev
            go_wp2_with fail
            go_ret
            exact ⟨ret_bool hT.out.symm, hgw4.t hgr⟩
      · have hb : decide (Fk.length < G.length) = true := by simp; omega
        have hev : Hid (EV = false) := by
          rw [Hid, hEV.out, ← hFF.out]
          unfold enoughF
          rw [decide_eq_false hle, Bool.false_and]
        clear hle hFF hEV
        go_wp2_with fail
        go_ret
        exact ⟨ret_bool hev.out.symm, hgr⟩

end Go.Proofs.YtpdhbhlnopmifaaGreatDoor

namespace Go.Bl
open Go Go.RowKit

theorem Sl.neI {α : Type} [Enc α] [Flat α] {w w' : World} {lo : Nat} {A : Option Addr} {l : List α} {r : Option Nat} (h : Sl w lo A l) (hg : w.grownBy w' r) (hne : ∀ g, blk A = some g → r ≠ some g) : Sl w' lo A l := by
  obtain ⟨hm, cs, hr, hl⟩ := h
  refine ⟨hm, cs, hr.flat, fun hn => ?_⟩
  obtain ⟨ad, rfl, hb, hc⟩ := hl hn
  refine ⟨ad, rfl, hb, fun j u hu => ?_⟩
  have h1 := hc j u hu
  have h2 := cell_lt h1
  rw [block_of_add] at h2
  exact (World.cell?_of_block (hg.block (ad.add j).block (by rw [block_of_add]; exact h2) (by rw [block_of_add]; exact fun e => hne ad.block rfl e.symm))).trans h1

theorem wpList_pushG {P : Program} {α : Type} [Enc α] [Flat α] {ops : Array Oper} {rest : List Oper} {o : Oper} {a : Act} {Q : Exit → Act → World → Prop} (w : World) (hgd : Region.wanted o (yielded ops a.tmps) = true) (s x : Operand) (t : TypeId)
    (ho : o.op = .call { callee := .builtin .append, args := #[s, x], argTypes := #[t, t] })
    (lo : Nat) (e : TypeId) (i : TypeInfo) (z : Value) (bytes : Nat) (ht : P.underlying t = some (.slice e)) (hi : P.info? e = some i) (hz : i.zero = some z)
    (hsize : i.size = Enc.sz α) (hby : i.bytes = bytes) (hzs : z.cells.size = Enc.sz α)
    (A : Option Addr) (n c : Nat) (l : List α) (hs : a.eval s = .slice A n c) (hn : n = l.length) (hown : Own w lo e A c l)
    (lo2 : Nat) (ad : Addr) (m cc : Nat) (l2 : List α) (hx : a.eval x = .slice (some ad) m cc) (hm : m = l2.length) (hsl : Sl w lo2 (some ad) l2)
    (hbytes : (l.length + l2.length) * bytes ≤ 140737488355328) (h63 : l.length + l2.length ≤ maxLen) (hbase : lo ≤ w.heap.size)
    (h : ∀ A' c' w', Own w' lo e A' c' (l ++ l2) → Grew A A' w w' → wpList P ops Q rest (a.put o.dst (.slice A' (l ++ l2).length c')) w') : wpList P ops Q (o :: rest) a w :=
  wpList_step fun K hK => by
    rw [if_pos hgd]
    exact wp_pushAt w s x t ho lo e i z bytes ht hi hz hsize hby hzs A n c l hs hn hown lo2 ad m cc l2 hx hm hsl hbytes h63 hbase fun A' c' w' h1 h2 => hK _ _ (h A' c' w' h1 h2)

end Go.Bl
namespace Go.Proofs.YtpdhbhlnopmifaaGreatDoor
open Go Go.RowKit Go.Bl Go.Lib

/-- a putter as it lies -/
structure FitH (w : World) (x : Nat) (AN AL AU : Option Addr) (cN cL cU : Nat) (needs left : List Int) (used : List Bool) : Prop where
  bx : Box w x 90 [.slice AN needs.length cN, .slice AL used.length cL, .slice AU used.length cU]
  nd : Sl w 0 AN needs
  ol : Own w 0 3 AL cL left
  ou : Own w 0 4 AU cU used
  ll : left.length = used.length
  nl : ∀ g, blk AL = some g → blk AN ≠ some g
section
variable {w w' : World} {x : Nat} {AN AL AU : Option Addr} {cN cL cU : Nat} {needs left : List Int} {used : List Bool}

theorem FitH.pure (h : FitH w x AN AL AU cN cL cU needs left used) (hg : w.grownBy w' none) : FitH w' x AN AL AU cN cL cU needs left used :=
  ⟨h.bx.pure hg, h.nd.pure hg, h.ol.pure hg, h.ou.pure hg, h.ll, h.nl⟩

theorem FitH.other {r : Nat} {A : Option Addr} {c : Nat} {G : List Int} (h : FitH w x AN AL AU cN cL cU needs left used) (ho : Own w 0 3 A c G) (hr : blk A = some r) (h1 : blk AN ≠ some r ∧ blk AL ≠ some r) (hg : w.grownBy w' (some r)) : FitH w' x AN AL AU cN cL cU needs left used :=
  ⟨h.bx.gr hg (fun e => h.bx.ne_own ho (by decide) (hr.trans e)), h.nd.neI hg (fun g e1 e2 => h1.1 (e1.trans e2.symm)), h.ol.ne hg (fun g e1 e2 => h1.2 (e1.trans e2.symm)), h.ou.ne hg (fun g e1 e2 => h.ou.ne_own ho (by decide) e1 (hr.trans e2)), h.ll, h.nl⟩

theorem FitH.set_ {g k : Nat} (h : FitH w x (AN) (some ⟨g, 0, none⟩) AU cN cL cU needs left used) (v : Int) (hk : k < left.length) : FitH (w.setCell ⟨g, k, none⟩ (.int .i64 v)) x AN (some ⟨g, 0, none⟩) AU cN cL cU needs (left.set k v) used := by
  have hg : w.grownBy (w.setCell ⟨g, k, none⟩ (.int .i64 v)) (some g) := gr_set (World.grownBy.refl _ _) (.inl rfl) _
  exact ⟨h.bx.gr hg (fun e => h.bx.ne_own h.ol (by decide) e), h.nd.neI hg (fun q e1 e2 => h.nl g rfl (e1.trans e2.symm)), h.ol.set_int k v, h.ou.ne hg (fun q e1 e2 => h.ou.ne_own h.ol (by decide) e1 e2), by rw [List.length_set]; exact h.ll, h.nl⟩
end

theorem fits_false {n : Int} {ns left : List Int} {used : List Bool} {G : List Int} {more : Nat} {V : Bool} (hV : V = fitsF (n :: ns) left used G more)
    (h1 : ∀ k, k < used.length → used.getD k false = true → n ≤ left.getD k 0 → fitsF ns (left.set k (left.getD k 0 - n)) used G more = false)
    (h2 : ∀ k, k < G.length → fitsF ns left used (G.set k (G.getD k 0 + n)) more = false) : V = (decide (0 < more) && fitsF ns left used (G ++ [n]) (more - 1)) := by
  rw [hV]
  rcases h : fitsF (n :: ns) left used G more with _ | _
  · rcases h3 : (decide (0 < more) && fitsF ns left used (G ++ [n]) (more - 1)) with _ | _
    · rfl
    · simp only [Bool.and_eq_true, decide_eq_true_eq] at h3
      rw [fits_new h3.1 h3.2] at h
      cases h
  · rcases fits_cases h with ⟨k, hk, hu, hl, h4⟩ | ⟨k, hk, h4⟩ | ⟨hm, h4⟩
    · rw [h1 k hk hu hl] at h4
      cases h4
    · rw [h2 k hk] at h4
      cases h4
    · rw [h4]
      simp [hm]

theorem getD_at {l : List Int} {k : Nat} (h : k < l.length) : l.getD k 0 = l[k] := by simp [List.getD, h]

theorem getB_at {l : List Bool} {k : Nat} (h : k < l.length) : l.getD k false = l[k] := by simp [List.getD, h]

set_option maxHeartbeats 8000000 in
set_option maxRecDepth 100000 in
theorem fits_any (x : Nat) (AN AL AU : Option Addr) (cN cL cU : Nat) (needs : List Int) (used : List Bool) (h50 : used.length ≤ 50) (h8 : needs.length ≤ 8) (hnb : ∀ v ∈ needs, 1 ≤ v ∧ v ≤ 1000000000) :
    ∀ (d i : Nat), i + d = needs.length → ∀ (left G : List Int) (AG : Option Addr) (cG more : Nat) (w : World), FitH w x AN AL AU cN cL cU needs left used → (∀ v ∈ left, -1 ≤ v ∧ v ≤ 1000000000) → Own w 0 3 AG cG G →
      (∀ g, blk AG = some g → blk AN ≠ some g ∧ blk AL ≠ some g) → (∀ v ∈ G, 0 ≤ v ∧ v ≤ 1000000000 * i) → G.length ≤ i → more ≤ 100 →
      Calls Tryz.prog 67 #[.pointer (some ⟨x, 0, none⟩), .int .i64 i, .slice AG G.length cG, .int .i64 more] w fun e w' => e = .returned (.bool (fitsF (needs.drop i) left used G more)) ∧ w.grownBy w' none := by
  intro d
  induction d with
  | zero =>
    intro i hi left G AG cG more w hH hlb hg hgn hgb hgl hmore
    obtain rfl : i = needs.length := by omega
    have hV : Hid (fitsF (needs.drop needs.length) left used G more = enoughF G (freeL left used)) := by
      rw [Hid, List.drop_of_length_le (Nat.le_refl _)]
      unfold fitsF
      rfl
    rw [hV.out]
    have hE := hide (enough_any x _ AL AU AG cL cU cG used.length used.length left used G w hH.bx hH.ll rfl rfl (hH.ol.sl.mono (Nat.zero_le _)) (hH.ou.sl.mono (Nat.zero_le _)) (hg.sl.mono (Nat.zero_le _)) h50 (by omega))
    obtain ⟨b0, -⟩ := hH.bx.c 0 rfl
    generalize enoughF G (freeL left used) = V at *
    clear hH hg hgn hgb hlb hV hnb
    go_enter Tryz.func67, Tryz.ntmps67
    go_wp2_with fail
    refine hE.out.mono ?_
    rintro e w2 ⟨rfl, hg2⟩
    go_wp2_with fail
    go_ret
    exact ⟨rfl, hg2⟩
  | succ d ih =>
    intro i hi left G AG cG more w hH hlb hg hgn hgb hgl hmore
    have hlt : i < needs.length := by omega
    have hdr : needs.drop i = needs[i] :: needs.drop (i + 1) := List.drop_eq_getElem_cons hlt
    have hn1 := hnb _ (List.getElem_mem hlt)
    obtain ⟨V, hV⟩ : ∃ V, V = fitsF (needs.drop i) left used G more := ⟨_, rfl⟩
    rw [← hV]
    rw [hdr] at hV
    obtain ⟨b0, -⟩ := hH.bx.c 0 rfl
    obtain ⟨b1, -⟩ := hH.bx.c 1 rfl
    obtain ⟨b2, -⟩ := hH.bx.c 2 rfl
    obtain ⟨gN, oN, cx, rfl, -, -, rfl, hc⟩ := hH.nd.at_ (by decide) hlt
    have n0 : w.cell? ⟨gN, oN + i, none⟩ = some (.int .i64 needs[i]) := by
      have h1 := hc 0 _ rfl
      rwa [show Enc.sz Int = 1 from rfl, Nat.mul_one] at h1
    clear hc
    generalize needs[i] = n at *
    generalize hns : needs.drop (i + 1) = ns at *
    replace hns := hide hns
    replace ih := hide ih
    replace hV := hide hV
    replace hH := hide hH
    replace hlb := hide hlb
    replace hg := hide hg
    replace hgn := hide hgn
    replace hgb := hide hgb
    replace hnb := hide hnb
    have hbi : ((i : Int) == (needs.length : Int)) = false := by simp; omega
    go_enter Tryz.func67, Tryz.ntmps67
    go_wp2_with fail
    go_loopw [37] (fun i_ wr => ∃ k : Nat, k ≤ used.length ∧ i_ = .int .i64 k ∧ w.grownBy wr none ∧ Hid (∀ j, j < k → used.getD j false = true → n ≤ left.getD j 0 → fitsF ns (left.set j (left.getD j 0 - n)) used G more = false)) (fun i_ _ => used.length - (intOf i_).toNat)
    case atStart => exact ⟨0, Nat.zero_le _, rfl, World.grownBy.refl _ _, fun j h => by omega⟩
    case round =>
      obtain ⟨k, hk, rfl, hgr, hno⟩ := hrel
      by_cases hku : k < used.length
      · have hkl : k < left.length := by rw [hH.out.ll]; exact hku
        obtain ⟨gL, rfl, -, -⟩ := hH.out.ol.shape (by omega)
        have hHr := hH.out.pure hgr
        have hLk := hHr.ol.cell_int hkl
        have hLf := hHr.ol.frozen k
        have hlv := hlb.out _ (List.getElem_mem hkl)
        have hgd := getD_at hkl
        have hub := getB_at hku
        obtain ⟨gU, oU, cx2, rfl, -, -, rfl, hc⟩ := hHr.ou.sl.at_ (by decide) hku
        have u0 : wr.cell? ⟨gU, oU + k, none⟩ = some (.bool used[k]) := by
          have h1 := hc 0 _ rfl
          rwa [show Enc.sz Bool = 1 from rfl, Nat.mul_one] at h1
        clear hc
        have c0 := hgr.k b0
        have c1 := hgr.k b1
        have c2 := hgr.k b2
        generalize left[k] = v at *
        rcases huk : used[k] with _ | _
        · rw [huk] at u0 hub
          have hnx : Hid (∀ j, j < k + 1 → used.getD j false = true → n ≤ left.getD j 0 → fitsF ns (left.set j (left.getD j 0 - n)) used G more = false) := fun j h1 h2 h3 => by
            by_cases e : j = k
            · subst e
              rw [hub] at h2
              cases h2
            · exact hno.out j (by omega) h2 h3
          clear hno hgd hub huk hHr
          go_wp2_with fail
          (go_roundw; (case rel => exact ⟨k + 1, by omega, by go_num, hgr, hnx.out⟩); (case measure => simp [intOf]; omega))
        · rw [huk] at u0 hub
          by_cases hnv : n ≤ v
          · have hb : decide (v ≥ n) = true := by simp; omega
            have hHs := FitH.set_ hHr (v - n) hkl
            have hbk := fun w2 (h : (wr.setCell ⟨gL, k, none⟩ (.int .i64 (v - n))).grownBy w2 none) => set_back hLk h
            have hI := ih.out (i + 1) (by omega) (left.set k (v - n)) G AG cG more _ hHs (fun u hu => by
              rcases List.mem_or_eq_of_mem_set hu with h | h
              · exact hlb.out u h
              · omega) ((hg.out.pure hgr).ne (gr_set (World.grownBy.refl wr (some gL)) (p := ⟨gL, k, none⟩) (.inl rfl) (.int .i64 (v - n))) (fun q e1 e2 => (hgn.out q e1).2 e2)) hgn.out (fun u hu => by have := hgb.out u hu; omega) (by omega) hmore
            rw [hns.out] at hI
            have hset : (wr.setCell ⟨gL, k, none⟩ (.int .i64 (v - n))).cell? ⟨gL, k, none⟩ = some (.int .i64 (v - n)) := hHs.ol.cell_int (by rw [List.length_set]; exact hkl) |>.trans (by rw [List.getElem_set_self])
            have hfz : (wr.setCell ⟨gL, k, none⟩ (.int .i64 (v - n))).frozen? ⟨gL, k, none⟩ = false := hHs.ol.frozen k
            obtain ⟨s0, -⟩ := hHs.bx.c 0 rfl
            obtain ⟨s1, -⟩ := hHs.bx.c 1 rfl
            obtain ⟨s2, -⟩ := hHs.bx.c 2 rfl
            have hpos : Hid (fitsF ns (left.set k (v - n)) used G more = true → V = true) := fun h => by
              rw [hV.out]
              exact fits_used hub (by rw [hgd]; exact hnv) (by rw [hgd]; exact h)
            have hneg : Hid (fitsF ns (left.set k (v - n)) used G more = false → ∀ j, j < k + 1 → used.getD j false = true → n ≤ left.getD j 0 → fitsF ns (left.set j (left.getD j 0 - n)) used G more = false) := fun h j h1 h2 h3 => by
              by_cases e : j = k
              · subst e
                rw [hgd]
                exact h
              · exact hno.out j (by omega) h2 h3
            generalize fitsF ns (left.set k (v - n)) used G more = R at *
            replace hI := hide hI
            replace hbk := hide hbk
            clear hno hgd hub huk hHr hHs
            go_upto_region 9 with fail
            obtain ⟨w1, hw1⟩ : ∃ y, y = wr.setCell ⟨gL, k, none⟩ (.int .i64 (v - n)) := ⟨_, rfl⟩
            rw [← hw1] at hI hbk hset hfz s0 s1 s2 ⊢
            clear hw1 hLk hLf u0 c0 c1 c2
            go_wp2_with fail
            refine hI.out.mono ?_
            rintro e w2 ⟨rfl, hg2⟩
            obtain ⟨hset2, hfz2⟩ := Cell.gr ⟨hset, hfz⟩ hg2 (by simp)
            replace s0 := hg2.k s0
            replace s1 := hg2.k s1
            replace s2 := hg2.k s2
            have hgz := hgr.t (hbk.out w2 hg2)
            clear hset hfz
            go_upto_region 11 with fail
            obtain ⟨w3, hw3⟩ : ∃ y, y = w2.setCell ⟨gL, k, none⟩ (.int .i64 v) := ⟨_, rfl⟩
            rw [← hw3] at hgz ⊢
            clear hw3 hset2 hfz2 s0 s1 s2 hbk hI hg2
            rcases R with _ | _
            · have hnx := hide (hneg.out rfl)
              clear hneg hpos
              go_wp2_with fail
              (go_roundw; (case rel => exact ⟨k + 1, by omega, by go_num, hgz, hnx.out⟩); (case measure => simp [intOf]; omega))
            · have hT := hide (hpos.out rfl)
              clear hneg hpos
              go_wp2_with fail
              go_ret
              exact ⟨ret_bool hT.out.symm, hgz⟩
          · have hb : decide (v ≥ n) = false := by simp; omega
            have hnx : Hid (∀ j, j < k + 1 → used.getD j false = true → n ≤ left.getD j 0 → fitsF ns (left.set j (left.getD j 0 - n)) used G more = false) := fun j h1 h2 h3 => by
              by_cases e : j = k
              · subst e
                rw [hgd] at h3
                exact absurd h3 hnv
              · exact hno.out j (by omega) h2 h3
            clear hno hgd hub huk hHr hnv
            go_wp2_with fail
            (go_roundw; (case rel => exact ⟨k + 1, by omega, by go_num, hgr, hnx.out⟩); (case measure => simp [intOf]; omega))
      · have hk2 : k = used.length := by omega
        subst hk2
        go_wp2_with fail
        go_loopw [84] (fun i_ wr => ∃ k : Nat, k ≤ G.length ∧ i_ = .int .i64 k ∧ w.grownBy wr none ∧ Hid (∀ j, j < k → fitsF ns left used (G.set j (G.getD j 0 + n)) more = false)) (fun i_ _ => G.length - (intOf i_).toNat)
        case atStart => exact ⟨0, Nat.zero_le _, rfl, hgr, fun j h => by omega⟩
        case round =>
          clear hgr
          obtain ⟨k, hk, rfl, hgr, hno2⟩ := hrel
          by_cases hkg : k < G.length
          · obtain ⟨gG, rfl, -, -⟩ := hg.out.shape (by omega)
            have hHr := hH.out.pure hgr
            have hOr := hg.out.pure hgr
            have hGk := hOr.cell_int hkg
            have hGf := hOr.frozen k
            have hgv := hgb.out _ (List.getElem_mem hkg)
            have hgd := getD_at hkg
            generalize G[k] = v at *
            have hgr2 : wr.grownBy (wr.setCell ⟨gG, k, none⟩ (.int .i64 (v + n))) (some gG) := gr_set (World.grownBy.refl _ _) (.inl rfl) _
            have hHs := hHr.other hOr rfl (hgn.out gG rfl) hgr2
            have hOs := hOr.set_int k (v + n)
            have hbk := fun w2 (h : (wr.setCell ⟨gG, k, none⟩ (.int .i64 (v + n))).grownBy w2 none) => set_back hGk h
            have hI := ih.out (i + 1) (by omega) left (G.set k (v + n)) (some ⟨gG, 0, none⟩) cG more _ hHs hlb.out hOs hgn.out (fun u hu => by
              rcases List.mem_or_eq_of_mem_set hu with h | h
              · have := hgb.out u h; omega
              · omega) (by rw [List.length_set]; omega) hmore
            rw [List.length_set, hns.out] at hI
            have hset : (wr.setCell ⟨gG, k, none⟩ (.int .i64 (v + n))).cell? ⟨gG, k, none⟩ = some (.int .i64 (v + n)) := (hOs.cell_int (by rw [List.length_set]; exact hkg)).trans (by rw [List.getElem_set_self])
            have hfz : (wr.setCell ⟨gG, k, none⟩ (.int .i64 (v + n))).frozen? ⟨gG, k, none⟩ = false := hOs.frozen k
            have hpos : Hid (fitsF ns left used (G.set k (v + n)) more = true → V = true) := fun h => by
              rw [hV.out]
              exact fits_join hkg (by rw [hgd]; exact h)
            have hneg : Hid (fitsF ns left used (G.set k (v + n)) more = false → ∀ j, j < k + 1 → fitsF ns left used (G.set j (G.getD j 0 + n)) more = false) := fun h j h1 => by
              by_cases e : j = k
              · subst e
                rw [hgd]
                exact h
              · exact hno2.out j (by omega)
            generalize fitsF ns left used (G.set k (v + n)) more = R at *
            replace hI := hide hI
            replace hbk := hide hbk
            clear hno2 hgd hHr hHs hOr hOs hgr2
            go_upto_region 18 with fail
            obtain ⟨w1, hw1⟩ : ∃ y, y = wr.setCell ⟨gG, k, none⟩ (.int .i64 (v + n)) := ⟨_, rfl⟩
            rw [← hw1] at hI hbk hset hfz ⊢
            clear hw1 hGk hGf
            go_wp2_with fail
            refine hI.out.mono ?_
            rintro e w2 ⟨rfl, hg2⟩
            obtain ⟨hset2, hfz2⟩ := Cell.gr ⟨hset, hfz⟩ hg2 (by simp)
            have hgz := hgr.t (hbk.out w2 hg2)
            clear hset hfz
            go_upto_region 20 with fail
            obtain ⟨w3, hw3⟩ : ∃ y, y = w2.setCell ⟨gG, k, none⟩ (.int .i64 v) := ⟨_, rfl⟩
            rw [← hw3] at hgz ⊢
            clear hw3 hset2 hfz2 hbk hI hg2
            rcases R with _ | _
            · have hnx := hide (hneg.out rfl)
              clear hneg hpos
              go_wp2_with fail
              (go_roundw; (case rel => exact ⟨k + 1, by omega, by go_num, hgz, hnx.out⟩); (case measure => simp [intOf]; omega))
            · have hT := hide (hpos.out rfl)
              clear hneg hpos
              go_wp2_with fail
              go_ret
              exact ⟨ret_bool hT.out.symm, hgz⟩
          · have hkg2 : k = G.length := by omega
            subst hkg2
            have hlast := hide (fits_false hV.out (fun k h1 h2 h3 => hno.out k h1 h2 h3) (fun k h1 => hno2.out k h1))
            by_cases hm : 0 < more
            · have hm1 : decide (0 < more) = true := by simp; omega
              have hHr := hH.out.pure hgr
              have hF : Hid (V = fitsF ns left used (G ++ [n]) (more - 1)) := by
                rw [Hid, hlast.out, decide_eq_true hm, Bool.true_and]
              have hCl := hide (cloneInt_any AG cG G wr (hg.out.sl.pure hgr) (by omega))
              have hIc := hide fun (A5 : Option Addr) (c5 : Nat) (w5 : World) (h5 : wr.grownBy w5 none) (hO5 : Own w5 0 3 A5 c5 (G ++ [n])) (hn5 : ∀ g, blk A5 = some g → blk (some ⟨gN, oN, none⟩ : Option Addr) ≠ some g ∧ blk AL ≠ some g) => ih.out (i + 1) (by omega) left (G ++ [n]) A5 c5 (more - 1) w5 (hHr.pure h5) hlb.out hO5 hn5 (fun u hu => by
                rcases List.mem_append.1 hu with h | h
                · have := hgb.out u h; omega
                · rw [List.mem_singleton.1 h]; omega) (by rw [List.length_append]; simp only [List.length_cons, List.length_nil]; omega) (by omega)
              have hN1 : gN < wr.heap.size := by have := cell_lt (hgr.k n0); exact this
              have hL1 := hide fun g (h : blk AL = some g) => (hHr.ol.blk_lt h).2
              rw [hns.out] at hIc
              have hmi : (((more - 1 : Nat) : Int)) = (more : Int) - 1 := by omega
              rw [hmi] at hIc
              generalize fitsF ns left used (G ++ [n]) (more - 1) = R at *
              clear hlast hno hno2 hHr hmi
              go_wp2_with fail
              refine hCl.out.mono ?_
              rintro e w2 ⟨A3, c3, rfl, hO3, hg3⟩
              have hg3a := gr_alloc (World.grownBy.refl w2 none) (.cells #[.int .i64 n] 3)
              have hrz := hg3.size
              have hsza := hg3a.size
              go_wp2_with (at_builtin; obtain ⟨i0, hi, hz, h1, h2⟩ := info_parts info_int; refine wpList_pushG (α := Int) _ rfl (.tmp 116) (.tmp 118) _ rfl wr.heap.size 3 i0 _ 8 Tryz.underlying22 hi hz h1 h2 rfl _ _ _ G rfl ?c1 (by exact hO3.pure hg3a) 0 ⟨_, 0, none⟩ 1 1 [n] rfl rfl (by exact sl_int1 _ _ _ _ (by first | rfl | simp)) ?c2 ?c3 ?c4 ?_)
              case c1 => rfl
              case c2 => first | omega | (simp; omega)
              case c3 => first | (simp [maxLen]; omega) | (unfold maxLen; omega)
              case c4 => first | omega | (simp; omega)
              intro A5 c5 w5 hO5 hG5
              have hoq := hO3.pure hg3a
              have hg5 : wr.grownBy w5 none := gr_row (gr_trans hg3 hg3a) hG5.1 (fun x e => (hoq.blk_lt e).1)
              have hI5 := hIc.out A5 c5 w5 hg5 (hO5.lower (Nat.zero_le _)) (fun q e => by
                have h1 := (hO5.blk_lt e).1
                refine ⟨fun h => ?_, fun h => ?_⟩
                · injection h with h
                  have h2 : gN = q := h
                  omega
                · have h2 := hL1.out q h
                  omega)
              simp only [List.length_append, List.length_cons, List.length_nil, Nat.zero_add] at hI5
              replace hI5 := hide hI5
              clear hoq hO3 hG5 hO5 hIc hCl hL1 hg3a hg3 hN1
              go_wp2_with fail
              refine hI5.out.mono ?_
              rintro e w6 ⟨rfl, hg6⟩
              go_wp2_with fail
              go_ret
              exact ⟨ret_bool hF.out.symm, hgr.t (hg5.t hg6)⟩
            · have hm1 : decide (0 < more) = false := by simp; omega
              have hF : Hid (V = false) := by
                rw [Hid, hlast.out, decide_eq_false hm, Bool.false_and]
              clear hlast hno hno2
              go_wp2_with fail
              go_ret
              exact ⟨ret_bool hF.out.symm, hgr⟩

end Go.Proofs.YtpdhbhlnopmifaaGreatDoor

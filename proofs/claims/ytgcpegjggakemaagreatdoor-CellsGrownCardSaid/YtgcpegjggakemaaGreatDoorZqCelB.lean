/- Contracts of functions that this seat's laws reach, each: what one call returns and what it leaves in memory; no condition beyond each theorem's own hypotheses. -/
import Derived.Test.YtgcpegjggakemaaGreatDoorZqClosData
import Derived.Test.YtgcpegjggakemaaGreatDoorZqPathA
import Derived.Test.YtgcpegjggakemaaGreatDoorZqGr2
import Derived.Test.YtgcpegjggakemaaGreatDoorShelf
set_option linter.unusedVariables false
set_option linter.unusedSimpArgs false
namespace Go.Bl
open Go

theorem ixB_mem {l : List UInt8} {c : UInt8} : 0 ≤ Lib.indexByte l c ↔ c ∈ l := by
  induction l with
  | nil => simp [Lib.indexByte]
  | cons b l ih =>
    have hge := Lib.indexByte_ge l c
    unfold Lib.indexByte
    by_cases h : b = c
    · simp [h]
    · have hb : (b == c) = false := by simpa using h
      rw [hb]
      by_cases h1 : Lib.indexByte l c = -1
      · have hn : c ∉ l := fun hc => by have := ih.2 hc; omega
        simp [h1, hn, Ne.symm h]
      · have hb1 : (Lib.indexByte l c == -1) = false := by simpa using h1
        have hc : c ∈ l := ih.1 (by omega)
        rw [hb1]
        simp [hc]; omega

def hasB (s : ByteArray) : Bool := decide (0 ≤ Lib.indexByte s.data.toList 35)

theorem byt_mem {s : ByteArray} {c : UInt8} : c ∈ s.data.toList ↔ ∃ i, i < s.size ∧ byt s i = c := by
  rw [List.mem_iff_getElem]
  constructor
  · rintro ⟨i, hi, e⟩
    exact ⟨i, by rw [Array.length_toList] at hi; exact hi, by rw [byt, List.getD_eq_getElem?_getD, List.getElem?_eq_getElem hi]; exact e⟩
  · rintro ⟨i, hi, e⟩
    have hi' : i < s.data.toList.length := by rw [Array.length_toList]; exact hi
    exact ⟨i, hi', by rw [byt, List.getD_eq_getElem?_getD, List.getElem?_eq_getElem hi'] at e; exact e⟩

theorem hasB_any {rows : List ByteArray} {j n : Nat} (h : (rows.getD j ByteArray.empty).size = n) : hasB (rows.getD j ByteArray.empty) = (List.range n).any (bit rows j) := by
  rw [Bool.eq_iff_iff, hasB, decide_eq_true_eq, ixB_mem, byt_mem, h, List.any_eq_true]
  simp [bit]

theorem getD_of {l : List ByteArray} {k : Nat} (h : k < l.length) : l.getD k ByteArray.empty = l[k] := by rw [List.getD_eq_getElem?_getD, List.getElem?_eq_getElem h]; rfl

theorem any_bit {rows : List ByteArray} {i : Nat} : rows.any (fun s => byt s i == 35) = (List.range rows.length).any (fun j => bit rows j i) := by
  rw [Bool.eq_iff_iff, List.any_eq_true, List.any_eq_true]
  constructor
  · rintro ⟨s, hs, h⟩
    obtain ⟨j, hj, rfl⟩ := List.mem_iff_getElem.1 hs
    exact ⟨j, List.mem_range.2 hj, by rw [bit, getD_of hj]; exact h⟩
  · rintro ⟨j, hj, h⟩
    have hj := List.mem_range.1 hj
    exact ⟨_, List.getElem_mem hj, by rw [bit, getD_of hj] at h; exact h⟩

theorem byt_get {s : ByteArray} {i : Nat} (h : i < s.size) : s[i] = byt s i := by
  have h' : i < s.data.toList.length := by rw [Array.length_toList]; exact h
  have e1 : s[i] = s.data[i] := rfl
  rw [e1, byt, List.getD_eq_getElem?_getD, List.getElem?_eq_getElem h']
  simp

theorem u8_35 (b : UInt8) : (((b.toNat : Nat) : Int) == 35) = (b == 35) := by
  rw [Bool.eq_iff_iff, beq_iff_eq, beq_iff_eq]
  constructor
  · intro h
    apply UInt8.toNat_inj.1
    have : b.toNat = 35 := by omega
    rw [this]; rfl
  · rintro rfl; rfl

end Go.Bl
namespace Go.Proofs.YtgcpegjggakemaaGreatDoor
open Go Go.RowKit Go.Bl

theorem sl_strs {w : World} {lo : Nat} {A : Option Addr} {l : List ByteArray} (hl : Sl w lo A l) (h0 : 0 < l.length) :
    ∃ g o, A = some ⟨g, o, none⟩ ∧ lo ≤ g ∧ ∀ k (h : k < l.length), w.cell? ⟨g, o + k, none⟩ = some (.string l[k]) := by
  obtain ⟨g, o, cx, rfl, hb0, hb1, rfl, hc⟩ := hl.at_ (by decide) h0
  refine ⟨g, o, rfl, hb0, fun k hk => ?_⟩
  obtain ⟨g', o', cx, e, hb0', hb1', rfl, hc'⟩ := hl.at_ (by decide) hk
  cases e
  have := hc' 0 _ rfl
  rwa [show Enc.sz ByteArray = 1 from rfl, Nat.mul_one] at this

theorem hasCl_any (s : ByteArray) (w : World) :
    Calls Tryz.prog 126 #[.string s] w fun e w' => e = .returned (.bool (hasB s)) ∧ w.grownBy w' none := by
  go_enter Tryz.func126, Tryz.ntmps126
  go_wp2_with fail
  refine (Tryz.strings_IndexByte _ _ _).mono ?_
  rintro e w' ⟨rfl, rfl⟩
  have hV : hasB s = decide (0 ≤ Lib.indexByte s.data.toList 35) := rfl
  go_wp2_with fail
  go_ret
  exact ⟨ret_bool (by rw [hV]), World.grownBy.refl _ _⟩

theorem firstCl_any (s : ByteArray) (w : World) (h : 0 < s.size) :
    Calls Tryz.prog 129 #[.string s] w fun e w' => e = .returned (.bool (byt s 0 == 35)) ∧ w.grownBy w' none := by
  have hb := byt_get h
  go_enter Tryz.func129, Tryz.ntmps129
  go_wp2_with fail
  go_ret
  exact ⟨ret_bool (u8_35 _), World.grownBy.refl _ _⟩

theorem lastCl_any (s : ByteArray) (W gc : Nat) (w : World) (h : 0 < W) (hs : s.size = W) (hW : W ≤ 4611686018427387904) (hp : w.cell? ⟨gc, 0, none⟩ = some (.int .i64 (W : Int))) :
    Calls Tryz.prog 130 #[.string s, .pointer (some ⟨gc, 0, none⟩)] w fun e w' => e = .returned (.bool (byt s (W - 1) == 35)) ∧ w.grownBy w' none := by
  obtain ⟨m, rfl⟩ : ∃ m, W = m + 1 := ⟨W - 1, by omega⟩
  have hm : m < s.size := by omega
  have hb := byt_get hm
  have e1 : ((m + 1 : Nat) : Int) = (m : Int) + 1 := by omega
  have e2 : m + 1 - 1 = m := by omega
  rw [e1] at hp
  rw [e2]
  replace hs := hide hs
  go_enter Tryz.func130, Tryz.ntmps130
  go_wp2_with fail
  go_ret
  exact ⟨ret_bool (u8_35 _), World.grownBy.refl _ _⟩

set_option maxHeartbeats 800000 in
set_option maxRecDepth 100000 in
theorem indexFirst_any (W gc : Nat) (A : Option Addr) (c : Nat) (l : List ByteArray) (w : World) (hl : Sl w 0 A l) (hp : Hid (0 < W ∧ W ≤ 4611686018427387904 ∧ ∀ s ∈ l, s.size = W) ∧ w.cell? ⟨gc, 0, none⟩ = some (.int .i64 (W : Int))) :
    Calls Tryz.prog 169 #[.slice A l.length c, .func (.func 129) #[] #[]] w fun e w' => ∃ r : Int, e = .returned (.int .i64 r) ∧ decide (0 ≤ r) = l.any (fun s => byt s 0 == 35) ∧ w.grownBy w' none := by
  have hm := hl.1
  unfold maxLen at hm
  go_enter Tryz.func169, Tryz.ntmps169
  go_wp2
  go_loopw [8] (fun i wr => ∃ k : Nat, k ≤ l.length ∧ i = .int .i64 k ∧ w.grownBy wr none ∧ Hid ((l.take k).any (fun s => byt s 0 == 35) = false)) (fun i _ => l.length - (intOf i).toNat)
  case atStart => exact ⟨0, Nat.zero_le _, rfl, World.grownBy.refl _ _, by simp [Hid]⟩
  case round =>
    obtain ⟨k, hk, rfl, hg, hall⟩ := hrel
    by_cases hlt : k < l.length
    · obtain ⟨g, o, cx, rfl, hb0, hb1, rfl, hc⟩ := (hl.pure hg).at_ (by decide) hlt
      have c0 : wr.cell? ⟨g, o + k, none⟩ = some (.string l[k]) := by have := hc 0 _ rfl; rwa [show Enc.sz ByteArray = 1 from rfl, Nat.mul_one] at this
      clear hc
      have HS : Hid ((l.take (k + 1)).any (fun s => byt s 0 == 35) = ((l.take k).any (fun s => byt s 0 == 35) || (fun s => byt s 0 == 35) l[k])) := by rw [Hid, take_snoc hlt, List.any_append]; simp
      have HA : Hid ((fun s => byt s 0 == 35) l[k] = true → l.any (fun s => byt s 0 == 35) = true) := fun h => List.any_eq_true.2 ⟨_, List.getElem_mem _, h⟩
      have hmem := List.getElem_mem hlt
      have hp' := hp
      generalize l[k] = f at *
      obtain ⟨bb, hbb⟩ : ∃ bb, (fun s => byt s 0 == 35) f = bb := ⟨_, rfl⟩
      have hcon := firstCl_any f wr (by have h1 := hp'.1.out.2.2 _ hmem; have h2 := hp'.1.out.1; omega)
      simp only [hbb] at hcon HS HA
      replace hcon := hide hcon
      replace hbb := hide hbb
      replace HS := hide HS
      replace HA := hide HA
      replace hmem := hide hmem
      go_wp2_with fail
      refine (hcon.out).mono ?_
      rintro e w' ⟨rfl, hg'⟩
      cases bb
      · go_wp2_with fail
        (go_roundw; (case rel => exact ⟨k + 1, by omega, by go_num, gr_trans hg hg', by rw [Hid, HS.out, hall.out]; rfl⟩); (case measure => simp [intOf]; omega))
      · have HB := hide (HA.out rfl)
        go_wp2_with fail
        go_ret
        exact ⟨k, rfl, by rw [HB.out]; simp, gr_trans hg hg'⟩
    · have HB : Hid (l.any (fun s => byt s 0 == 35) = false) := by have := hall.out; rwa [List.take_of_length_le (by omega)] at this
      go_wp2
      go_ret
      exact ⟨-1, rfl, by rw [HB.out]; rfl, hg⟩

set_option maxHeartbeats 400000 in
theorem containsFirst_any (W gc : Nat) (A : Option Addr) (c : Nat) (l : List ByteArray) (w : World) (hl : Sl w 0 A l) (hp : Hid (0 < W ∧ W ≤ 4611686018427387904 ∧ ∀ s ∈ l, s.size = W) ∧ w.cell? ⟨gc, 0, none⟩ = some (.int .i64 (W : Int))) :
    Calls Tryz.prog 128 #[.slice A l.length c, .func (.func 129) #[] #[]] w fun e w' => e = .returned (.bool (l.any (fun s => byt s 0 == 35))) ∧ w.grownBy w' none := by
  go_enter Tryz.func128, Tryz.ntmps128
  go_wp2_with fail
  refine (indexFirst_any _ _ _ _ _ _ hl (by assumption)).mono ?_
  rintro e w1 ⟨r, rfl, hr, hg⟩
  replace hr := hide hr
  go_wp2_with fail
  go_ret
  exact ⟨ret_bool hr.out, hg⟩

set_option maxHeartbeats 800000 in
set_option maxRecDepth 100000 in
theorem indexLast_any (W gc : Nat) (A : Option Addr) (c : Nat) (l : List ByteArray) (w : World) (hl : Sl w 0 A l) (hp : Hid (0 < W ∧ W ≤ 4611686018427387904 ∧ ∀ s ∈ l, s.size = W) ∧ w.cell? ⟨gc, 0, none⟩ = some (.int .i64 (W : Int))) :
    Calls Tryz.prog 169 #[.slice A l.length c, .func (.func 130) #[] #[.pointer (some ⟨gc, 0, none⟩)]] w fun e w' => ∃ r : Int, e = .returned (.int .i64 r) ∧ decide (0 ≤ r) = l.any (fun s => byt s (W - 1) == 35) ∧ w.grownBy w' none := by
  have hm := hl.1
  unfold maxLen at hm
  go_enter Tryz.func169, Tryz.ntmps169
  go_wp2
  go_loopw [8] (fun i wr => ∃ k : Nat, k ≤ l.length ∧ i = .int .i64 k ∧ w.grownBy wr none ∧ Hid ((l.take k).any (fun s => byt s (W - 1) == 35) = false)) (fun i _ => l.length - (intOf i).toNat)
  case atStart => exact ⟨0, Nat.zero_le _, rfl, World.grownBy.refl _ _, by simp [Hid]⟩
  case round =>
    obtain ⟨k, hk, rfl, hg, hall⟩ := hrel
    by_cases hlt : k < l.length
    · obtain ⟨g, o, cx, rfl, hb0, hb1, rfl, hc⟩ := (hl.pure hg).at_ (by decide) hlt
      have c0 : wr.cell? ⟨g, o + k, none⟩ = some (.string l[k]) := by have := hc 0 _ rfl; rwa [show Enc.sz ByteArray = 1 from rfl, Nat.mul_one] at this
      clear hc
      have HS : Hid ((l.take (k + 1)).any (fun s => byt s (W - 1) == 35) = ((l.take k).any (fun s => byt s (W - 1) == 35) || (fun s => byt s (W - 1) == 35) l[k])) := by rw [Hid, take_snoc hlt, List.any_append]; simp
      have HA : Hid ((fun s => byt s (W - 1) == 35) l[k] = true → l.any (fun s => byt s (W - 1) == 35) = true) := fun h => List.any_eq_true.2 ⟨_, List.getElem_mem _, h⟩
      have hmem := List.getElem_mem hlt
      have hp' := hg.k hp.2
      generalize l[k] = f at *
      obtain ⟨bb, hbb⟩ : ∃ bb, (fun s => byt s (W - 1) == 35) f = bb := ⟨_, rfl⟩
      have hcon := lastCl_any f W gc wr hp.1.out.1 (hp.1.out.2.2 _ hmem) hp.1.out.2.1 hp'
      simp only [hbb] at hcon HS HA
      replace hcon := hide hcon
      replace hbb := hide hbb
      replace HS := hide HS
      replace HA := hide HA
      replace hmem := hide hmem
      go_wp2_with fail
      refine (hcon.out).mono ?_
      rintro e w' ⟨rfl, hg'⟩
      cases bb
      · go_wp2_with fail
        (go_roundw; (case rel => exact ⟨k + 1, by omega, by go_num, gr_trans hg hg', by rw [Hid, HS.out, hall.out]; rfl⟩); (case measure => simp [intOf]; omega))
      · have HB := hide (HA.out rfl)
        go_wp2_with fail
        go_ret
        exact ⟨k, rfl, by rw [HB.out]; simp, gr_trans hg hg'⟩
    · have HB : Hid (l.any (fun s => byt s (W - 1) == 35) = false) := by have := hall.out; rwa [List.take_of_length_le (by omega)] at this
      go_wp2
      go_ret
      exact ⟨-1, rfl, by rw [HB.out]; rfl, hg⟩

set_option maxHeartbeats 400000 in
theorem containsLast_any (W gc : Nat) (A : Option Addr) (c : Nat) (l : List ByteArray) (w : World) (hl : Sl w 0 A l) (hp : Hid (0 < W ∧ W ≤ 4611686018427387904 ∧ ∀ s ∈ l, s.size = W) ∧ w.cell? ⟨gc, 0, none⟩ = some (.int .i64 (W : Int))) :
    Calls Tryz.prog 128 #[.slice A l.length c, .func (.func 130) #[] #[.pointer (some ⟨gc, 0, none⟩)]] w fun e w' => e = .returned (.bool (l.any (fun s => byt s (W - 1) == 35))) ∧ w.grownBy w' none := by
  go_enter Tryz.func128, Tryz.ntmps128
  go_wp2_with fail
  refine (indexLast_any _ _ _ _ _ _ hl (by assumption)).mono ?_
  rintro e w1 ⟨r, rfl, hr, hg⟩
  replace hr := hide hr
  go_wp2_with fail
  go_ret
  exact ⟨ret_bool hr.out, hg⟩

set_option maxHeartbeats 800000 in
theorem isTight_any (A : Option Addr) (n c : Nat) (rows : List ByteArray) (w : World) (hl : Sl w 0 A rows) (hn : rows.length = n) (h0 : 0 < rows.length)
    (hz : wideR rows ≤ 4611686018427387904) (hr : ∀ s ∈ rows, s.size = wideR rows) :
    Calls Tryz.prog 57 #[.slice A n c] w fun e w' => e = .returned (.bool (tightB rows)) ∧ w.grownBy w' none := by
  subst hn
  obtain ⟨W, hW⟩ : ∃ W, W = wideR rows := ⟨_, rfl⟩
  have hl1 : rows.length - 1 < rows.length := by omega
  have eA : rows.getD 0 ByteArray.empty = rows[0] := getD_of h0
  have eB : rows.getD (rows.length - 1) ByteArray.empty = rows[rows.length - 1] := getD_of hl1
  have s0 : rows[0].size = W := by rw [hW]; exact hr _ (List.getElem_mem h0)
  have s1 : rows[rows.length - 1].size = W := by rw [hW]; exact hr _ (List.getElem_mem hl1)
  have b0 := hasB_any (rows := rows) (j := 0) (n := W) (by rw [eA]; exact s0)
  have b1 := hasB_any (rows := rows) (j := rows.length - 1) (n := W) (by rw [eB]; exact s1)
  rw [eA] at b0
  rw [eB] at b1
  have hT : tightB rows = (hasB rows[0] && hasB rows[rows.length - 1] && (rows.any (fun s => byt s 0 == 35) && rows.any (fun s => byt s (W - 1) == 35))) := by
    rw [b0, b1, any_bit, any_bit, hW]; rfl
  have hpos : hasB rows[0] = true → 0 < W := fun h => by
    rw [hasB, decide_eq_true_eq, ixB_mem, byt_mem] at h
    obtain ⟨i, hi, -⟩ := h
    omega
  obtain ⟨g, o, rfl, -, hcell⟩ := sl_strs hl h0
  have c0 : w.cell? ⟨g, o, none⟩ = some (.string rows[0]) := hcell 0 h0
  have c1 := hcell _ hl1
  have e1 : o + (rows.length - 1) = o + rows.length - 1 := by omega
  have hpR : Hid (0 < W → Hid (0 < W ∧ W ≤ 4611686018427387904 ∧ ∀ s ∈ rows, s.size = W)) := fun h => ⟨h, hW ▸ hz, fun s hs => hW ▸ hr s hs⟩
  have hl63 := hl.1
  unfold maxLen at hl63
  have hWz : W ≤ 4611686018427387904 := hW ▸ hz
  clear hcell hr hW b0 b1 eA eB
  generalize rows[0] = r0 at *
  generalize rows[rows.length - 1] = r1 at *
  obtain ⟨q, hq⟩ : ∃ q, rows.length = q + 1 := ⟨rows.length - 1, by omega⟩
  have hq' : (rows.length : Int) - 1 = q := by omega
  have hoq : o + (rows.length - 1) = o + q := by omega
  rw [hoq] at c1
  replace hT := hide hT
  replace hpos := hide hpos
  have hs0 := hide s0
  clear e1 hl1 hoq s1
  go_enter Tryz.func57, Tryz.ntmps57
  go_upto_region 3 with fail
  obtain ⟨w4, hw4⟩ : ∃ x, x = (w).alloc (.cells [.int .i64 (W : Int)].toArray 3) := ⟨_, rfl⟩
  have hg4 : (w).grownBy w4 none := by rw [hw4]; exact gr_alloc (World.grownBy.refl _ _) _
  have hb4 : Box w4 (w).heap.size 3 [.int .i64 (W : Int)] := by rw [hw4]; exact Box.new _ _ _
  have hxs4 := hb4.lt
  rw [← hw4]
  clear hw4
  obtain ⟨x4, hx4⟩ : ∃ x, x = (w).heap.size := ⟨_, rfl⟩
  rw [← hx4] at hb4 hxs4 ⊢
  have hxl4 : (w).heap.size ≤ x4 := by omega
  clear hx4
  obtain ⟨h4, -⟩ := hb4.c 0 rfl
  replace c0 := hg4.k c0
  replace c1 := hg4.k c1
  replace hl := hl.pure hg4
  clear hs0 s0
  go_wp2_with fail
  refine (hasCl_any r0 w4).mono ?_
  rintro e w5 ⟨rfl, hg5⟩
  rcases hA : hasB r0 with _ | _
  · rw [Hid, hA] at hT
    replace hT := hide hT
    go_wp2_with fail
    go_ret
    exact ⟨ret_bool hT.out.symm, hg4.t hg5⟩
  · have hp := hpR.out (hpos.out hA)
    replace c0 := hg5.k c0
    replace c1 := hg5.k c1
    replace h4 := hg5.k h4
    replace hl := hl.pure hg5
    have hG := hg4.t hg5
    clear hpR hpos hxs4 hg5 hg4 hb4
    go_wp2_with fail
    refine (hasCl_any r1 w5).mono ?_
    rintro e w6 ⟨rfl, hg6⟩
    replace h4 := hg6.k h4
    replace hl := hl.pure hg6
    replace hG := hG.t hg6
    have hF := containsFirst_any W x4 _ c rows w6 hl ⟨hp, h4⟩
    rw [hq] at hF
    replace hF := hide hF
    rcases hB : hasB r1 with _ | _
    · rw [Hid, hA, hB] at hT
      replace hT := hide hT
      go_wp2_with fail
      go_ret
      exact ⟨ret_bool hT.out.symm, hG⟩
    · rw [Hid, hA, hB] at hT
      go_wp2_with fail
      refine hF.out.mono ?_
      rintro e w7 ⟨rfl, hg7⟩
      replace h4 := hg7.k h4
      replace hl := hl.pure hg7
      replace hG := hG.t hg7
      have hF' := containsLast_any W x4 _ c rows w7 hl ⟨hp, h4⟩
      rw [hq] at hF'
      replace hF' := hide hF'
      rcases hC : rows.any (fun s => byt s 0 == 35) with _ | _
      · rw [hC] at hT
        replace hT := hide hT
        go_wp2_with fail
        go_ret
        exact ⟨ret_bool hT.out.symm, hG⟩
      · rw [hC] at hT
        replace hT := hide hT
        go_wp2_with fail
        refine hF'.out.mono ?_
        rintro e w8 ⟨rfl, hg8⟩
        go_wp2_with fail
        go_ret
        exact ⟨ret_bool hT.out.symm, hG.t hg8⟩

end Go.Proofs.YtgcpegjggakemaaGreatDoor

namespace Go.Bl
open Go

theorem okR_at {s : ByteArray} : okR s = true ↔ ∀ i, i < s.size → byt s i = 35 ∨ byt s i = 46 := by
  rw [okR, List.all_eq_true]
  constructor
  · intro h i hi
    have := h _ (byt_mem.2 ⟨i, hi, rfl⟩)
    simpa using this
  · intro h b hb
    obtain ⟨i, hi, rfl⟩ := byt_mem.1 hb
    simpa using h i hi

theorem u8_eq {b c : UInt8} (h : b.toNat = c.toNat) : b = c := UInt8.toNat_inj.1 h

theorem multB_ne {a d : Int} (h : (a.tmod d != 0) = true) : multB a d = false := by simpa [multB] using h

theorem multB_eq {a d : Int} (h : (a.tmod d != 0) = false) : multB a d = true := by simpa [multB] using h

theorem outB_in {n a b : Int} (h : outB n a b = false) : a ≤ n ∧ n ≤ b := by simp [outB] at h; omega

theorem wide_at {rows : List ByteArray} (h : 0 < rows.length) : wideR rows = rows[0].size := by rw [wideR, getD_of h]

theorem rowF_at {rows : List ByteArray} {k : Nat} (h : k < rows.length) : rowF rows k = if rows[k].size = wideR rows then (if okR rows[k] then 0 else 9) else 3 := by rw [rowF, getD_of h]

end Go.Bl
namespace Go.Proofs.YtgcpegjggakemaaGreatDoor
open Go Go.RowKit Go.Bl

set_option maxHeartbeats 4000000 in
theorem checkCells_any (st px py : Int) (A : Option Addr) (n c : Nat) (rows : List ByteArray) (w : World) (hl : Sl w 0 A rows) (hn : rows.length = n) (hz : ∀ s ∈ rows, s.size ≤ 4611686018427387904) :
    Calls Tryz.prog 10 #[.agg #[.int .i64 st, .int .i64 px, .int .i64 py, .slice A n c]] w fun e w' => e = .returned (.int .i64 (cellsF ⟨st, px, py, rows⟩)) ∧ w.grownBy w' none := by
  subst hn
  have hm := hl.1
  unfold maxLen at hm
  obtain ⟨F, hF⟩ : ∃ F, F = cellsF ⟨st, px, py, rows⟩ := ⟨_, rfl⟩
  rw [← hF]
  unfold cellsF at hF
  simp only at hF
  replace hz := hide hz
  go_enter Tryz.func10, Tryz.ntmps10
  go_upto_region 1 with fail
  obtain ⟨w1, hw1⟩ : ∃ x, x = (w).alloc (.cells [.int .i64 st, .int .i64 px, .int .i64 py, .slice A rows.length c].toArray 34) := ⟨_, rfl⟩
  have hg1 : (w).grownBy w1 none := by rw [hw1]; exact gr_alloc (World.grownBy.refl _ _) _
  have hb1 : Box w1 (w).heap.size 34 [.int .i64 st, .int .i64 px, .int .i64 py, .slice A rows.length c] := by rw [hw1]; exact Box.new _ _ _
  have hxs1 := hb1.lt
  rw [← hw1]
  clear hw1
  obtain ⟨x1, hx1⟩ : ∃ x, x = (w).heap.size := ⟨_, rfl⟩
  rw [← hx1] at hb1 hxs1 ⊢
  have hxl1 : (w).heap.size ≤ x1 := by omega
  clear hx1
  replace hl := hl.pure hg1
  obtain ⟨c0, -⟩ := hb1.c 0 rfl
  obtain ⟨c1, -⟩ := hb1.c 1 rfl
  obtain ⟨c2, -⟩ := hb1.c 2 rfl
  obtain ⟨c3, -⟩ := hb1.c 3 rfl
  replace hF := hide hF
  have hG := hg1
  clear hg1 hxl1
  go_wp2_with fail
  refine (outside_any _ _ _ _).mono ?_
  rintro _ _ ⟨rfl, rfl⟩
  rcases h1 : outB st 2 10000 with _ | _
  rotate_left
  · have hV : F = 1 := by have e := hF.out; rw [if_pos (by simp [stepB, h1])] at e; exact e
    go_wp2_with fail
    go_ret
    exact ⟨ret_int hV.symm, hG⟩
  rcases h2 : (st.tmod 2 != 0) with _ | _
  rotate_left
  · have hV : F = 1 := by have e := hF.out; rw [if_pos (by simp [stepB, h1]; simpa using h2)] at e; exact e
    go_wp2_with fail
    go_ret
    exact ⟨ret_int hV.symm, hG⟩
  have hS : stepB st = false := by simp [stepB, h1]; simpa using h2
  have hst := hide (step_pos hS)
  rw [Hid, hS, if_neg (by simp)] at hF
  replace hF := hide hF
  replace hS := hide hS
  rcases h3 : ((rows.length : Int) == 0) with _ | _
  rotate_left
  · have h0 : rows.length = 0 := by simpa using h3
    have hF' := hF.out
    rw [if_pos h0] at hF'
    clear hF
    have h4 : decide ((rows.length : Int) > 200) = false := by simp; omega
    replace hF' := hide hF'
    clear h0
    go_wp2_with fail
    all_goals
      go_ret
      exact ⟨ret_int (by rw [hF'.out]; simp_all), hG⟩
  have h0 : 0 < rows.length := by
    rcases Nat.eq_zero_or_pos rows.length with e | e
    · rw [e] at h3; exact absurd h3 (by decide)
    · exact e
  have hF' := hF.out
  rw [if_neg (by omega)] at hF'
  clear hF
  rcases h4 : decide ((rows.length : Int) > 200) with _ | _
  rotate_left
  · have hV : Hid (F = 2) := by rw [Hid, hF', if_pos (by simp at h4; omega)]
    clear hF' h0
    go_wp2_with fail
    go_ret
    exact ⟨ret_int hV.out.symm, hG⟩
  rw [if_neg (by simp at h4; omega)] at hF'
  have hF := hide hF'
  clear hF'
  clear hxs1
  go_wp2_with fail
  go_loopw [44] (fun i wr => ∃ k : Nat, k ≤ rows.length ∧ i = .int .i64 k ∧ w1.grownBy wr none ∧ Hid (scanN (rowF rows) k = 0)) (fun i _ => rows.length - (intOf i).toNat)
  case atStart => exact ⟨0, Nat.zero_le _, rfl, World.grownBy.refl _ _, rfl⟩
  case round =>
    obtain ⟨k, hk, rfl, hg, hall⟩ := hrel
    by_cases hlt : k < rows.length
    · obtain ⟨g, o, rfl, -, hcell⟩ := sl_strs (hl.pure hg) h0
      have d0 : wr.cell? ⟨g, o, none⟩ = some (.string rows[0]) := hcell 0 h0
      have dk := hcell k hlt
      have c3' := hg.k c3
      have hrow := rowF_at hlt
      rw [wide_at h0] at hrow
      have hzk := hz.out _ (List.getElem_mem hlt)
      have hnext : Hid (rowF rows k = 0 → scanN (rowF rows) (k + 1) = 0) := fun e => scanN_ok hall.out e
      have hstop : Hid (rowF rows k ≠ 0 → scanN (rowF rows) rows.length = rowF rows k) := fun e => scanN_at hall.out e hlt
      generalize rowF rows k = rf at *
      clear hcell hall
      generalize rows[k] = s at *
      generalize rows[0] = s0 at *
      rcases hb : ((s.size : Int) != (s0.size : Int)) with _ | _
      rotate_left
      · have hV : Hid (F = 3) := by
          have hne : s.size ≠ s0.size := by intro e; rw [e] at hb; simp at hb
          rw [if_neg hne] at hrow
          subst hrow
          rw [Hid, hF.out, hstop.out (by decide), if_pos (by decide)]
        clear hF hrow hnext hstop
        go_wp2_with fail
        go_ret
        exact ⟨ret_int hV.out.symm, hG.t hg⟩
      · have hsz : s.size = s0.size := by rw [bne_eq_false_iff_eq] at hb; omega
        rw [if_pos hsz] at hrow
        replace hsz := hide hsz
        replace hrow := hide hrow
        have hbad : Hid (∀ i, i < s.size → byt s i ≠ 35 → byt s i ≠ 46 → F = 9) := fun i hi h1 h2 => by
          have ho : ¬ (okR s = true) := fun ho => by rcases okR_at.1 ho i hi with e | e <;> contradiction
          have e := hrow.out
          rw [if_neg ho] at e
          subst e
          rw [hF.out, hstop.out (by decide), if_pos (by decide)]
        have hgood : Hid ((∀ i, i < s.size → byt s i = 35 ∨ byt s i = 46) → scanN (rowF rows) (k + 1) = 0) := fun h => hnext.out (by rw [hrow.out, if_pos (okR_at.2 h)])
        clear hnext hstop hrow
        obtain ⟨wa, rfl⟩ : ∃ x, x = wr := ⟨_, rfl⟩
        have hgk := hG.t hg
        go_wp2_with fail
        go_loopw [58] (fun i wr => ∃ m : Nat, m ≤ s.size ∧ i = .int .i64 m ∧ wr = wa ∧ Hid (∀ i, i < m → byt s i = 35 ∨ byt s i = 46)) (fun i _ => s.size - (intOf i).toNat)
        case atStart => exact ⟨0, Nat.zero_le _, rfl, rfl, fun i hi => absurd hi (Nat.not_lt_zero _)⟩
        case round =>
          obtain ⟨m, hm, rfl, rfl, hok⟩ := hrel
          by_cases hml : m < s.size
          · have hbt := byt_get hml
            have hb9 := hide (hbad.out m hml)
            have hstep : Hid ((byt s m = 35 ∨ byt s m = 46) → ∀ i, i < m + 1 → byt s i = 35 ∨ byt s i = 46) := fun h i hi => by
              rcases Nat.lt_or_ge i m with h1 | h1
              · exact hok.out i h1
              · obtain rfl : i = m := by omega
                exact h
            clear hbad hok
            generalize byt s m = b at *
            rcases q1 : (((b.toNat : Nat) : Int) != 35) with _ | _
            · have e1 : b = 35 := u8_eq (by rw [bne_eq_false_iff_eq] at q1; show b.toNat = 35; omega)
              have hs' := hide (hstep.out (.inl e1))
              clear hstep hb9 e1
              go_wp2_with fail
              (go_roundw; (case rel => exact ⟨m + 1, by omega, by go_num, by simp, hs'⟩); (case measure => simp [intOf]; omega))
            · have e1 : b ≠ 35 := by rintro rfl; simp at q1
              rcases q2 : (((b.toNat : Nat) : Int) != 46) with _ | _
              · have e2 : b = 46 := u8_eq (by rw [bne_eq_false_iff_eq] at q2; show b.toNat = 46; omega)
                have hs' := hide (hstep.out (.inr e2))
                clear hstep hb9 e1 e2
                go_wp2_with fail
                (go_roundw; (case rel => exact ⟨m + 1, by omega, by go_num, by simp, hs'⟩); (case measure => simp [intOf]; omega))
              · have e2 : b ≠ 46 := by rintro rfl; simp at q2
                have hV : Hid (F = 9) := hb9.out e1 e2
                clear hstep hb9 e1 e2
                go_wp2_with fail
                go_ret
                exact ⟨ret_int hV.out.symm, hgk⟩
          · have hnx := hide (hgood.out fun i hi => hok.out i (by omega))
            clear hgood hok hbad
            go_wp2_with fail
            (go_roundw; (case rel => exact ⟨k + 1, by omega, by go_num, hg, hnx⟩); (case measure => simp [intOf]; omega))
    · obtain rfl : k = rows.length := by omega
      have hF' := hF.out
      rw [if_neg (by rw [hall.out]; simp)] at hF'
      have hsz : ∀ s ∈ rows, s.size = wideR rows := fun s hs => by
        obtain ⟨j, hj, rfl⟩ := List.mem_iff_getElem.1 hs
        have := scan_zero.1 hall.out j hj
        rw [rowF_at hj] at this
        by_cases e : rows[j].size = wideR rows
        · exact e
        · rw [if_neg e] at this; cases this
      have hwz : wideR rows ≤ 4611686018427387904 := by rw [wide_at h0]; exact hz.out _ (List.getElem_mem h0)
      have hT := hide (fun W (hlW : Sl W 0 A rows) => isTight_any A rows.length c rows W hlW rfl h0 hwz hsz)
      have hwa := wide_at h0
      obtain ⟨g, o, rfl, -, hcell⟩ := sl_strs (hl.pure hg) h0
      have d0 : wr.cell? ⟨g, o, none⟩ = some (.string rows[0]) := hcell 0 h0
      have hgg := hG.t hg
      have hlw := hl.pure hg
      replace c0 := hg.k c0
      replace c1 := hg.k c1
      replace c2 := hg.k c2
      replace c3 := hg.k c3
      rw [hwa] at hF'
      replace hsz := hide hsz
      replace hwz := hide hwz
      replace hF' := hide hF'
      clear hcell hall hF hwa hsz hwz hl hG hg hz hb1 hk hlt
      generalize rows[0] = s0 at *
      rcases q1 : decide ((s0.size : Int) > 200) with _ | _
      rotate_left
      · have hV : Hid (F = 2) := by rw [Hid, hF'.out, if_pos (by simp at q1; omega)]
        go_wp2_with fail
        go_ret
        exact ⟨ret_int hV.out.symm, hgg⟩
      have hF := hF'.out
      rw [if_neg (by simp at q1; omega)] at hF
      replace hF := hide hF
      clear hF'
      go_wp2_with fail
      refine (outside_any _ _ _ _).mono ?_
      rintro _ _ ⟨rfl, rfl⟩
      rcases q2 : outB px (-2000000) 2000000 with _ | _
      rotate_left
      · have hV : Hid (F = 1) := by rw [Hid, hF.out, if_pos (by rw [q2]; rfl)]
        go_wp2_with fail
        go_ret
        exact ⟨ret_int hV.out.symm, hgg⟩
      go_wp2_with fail
      refine (outside_any _ _ _ _).mono ?_
      rintro _ _ ⟨rfl, rfl⟩
      rcases q3 : outB py (-2000000) 2000000 with _ | _
      rotate_left
      · have hV : Hid (F = 1) := by rw [Hid, hF.out, if_pos (by rw [q3]; simp)]
        go_wp2_with fail
        go_ret
        exact ⟨ret_int hV.out.symm, hgg⟩
      have hF2 := hF.out
      rw [if_neg (by rw [q2, q3]; simp)] at hF2
      replace hF2 := hide hF2
      clear hF
      have hs2 := hst.out
      have hs0 : ¬ st = 0 := by omega
      replace hst := hide hs2
      have hp := outB_in q2
      have hq := outB_in q3
      clear hs2
      rcases q4 : (px.tmod st != 0) with _ | _
      rotate_left
      · have hV : Hid (F = 3) := by rw [Hid, hF2.out, if_neg (by rw [multB_ne q4]; simp)]
        clear hp hq
        go_wp2_with fail
        go_ret
        exact ⟨ret_int hV.out.symm, hgg⟩
      rcases q5 : (py.tmod st != 0) with _ | _
      rotate_left
      · have hV : Hid (F = 3) := by rw [Hid, hF2.out, if_neg (by rw [multB_ne q5]; simp)]
        clear hp hq
        go_wp2_with fail
        go_ret
        exact ⟨ret_int hV.out.symm, hgg⟩
      clear hp hq
      go_wp2_with fail
      refine (hT.out _ hlw).mono ?_
      rintro e wz ⟨rfl, hgz⟩
      rcases q6 : tightB rows with _ | _
      · have hV : Hid (F = 3) := by rw [Hid, hF2.out, if_neg (by rw [q6]; simp)]
        go_wp2_with fail
        go_ret
        exact ⟨ret_int hV.out.symm, hgg.t hgz⟩
      · have hV : Hid (F = 0) := by rw [Hid, hF2.out, if_pos (by rw [q6, multB_eq q4, multB_eq q5]; rfl)]
        go_wp2_with fail
        go_ret
        exact ⟨ret_int hV.out.symm, hgg.t hgz⟩

end Go.Proofs.YtgcpegjggakemaaGreatDoor

/- Contracts of functions that this seat's laws reach, each: what one call returns and what it leaves in memory; no condition beyond each theorem's own hypotheses. -/
import Derived.Test.YtphkcafmbbeodaaGreatDoorZqCelR
import Derived.Test.YtphkcafmbbeodaaGreatDoorZqCelS
import Derived.Shelf.Strings.SlTrimAscii
import Derived.Test.YtphkcafmbbeodaaGreatDoorZqCelN
set_option linter.unusedVariables false
set_option linter.unusedSimpArgs false
namespace Go.Bl
open Go

def setHB : List UInt8 := [35, 46]

theorem dropWhile_nil {p : UInt8 → Bool} : ∀ {l : List UInt8}, l.dropWhile p = [] ↔ ∀ b ∈ l, p b = true
  | [] => by simp
  | a :: l => by
    rw [List.dropWhile_cons]
    cases h : p a
    · simp [h]
    · simp [h, dropWhile_nil (l := l)]

theorem mem_drop {p : UInt8 → Bool} {b : UInt8} : ∀ {l : List UInt8}, b ∈ l → p b = false → b ∈ l.dropWhile p
  | [], hb, _ => by cases hb
  | a :: l, hb, hp => by
    rw [List.dropWhile_cons]
    cases h : p a
    · simpa using hb
    · have hne : b ≠ a := by rintro rfl; rw [h] at hp; cases hp
      have hb2 : b ∈ l := by simpa [hne] using hb
      simpa using mem_drop hb2 hp

theorem trim_all {l cs : List UInt8} (h : ∀ b ∈ l, cs.contains b = true) : Lib.trimS l cs = [] := by
  unfold Lib.trimS Lib.trimRightS
  have : l.reverse.dropWhile (cs.contains ·) = [] := by
    rw [dropWhile_nil]
    intro b hb
    exact h b (List.mem_reverse.1 hb)
  rw [this]; rfl

theorem trim_some {l cs : List UInt8} {b : UInt8} (hb : b ∈ l) (hc : cs.contains b = false) : Lib.trimS l cs ≠ [] := by
  unfold Lib.trimS Lib.trimLeftS Lib.trimRightS
  intro h
  rw [dropWhile_nil] at h
  have h1 : b ∈ l.reverse.dropWhile (cs.contains ·) := mem_drop (List.mem_reverse.2 hb) hc
  have := h b (List.mem_reverse.2 h1)
  rw [hc] at this; cases this

theorem trim_okR (s : ByteArray) : (Lib.trimS s.data.toList setHB).isEmpty = okR s := by
  have hc : ∀ b : UInt8, setHB.contains b = (b == 35 || b == 46) := fun b => by rw [Bool.eq_iff_iff]; simp [setHB]
  rcases ho : okR s with _ | _
  · rw [okR, List.all_eq_false] at ho
    obtain ⟨b, hb, hn⟩ := ho
    have := trim_some (cs := setHB) hb (by rw [hc]; simpa using hn)
    cases h : Lib.trimS s.data.toList setHB
    · exact absurd h this
    · rfl
  · rw [okR, List.all_eq_true] at ho
    rw [trim_all (fun b hb => by rw [hc]; exact ho b hb)]; rfl

def rowsF (rows : List ByteArray) : Int :=
  if 200 < rows.length then 2 else if scanN (rowF rows) rows.length ≠ 0 then scanN (rowF rows) rows.length else if 200 < wideR rows then 2 else 0

theorem wide_nil {rows : List ByteArray} (h : rows.length = 0) : wideR rows = 0 := by
  have : rows = [] := List.eq_nil_of_length_eq_zero h
  rw [this]; rfl
/-- where the box of cells is that of their rows, all edges have a covered cell -/
theorem box_tight {c : Cel} {W H : Nat} (hW : W = wideR c.rows) (hH : H = c.rows.length) (hw : ∀ j, (h : j < c.rows.length) → c.rows[j].size = wideR c.rows)
    (hb : Box4 (onC c) (c.x / c.step) (c.y / c.step) (c.x / c.step + (W : Int) - 1) (c.y / c.step + (H : Int) - 1)) : tightB c.rows = true := by
  have hbit : ∀ {x y : Int}, onC c x y = true → bit c.rows (y - c.y / c.step).toNat (x - c.x / c.step).toNat = true ∧ (y - c.y / c.step).toNat < c.rows.length ∧ (x - c.x / c.step).toNat < wideR c.rows := fun {x y} h => by
    obtain ⟨h1, h2, h3⟩ := onC_row h
    obtain ⟨h4, h5⟩ := bit_in h3
    rw [getD_of h4, hw _ h4] at h5
    exact ⟨h3, h4, h5⟩
  obtain ⟨a1, h1⟩ := hb.l; obtain ⟨a2, h2⟩ := hb.r; obtain ⟨a3, h3⟩ := hb.b; obtain ⟨a4, h4⟩ := hb.t
  have h1 := hbit h1; have h2 := hbit h2; have h3 := hbit h3; have h4 := hbit h4
  have e1 : (c.x / c.step - c.x / c.step).toNat = 0 := by omega
  have e2 : (c.y / c.step - c.y / c.step).toNat = 0 := by omega
  have e3 : (c.x / c.step + (W : Int) - 1 - c.x / c.step).toNat = wideR c.rows - 1 := by omega
  have e4 : (c.y / c.step + (H : Int) - 1 - c.y / c.step).toNat = c.rows.length - 1 := by omega
  rw [e1] at h1; rw [e3] at h2; rw [e2] at h3; rw [e4] at h4
  unfold tightB
  simp only [Bool.and_eq_true, List.any_eq_true, List.mem_range]
  exact ⟨⟨⟨_, h3.2.2, h3.1⟩, ⟨_, h4.2.2, h4.1⟩⟩, ⟨_, h1.2.1, h1.1⟩, ⟨_, h2.2.1, h2.1⟩⟩

end Go.Bl
namespace Go.Proofs.YtphkcafmbbeodaaGreatDoor
open Go Go.RowKit Go.Bl

theorem stepFault_any (n : Int) (w : World) :
    Calls Tryz.prog 33 #[.int .i64 n] w fun e w' => e = .returned (.int .i64 (if stepB n then 1 else 0)) ∧ w = w' := by
  obtain ⟨F, hF⟩ : ∃ F : Int, F = if stepB n then 1 else 0 := ⟨_, rfl⟩
  rw [← hF]
  have hio : inB n 2 10000 = !outB n 2 10000 := by unfold inB outB; by_cases h1 : n < 2 <;> by_cases h2 : 10000 < n <;> simp [h1, h2] <;> omega
  replace hF := hide hF
  go_enter Tryz.func33, Tryz.ntmps33
  go_wp2_with fail
  refine (in_any _ _ _ _).mono ?_
  rintro _ _ ⟨rfl, rfl⟩
  rw [hio]
  rcases h1 : outB n 2 10000 with _ | _
  rotate_left
  · have hV : Hid (F = 1) := by rw [Hid, hF.out, if_pos (by simp [stepB, h1])]
    clear hF hio
    go_wp2_with fail
    go_ret
    exact ⟨ret_int hV.out.symm, rfl⟩
  rcases h2 : (n.tmod 2 != 0) with _ | _
  · have hV : Hid (F = 0) := by rw [Hid, hF.out, if_neg (by simp [stepB, h1]; simpa using h2)]
    clear hF hio
    go_wp2_with fail
    go_ret
    exact ⟨ret_int hV.out.symm, rfl⟩
  · have hV : Hid (F = 1) := by rw [Hid, hF.out, if_pos (by simp [stepB, h1]; simpa using h2)]
    clear hF hio
    go_wp2_with fail
    go_ret
    exact ⟨ret_int hV.out.symm, rfl⟩

theorem trimHB_any (s : ByteArray) (w : World) (hs : s.size ≤ 9223372036854775807) :
    Calls Tryz.prog 72 #[.string s, .string ⟨#[35, 46]⟩] w fun e w' => e = .returned (.string ⟨(Lib.trimS s.data.toList setHB).toArray⟩) ∧ w.grownBy w' none := by
  refine (Any.strings_Trim_laid Tryz.lays160 (by kernel_rfl) s _ w hs (by decide) (ascii_of_all (by decide))).mono ?_
  rintro e w' ⟨rfl, hb⟩
  exact ⟨rfl, gr_below hb⟩

set_option maxHeartbeats 2000000 in
set_option maxRecDepth 100000 in
theorem rowsFault_any (A : Option Addr) (n c : Nat) (rows : List ByteArray) (w : World) (hl : Sl w 0 A rows) (hn : rows.length = n) (hz : ∀ s ∈ rows, s.size ≤ 4611686018427387904) :
    Calls Tryz.prog 34 #[.slice A n c] w fun e w' => e = .returned (.int .i64 (rowsF rows)) ∧ w.grownBy w' none := by
  subst hn
  have hm := hl.1
  unfold maxLen at hm
  obtain ⟨F, hF⟩ : ∃ F, F = rowsF rows := ⟨_, rfl⟩
  rw [← hF]
  unfold rowsF at hF
  replace hz := hide hz
  by_cases h200 : 200 < rows.length
  · have hV : Hid (F = 2) := by rw [Hid, hF, if_pos h200]
    have hd : decide ((rows.length : Int) > 200) = true := by simp; omega
    clear hF
    go_enter Tryz.func34, Tryz.ntmps34
    go_wp2_with fail
    go_ret
    exact ⟨ret_int hV.out.symm, World.grownBy.refl _ _⟩
  rw [if_neg h200] at hF
  have hd : decide ((rows.length : Int) > 200) = false := by simp; omega
  replace hF := hide hF
  go_enter Tryz.func34, Tryz.ntmps34
  go_wp2_with fail
  go_loopw [10] (fun i wr => ∃ k : Nat, k ≤ rows.length ∧ i = .int .i64 k ∧ w.grownBy wr none ∧ Hid (scanN (rowF rows) k = 0)) (fun i _ => rows.length - (intOf i).toNat)
  case atStart => exact ⟨0, Nat.zero_le _, rfl, World.grownBy.refl _ _, rfl⟩
  case round =>
    obtain ⟨k, hk, rfl, hg, hall⟩ := hrel
    by_cases hlt : k < rows.length
    · have h0 : 0 < rows.length := by omega
      obtain ⟨g, o, rfl, -, hcell⟩ := sl_strs (hl.pure hg) h0
      have d0 : wr.cell? ⟨g, o, none⟩ = some (.string rows[0]) := hcell 0 h0
      have dk := hcell k hlt
      have hrow := rowF_at hlt
      rw [wide_at h0] at hrow
      have hzk := hz.out _ (List.getElem_mem hlt)
      have hnext : Hid (rowF rows k = 0 → scanN (rowF rows) (k + 1) = 0) := fun e => scanN_ok hall.out e
      have hstop : Hid (rowF rows k ≠ 0 → scanN (rowF rows) rows.length = rowF rows k) := fun e => scanN_at hall.out e hlt
      generalize rowF rows k = rf at *
      clear hcell hall
      generalize rows[k] = s at *
      generalize rows[0] = s0 at *
      rcases hb : ((s.size : Int) != (s0.size : Int)) with _ | _
      rotate_left
      · have hV : Hid (F = 3) := by
          have hne : s.size ≠ s0.size := by intro e; rw [e] at hb; simp at hb
          rw [if_neg hne] at hrow
          subst hrow
          rw [Hid, hF.out, hstop.out (by decide), if_pos (by decide)]
        clear hF hrow hnext hstop
        go_wp2_with fail
        go_ret
        exact ⟨ret_int hV.out.symm, hg⟩
      · have hsz : s.size = s0.size := by rw [bne_eq_false_iff_eq] at hb; omega
        rw [if_pos hsz] at hrow
        replace hsz := hide hsz
        have hTr := hide (trimHB_any s wr (by omega))
        have hok := trim_okR s
        go_wp2_with fail
        refine hTr.out.mono ?_
        rintro e w2 ⟨rfl, hg2⟩
        clear hTr
        have hgz := hg.t hg2
        generalize Lib.trimS s.data.toList setHB = q at *
        rcases q with _ | ⟨b, q⟩
        · have ho : okR s = true := by rw [← hok]; rfl
          rw [if_pos ho] at hrow
          have hn := hide (hnext.out hrow)
          clear hok ho hrow hnext hstop hzk
          go_wp2_with fail
          (go_roundw; (case rel => exact ⟨k + 1, by omega, by go_num, hgz, hn⟩); (case measure => simp [intOf]; omega))
        · have ho : okR s = false := by rw [← hok]; rfl
          rw [if_neg (by rw [ho]; simp)] at hrow
          have hV : Hid (F = 9) := by
            subst hrow
            rw [Hid, hF.out, hstop.out (by decide), if_pos (by decide)]
          clear hok ho hrow hnext hstop hzk hF
          go_wp2_with fail
          go_ret
          exact ⟨ret_int hV.out.symm, hgz⟩
    · obtain rfl : k = rows.length := by omega
      have hF' := hF.out
      rw [if_neg (by rw [hall.out]; simp)] at hF'
      by_cases h0 : rows.length = 0
      · have hV : Hid (F = 0) := by rw [Hid, hF', if_neg (by rw [wide_nil h0]; omega)]
        have hd0 : (0 < rows.length) = False := by simp only [eq_iff_iff, iff_false]; omega
        have hd1 : decide ((rows.length : Int) > 0) = false := decide_eq_false (by omega)
        clear hF hF' h0 hk
        go_wp2_with fail
        go_ret
        exact ⟨ret_int hV.out.symm, hg⟩
      · have h1 : 0 < rows.length := by omega
        have hd0 : decide ((rows.length : Int) > 0) = true := decide_eq_true (by omega)
        obtain ⟨g, o, rfl, -, hcell⟩ := sl_strs (hl.pure hg) h1
        have d0 : wr.cell? ⟨g, o, none⟩ = some (.string rows[0]) := hcell 0 h1
        rw [wide_at h1] at hF'
        replace hF' := hide hF'
        clear hF hcell hall hz hl hk h0
        generalize rows[0] = s0 at *
        rcases q1 : decide ((s0.size : Int) > 200) with _ | _
        · have hV : Hid (F = 0) := by rw [Hid, hF'.out, if_neg (by simp at q1; omega)]
          clear hF'
          go_wp2_with fail
          go_ret
          exact ⟨ret_int hV.out.symm, hg⟩
        · have hV : Hid (F = 2) := by rw [Hid, hF'.out, if_pos (by simp at q1; omega)]
          clear hF'
          go_wp2_with fail
          go_ret
          exact ⟨ret_int hV.out.symm, hg⟩

end Go.Proofs.YtphkcafmbbeodaaGreatDoor

namespace Go.Proofs.YtphkcafmbbeodaaGreatDoor
open Go Go.RowKit Go.Bl

theorem inB_out (n a b : Int) : inB n a b = !outB n a b := by unfold inB outB; by_cases h1 : n < a <;> by_cases h2 : b < n <;> simp [h1, h2] <;> omega

set_option maxHeartbeats 8000000 in
set_option maxRecDepth 100000 in
theorem cellsFault_any (c : Cel) (A : Option Addr) (n cc : Nat) (w : World) (ha : CArg w c A n) :
    Calls Tryz.prog 9 #[.agg #[.int .i64 (c).step, .int .i64 (c).x, .int .i64 (c).y, .slice A n cc]] w fun e w' => e = .returned (.int .i64 (cellsF c)) ∧ w.grownBy w' none := by
  obtain ⟨hl, rfl, hz⟩ := ha
  obtain ⟨F, hF⟩ : ∃ F, F = cellsF c := ⟨_, rfl⟩
  rw [← hF]
  unfold cellsF at hF
  replace hz := hide hz
  replace hF := hide hF
  go_enter Tryz.func9, Tryz.ntmps9
  go_upto_region 1 with fail
  obtain ⟨w1, hw1⟩ : ∃ x, x = (w).alloc (.cells [.int .i64 (c).step, .int .i64 (c).x, .int .i64 (c).y, .slice A c.rows.length cc].toArray 28) := ⟨_, rfl⟩
  have hg1 : (w).grownBy w1 none := by rw [hw1]; exact gr_alloc (World.grownBy.refl _ _) _
  have hb1 : Box w1 (w).heap.size 28 [.int .i64 (c).step, .int .i64 (c).x, .int .i64 (c).y, .slice A c.rows.length cc] := by rw [hw1]; exact Box.new _ _ _
  have hxs1 := hb1.lt
  rw [← hw1]
  clear hw1
  obtain ⟨x1, hx1⟩ : ∃ x, x = (w).heap.size := ⟨_, rfl⟩
  rw [← hx1] at hb1 hxs1 ⊢
  have hxl1 : (w).heap.size ≤ x1 := by omega
  clear hx1
  replace hl := hl.pure hg1
  obtain ⟨⟨c0, -⟩, ⟨c1, -⟩, ⟨c2, -⟩, ⟨c3, -⟩⟩ := box4_c hb1
  have hG := hg1
  clear hg1 hxl1
  go_wp2_with fail
  refine (stepFault_any _ _).mono ?_
  rintro _ _ ⟨rfl, rfl⟩
  rcases h1 : stepB c.step with _ | _
  rotate_left
  · have hV : Hid (F = 1) := by rw [Hid, hF.out, if_pos h1]
    clear hF
    go_wp2_with fail
    go_ret
    exact ⟨ret_int hV.out.symm, hG⟩
  have hF1 := hF.out
  rw [if_neg (by rw [h1]; simp)] at hF1
  have hst := hide (step_pos h1)
  replace h1 := hide h1
  clear hF
  rw [if_neg (by simp)]
  have hRow := hide (fun W (h : w1.grownBy W none) => rowsFault_any A c.rows.length cc c.rows W (hl.pure h) rfl hz.out)
  rcases h3 : ((c.rows.length : Int) == 0) with _ | _
  rotate_left
  · have h0 : c.rows.length = 0 := by simpa using h3
    rw [if_pos h0] at hF1
    have hrF : rowsF c.rows = 0 := by unfold rowsF; rw [if_neg (by omega), if_neg (by rw [h0]; simp [scanN]), if_neg (by rw [wide_nil h0]; omega)]
    rw [hrF] at hRow
    replace hF1 := hide hF1
    rcases hx : (c.x != 0) with _ | _
    rotate_left
    · have hV : Hid (F = 3) := by rw [Hid, hF1.out, if_neg (by simp at hx; simp [hx])]
      clear hF1 h0 hrF hRow
      go_wp2_with fail
      go_ret
      exact ⟨ret_int hV.out.symm, hG⟩
    rcases hy : (c.y != 0) with _ | _
    rotate_left
    · have hV : Hid (F = 3) := by rw [Hid, hF1.out, if_neg (by simp at hy; simp [hy])]
      clear hF1 h0 hrF hRow
      go_wp2_with fail
      go_ret
      exact ⟨ret_int hV.out.symm, hG⟩
    have hV : Hid (F = 0) := by rw [Hid, hF1.out, if_pos (by simpa using And.intro hx hy)]
    clear hF1 h0 hrF
    have ex : c.x = 0 := by simpa using hx
    have ey : c.y = 0 := by simpa using hy
    have i1 : inB c.x (-2000000) 2000000 = true := by rw [ex]; decide
    have i2 : inB c.y (-2000000) 2000000 = true := by rw [ey]; decide
    have m1 : (c.x.tmod c.step != 0) = false := by rw [ex]; simp
    have m2 : (c.y.tmod c.step != 0) = false := by rw [ey]; simp
    have hs0 : ¬ c.step = 0 := by have := hst.out; omega
    clear ex ey
    go_wp2_with fail
    refine (hRow.out w1 (World.grownBy.refl _ _)).mono ?_
    rintro e w2 ⟨rfl, hg2⟩
    replace c0 := hg2.k c0
    replace c1 := hg2.k c1
    replace c2 := hg2.k c2
    replace c3 := hg2.k c3
    replace hG := hG.t hg2
    clear hRow hg2
    go_wp2_with fail
    refine (in_any _ _ _ _).mono ?_
    rintro _ _ ⟨rfl, rfl⟩
    rw [i1]
    go_wp2_with fail
    refine (in_any _ _ _ _).mono ?_
    rintro _ _ ⟨rfl, rfl⟩
    rw [i2]
    go_wp2_with fail
    go_ret
    exact ⟨ret_int hV.out.symm, hG⟩
  have h0 : c.rows.length ≠ 0 := by intro e; rw [e] at h3; exact absurd h3 (by decide)
  rw [if_neg h0] at hF1
  obtain ⟨R, hR⟩ : ∃ R, R = rowsF c.rows := ⟨_, rfl⟩
  rw [← hR] at hRow
  have hF2 : F = if R ≠ 0 then R else if outB c.x (-2000000) 2000000 || outB c.y (-2000000) 2000000 then 1 else if multB c.x c.step && multB c.y c.step && tightB c.rows then 0 else 3 := by
    rw [hF1, hR]
    unfold rowsF
    by_cases k1 : 200 < c.rows.length
    · simp [k1]
    · by_cases k2 : scanN (rowF c.rows) c.rows.length = 0
      · by_cases k3 : 200 < wideR c.rows
        · simp [k1, k2, k3]
        · simp [k1, k2, k3]
      · simp [k1, k2]
  have hRok : R = 0 → c.rows.length ≤ 200 ∧ wideR c.rows ≤ 200 ∧ ∀ j, (h : j < c.rows.length) → c.rows[j].size = wideR c.rows ∧ okR c.rows[j] = true := fun hR0 => by
    rw [hR] at hR0
    unfold rowsF at hR0
    by_cases k1 : 200 < c.rows.length
    · rw [if_pos k1] at hR0; cases hR0
    · rw [if_neg k1] at hR0
      by_cases k2 : scanN (rowF c.rows) c.rows.length = 0
      · rw [if_neg (by simp [k2])] at hR0
        by_cases k3 : 200 < wideR c.rows
        · rw [if_pos k3] at hR0; cases hR0
        · refine ⟨by omega, by omega, fun j hj => ?_⟩
          have := scan_zero.1 k2 j hj
          rw [rowF_at hj] at this
          by_cases e : c.rows[j].size = wideR c.rows
          · rw [if_pos e] at this
            by_cases o : okR c.rows[j] = true
            · exact ⟨e, o⟩
            · rw [if_neg o] at this; cases this
          · rw [if_neg e] at this; cases this
      · rw [if_pos k2] at hR0; exact absurd hR0 k2
  replace hF2 := hide hF2
  replace hRok := hide hRok
  replace hR := hide hR
  clear hF1
  go_wp2_with fail
  refine (hRow.out w1 (World.grownBy.refl _ _)).mono ?_
  rintro e w2 ⟨rfl, hg2⟩
  replace c0 := hg2.k c0
  replace c1 := hg2.k c1
  replace c2 := hg2.k c2
  replace c3 := hg2.k c3
  replace hb1 := hb1.pure hg2
  replace hl := hl.pure hg2
  replace hG := hG.t hg2
  clear hRow hg2
  rcases hq : (R != 0) with _ | _
  rotate_left
  · have hV : Hid (F = R) := by rw [Hid, hF2.out, if_pos (by simpa using hq)]
    clear hF2 hRok hR h0
    go_wp2_with fail
    go_ret
    exact ⟨ret_int hV.out.symm, hG⟩
  have hR0 : R = 0 := by simpa using hq
  obtain ⟨hn200, hw200, hrw⟩ := hRok.out hR0
  have hF3 := hF2.out
  rw [if_neg (by simp [hR0])] at hF3
  replace hF3 := hide hF3
  replace hrw := hide hrw
  clear hF2 hRok hR hR0
  go_wp2_with fail
  refine (in_any _ _ _ _).mono ?_
  rintro _ _ ⟨rfl, rfl⟩
  rw [inB_out]
  rcases o1 : outB c.x (-2000000) 2000000 with _ | _
  rotate_left
  · have hV : Hid (F = 1) := by rw [Hid, hF3.out, if_pos (by rw [o1]; rfl)]
    clear hF3 h0
    go_wp2_with fail
    go_ret
    exact ⟨ret_int hV.out.symm, hG⟩
  go_wp2_with fail
  refine (in_any _ _ _ _).mono ?_
  rintro _ _ ⟨rfl, rfl⟩
  rw [inB_out]
  rcases o2 : outB c.y (-2000000) 2000000 with _ | _
  rotate_left
  · have hV : Hid (F = 1) := by rw [Hid, hF3.out, if_pos (by rw [o2]; simp)]
    clear hF3 h0
    go_wp2_with fail
    go_ret
    exact ⟨ret_int hV.out.symm, hG⟩
  have hF4 := hF3.out
  rw [if_neg (by rw [o1, o2]; simp)] at hF4
  replace hF4 := hide hF4
  clear hF3
  have hp1 := outB_in o1
  have hp2 := outB_in o2
  have hs0 : ¬ c.step = 0 := by have := hst.out; omega
  replace hp1 := hide hp1
  replace hp2 := hide hp2
  rcases m1 : (c.x.tmod c.step != 0) with _ | _
  rotate_left
  · have hV : Hid (F = 3) := by rw [Hid, hF4.out, if_neg (by rw [multB_ne m1]; simp)]
    clear hF4 h0
    go_wp2_with fail
    go_ret
    exact ⟨ret_int hV.out.symm, hG⟩
  rcases m2 : (c.y.tmod c.step != 0) with _ | _
  rotate_left
  · have hV : Hid (F = 3) := by rw [Hid, hF4.out, if_neg (by rw [multB_ne m2]; simp)]
    clear hF4 h0
    go_wp2_with fail
    go_ret
    exact ⟨ret_int hV.out.symm, hG⟩
  have hF5 : Hid (F = if tightB c.rows then 0 else 3) := by rw [Hid, hF4.out, multB_eq m1, multB_eq m2]; simp
  have hfit : CFit c := ⟨hst.out, by have := hp1.out; omega, by have := hp2.out; omega, multB_eq m1, multB_eq m2, by omega, fun j hj => by have := hrw.out j hj; exact ⟨by omega, this.2⟩⟩
  have hSet := hide (setOf_any c A c.rows.length cc w2 ⟨hl, rfl, hz.out⟩ hfit)
  clear hF4
  go_wp2_with fail
  refine hSet.out.mono ?_
  rintro e w3 ⟨mb, rfl, hS3, hg3, -⟩
  have q1 := tdiv_mult hfit.mx
  have q2 := tdiv_mult hfit.my
  have b1 := div_bd hfit.s.1 hp1.out.1 hp1.out.2 (by omega)
  have b2 := div_bd hfit.s.1 hp2.out.1 hp2.out.2 (by omega)
  have honb : Hid (∀ x y, onC c x y = true → -1000000000 ≤ x ∧ x ≤ 1000000000 ∧ -1000000000 ≤ y ∧ y ≤ 1000000000) := fun x y h => by
    obtain ⟨r1, r2, r3⟩ := onC_row h
    obtain ⟨r4, r5⟩ := bit_in r3
    rw [getD_of r4, (hrw.out _ r4).1] at r5
    omega
  have hSp := hide (span_any mb 1000000 (onC c) w3 hS3 (fun x y h => by have := honb.out x y h; exact okSp_of (by omega) (by omega)))
  obtain ⟨X, hX⟩ : ∃ x, x = c.x / c.step := ⟨_, rfl⟩
  obtain ⟨Y, hY⟩ : ∃ x, x = c.y / c.step := ⟨_, rfl⟩
  rw [← hX] at q1 b1
  rw [← hY] at q2 b2
  replace hX := hide hX
  replace hY := hide hY
  replace c0 := hg3.k c0
  replace c1 := hg3.k c1
  replace c2 := hg3.k c2
  replace c3 := hg3.k c3
  replace hl := hl.pure hg3
  replace hG := hG.t hg3
  replace hfit := hide hfit
  clear hSet hS3
  go_wp2_with fail
  refine hSp.out.mono ?_
  rintro e w4 ⟨s, x0, y0, x1', y1, rfl, hst4, hg4⟩
  replace c0 := hg4.k c0
  replace c1 := hg4.k c1
  replace c2 := hg4.k c2
  replace c3 := hg4.k c3
  replace hl := hl.pure hg4
  replace hG := hG.t hg4
  replace hst4 := hide hst4
  clear hSp
  go_upto_region 16 with fail
  obtain ⟨w5, hw5⟩ : ∃ x, x = ((w4).alloc (.cells [.int .i64 x0, .int .i64 y0].toArray 63)).alloc (.cells [.int .i64 x1', .int .i64 y1].toArray 63) := ⟨_, rfl⟩
  have hba5 : Box w5 (w4).heap.size 63 [.int .i64 x0, .int .i64 y0] := by
    rw [hw5]; exact (Box.new (w4) [.int .i64 x0, .int .i64 y0] 63).pure (gr_alloc (World.grownBy.refl _ _) _)
  have hbb5 : Box w5 ((w4).heap.size + 1) 63 [.int .i64 x1', .int .i64 y1] := by
    have h := Box.new ((w4).alloc (.cells [.int .i64 x0, .int .i64 y0].toArray 63)) [.int .i64 x1', .int .i64 y1] 63
    rw [show ((w4).alloc (.cells [.int .i64 x0, .int .i64 y0].toArray 63)).heap.size = (w4).heap.size + 1 by simp] at h
    rw [hw5]; exact h
  have hg5 : (w4).grownBy w5 none := by rw [hw5]; exact (by repeat (first | exact World.grownBy.refl _ _ | assumption | refine gr_alloc ?_ _ | (apply gr_tail; assumption) | refine gr_drewN ?_ _ | refine gr_drew ?_))
  rw [← hw5]
  clear hw5
  obtain ⟨xb5, hxb5⟩ : ∃ x, x = (w4).heap.size + 1 := ⟨_, rfl⟩
  rw [← hxb5] at hbb5 ⊢
  obtain ⟨xa5, hxa5⟩ : ∃ x, x = (w4).heap.size := ⟨_, rfl⟩
  rw [← hxa5] at hba5 ⊢
  have hxn5 : xa5 ≠ xb5 := by omega
  replace hxa5 : (w4).heap.size ≤ xa5 := by omega
  replace hxb5 : (w4).heap.size ≤ xb5 := by omega
  have h1len : 0 < c.rows.length := by omega
  obtain ⟨g0, o0, rfl, -, hcell⟩ := sl_strs hl h1len
  have d0 : w4.cell? ⟨g0, o0, none⟩ = some (.string c.rows[0]) := hcell 0 h1len
  have hwd : (c.rows[0].size : Int) = (wideR c.rows : Int) := by rw [wide_at h1len]
  have hTB : Hid (tightB c.rows = true ↔ (s = true ∧ (x0 = X ∧ y0 = Y) ∧ (x1' = x0 + (wideR c.rows : Int) - 1 ∧ y1 = y0 + (c.rows.length : Int) - 1))) := by
    constructor
    · intro ht
      have hok : CellsOk c := ⟨h1.out, fun e => absurd e h0, hn200, fun j hj => by rw [getD_of hj]; exact hrw.out j hj, hw200, fun _ => o1, fun _ => o2, hfit.out.mx, hfit.out.my, fun _ => ht⟩
      have hB := right_box hok h0
      have hw0 : 0 < wideR c.rows := by
        unfold tightB at ht
        simp only [Bool.and_eq_true, List.any_eq_true, List.mem_range] at ht
        obtain ⟨⟨⟨i0, hi0, b0⟩, -⟩, -⟩ := ht
        omega
      rcases hst4.out with ⟨rfl, hno⟩ | ⟨rfl, hB'⟩
      · exact (hB.no hno).elim
      · obtain ⟨e1, e2, e3, e4⟩ := hB.uniq hB'
        rw [← hX.out] at e1 e3
        rw [← hY.out] at e2 e4
        exact ⟨rfl, ⟨e1.symm, e2.symm⟩, by omega, by omega⟩
    · rintro ⟨rfl, ⟨e1, e2⟩, e3, e4⟩
      rcases hst4.out with ⟨h, -⟩ | ⟨-, hB'⟩
      · cases h
      · rw [e3, e4, e1, e2, hX.out, hY.out] at hB'
        exact box_tight rfl rfl (fun j hj => (hrw.out j hj).1) hB'
  have hbb : Hid (s = true → -1000000000 ≤ x0 ∧ x0 ≤ 1000000000 ∧ -1000000000 ≤ y0 ∧ y0 ≤ 1000000000) := fun hs => by
    rcases hst4.out with ⟨h, -⟩ | ⟨-, hB'⟩
    · rw [hs] at h; cases h
    · obtain ⟨a1, h1⟩ := hB'.l
      obtain ⟨a2, h2⟩ := hB'.b
      have := honb.out _ _ h1; have := honb.out _ _ h2
      omega
  replace hwd := hide hwd
  clear hcell hst4 honb hX hY hfit h1 hp1 hp2 hz hg3 hl
  obtain ⟨WW, hWW⟩ : ∃ n, n = wideR c.rows := ⟨_, rfl⟩
  rw [← hWW] at hwd hTB hw200
  replace hWW := hide hWW
  generalize c.rows[0] = r0 at *
  have hw0 := hwd.out
  replace d0 := hg5.k d0
  replace c0 := hg5.k c0
  replace c1 := hg5.k c1
  replace c2 := hg5.k c2
  replace c3 := hg5.k c3
  replace hG := hG.t hg5
  obtain ⟨p0, -⟩ := hba5.c 0 rfl
  obtain ⟨p1, -⟩ := hba5.c 1 rfl
  obtain ⟨p2, -⟩ := hbb5.c 0 rfl
  obtain ⟨p3, -⟩ := hbb5.c 1 rfl
  cases s
  · have hV : Hid (F = 3) := by rw [Hid, hF5.out, if_neg (fun h => by have := (hTB.out.1 h).1; cases this)]
    clear hTB hF5 hbb
    go_quiet (fail)
    go_wp2_with fail
    go_ret
    exact ⟨ret_int hV.out.symm, by repeat (first | exact hG | refine gr_drewN ?_ _)⟩
  · obtain ⟨k1, k2, k3, k4⟩ := hbb.out rfl
    clear hbb
    by_cases e1 : x0 = X
    rotate_left
    · have hV : Hid (F = 3) := by rw [Hid, hF5.out, if_neg (fun h => e1 (hTB.out.1 h).2.1.1)]
      have hb : (x0 == X) = false := by simpa using e1
      clear hTB hF5 e1
      go_quiet (fail)
      go_wp2_with fail
      go_ret
      exact ⟨ret_int hV.out.symm, by repeat (first | exact hG | refine gr_drewN ?_ _)⟩
    by_cases e2 : y0 = Y
    rotate_left
    · have hV : Hid (F = 3) := by rw [Hid, hF5.out, if_neg (fun h => e2 (hTB.out.1 h).2.1.2)]
      have hb : (y0 == Y) = false := by simpa using e2
      subst e1
      clear hTB hF5 e2
      go_quiet (fail)
      go_wp2_with fail
      go_ret
      exact ⟨ret_int hV.out.symm, by repeat (first | exact hG | refine gr_drewN ?_ _)⟩
    subst e1
    subst e2
    by_cases e3 : x1' = x0 + (WW : Int) - 1
    rotate_left
    · have hV : Hid (F = 3) := by rw [Hid, hF5.out, if_neg (fun h => e3 (hTB.out.1 h).2.2.1)]
      have hb : (x1' == x0 + (WW : Int) - 1) = false := by simpa using e3
      clear hTB hF5 e3
      go_quiet (fail)
      go_wp2_with fail
      go_ret
      exact ⟨ret_int hV.out.symm, by repeat (first | exact hG | refine gr_drewN ?_ _)⟩
    by_cases e4 : y1 = y0 + (c.rows.length : Int) - 1
    rotate_left
    · have hV : Hid (F = 3) := by rw [Hid, hF5.out, if_neg (fun h => e4 (hTB.out.1 h).2.2.2)]
      have hb : (y1 == y0 + (c.rows.length : Int) - 1) = false := by simpa using e4
      subst e3
      clear hTB hF5 e4
      go_quiet (fail)
      go_wp2_with fail
      go_ret
      exact ⟨ret_int hV.out.symm, by repeat (first | exact hG | refine gr_drewN ?_ _)⟩
    have hV : Hid (F = 0) := by rw [Hid, hF5.out, if_pos (hTB.out.2 ⟨rfl, ⟨rfl, rfl⟩, e3, e4⟩)]
    subst e3
    subst e4
    clear hTB hF5
    go_quiet (fail)
    go_wp2_with fail
    go_ret
    exact ⟨ret_int hV.out.symm, by repeat (first | exact hG | refine gr_drewN ?_ _)⟩

end Go.Proofs.YtphkcafmbbeodaaGreatDoor

namespace Go.Bl
open Go

theorem mkB_cat (a b : List UInt8) : mkB a ++ mkB b = mkB (a ++ b) := by
  apply bytes_ext
  show (mkB a ++ mkB b).data.toList = a ++ b
  simp [mkB]

theorem chr_cat0 {L : ByteArray} {l l' : List UInt8} (hL : L = mkB l) (h : l' = l ++ [if false = true then (35 : UInt8) else 46]) : L ++ (⟨#[46, 35]⟩ : ByteArray).extract 0 1 = mkB l' := by
  rw [hL, h, ← mkB_cat]; rfl

theorem chr_cat1 {L : ByteArray} {l l' : List UInt8} (hL : L = mkB l) (h : l' = l ++ [if true = true then (35 : UInt8) else 46]) : L ++ (⟨#[46, 35]⟩ : ByteArray).extract 1 2 = mkB l' := by
  rw [hL, h, ← mkB_cat]; rfl

end Go.Bl
namespace Go.Proofs.YtphkcafmbbeodaaGreatDoor
open Go Go.RowKit Go.Bl Go.Maps Go.WideShapes

set_option maxHeartbeats 8000000 in
set_option maxRecDepth 100000 in
theorem cellsOf_any (mb n : Nat) (S : Int → Int → Bool) (st : Int) (w : World) (hM : SetAt w mb n S) (hs : 2 ≤ st ∧ st ≤ 10000) (hin : ∀ x y, S x y = true → -10000000 ≤ x ∧ x ≤ 10001000 ∧ -10000000 ≤ y ∧ y ≤ 10001000) :
    Calls Tryz.prog 55 #[.map (some mb), .int .i64 st] w fun e w' => CelsOut w w' st S e := by
  replace hin := hide hin
  go_enter Tryz.func55, Tryz.ntmps55
  go_upto_region 1 with fail
  obtain ⟨w4, hw4⟩ : ∃ x, x = (w).alloc (.cells [.int .i64 0, .int .i64 0, .int .i64 0, .slice none 0 0].toArray 28) := ⟨_, rfl⟩
  have hg4 : (w).grownBy w4 none := by rw [hw4]; exact gr_alloc (World.grownBy.refl _ _) _
  have hb4 : Box w4 (w).heap.size 28 [.int .i64 0, .int .i64 0, .int .i64 0, .slice none 0 0] := by rw [hw4]; exact Box.new _ _ _
  have hxs4 := hb4.lt
  rw [← hw4]
  clear hw4
  obtain ⟨x4, hx4⟩ : ∃ x, x = (w).heap.size := ⟨_, rfl⟩
  rw [← hx4] at hb4 hxs4 ⊢
  have hxl4 : (w).heap.size ≤ x4 := by omega
  clear hx4
  have hSp := hide (span_any mb n S w4 (hM.pure hg4) (fun x y h => by have := hin.out x y h; exact okSp_of (by omega) (by omega)))
  go_wp2_with fail
  refine hSp.out.mono ?_
  rintro e w5 ⟨s, X0, Y0, X1, Y1, rfl, hbst, hg5⟩
  replace hb4 := hb4.pure hg5
  have hgw := hg4.t hg5
  replace hM := hM.pure hgw
  replace hbst := hide hbst
  clear hSp hg5 hg4
  go_upto_region 2 with fail
  obtain ⟨w7, hw7⟩ : ∃ x, x = ((w5).alloc (.cells [.int .i64 X0, .int .i64 Y0].toArray 63)).alloc (.cells [.int .i64 X1, .int .i64 Y1].toArray 63) := ⟨_, rfl⟩
  have hba7 : Box w7 (w5).heap.size 63 [.int .i64 X0, .int .i64 Y0] := by
    rw [hw7]; exact (Box.new (w5) [.int .i64 X0, .int .i64 Y0] 63).pure (gr_alloc (World.grownBy.refl _ _) _)
  have hbb7 : Box w7 ((w5).heap.size + 1) 63 [.int .i64 X1, .int .i64 Y1] := by
    have h := Box.new ((w5).alloc (.cells [.int .i64 X0, .int .i64 Y0].toArray 63)) [.int .i64 X1, .int .i64 Y1] 63
    rw [show ((w5).alloc (.cells [.int .i64 X0, .int .i64 Y0].toArray 63)).heap.size = (w5).heap.size + 1 by simp] at h
    rw [hw7]; exact h
  have hg7 : (w5).grownBy w7 none := by rw [hw7]; exact (by repeat (first | exact World.grownBy.refl _ _ | assumption | refine gr_alloc ?_ _ | (apply gr_tail; assumption) | refine gr_drewN ?_ _ | refine gr_drew ?_))
  rw [← hw7]
  clear hw7
  obtain ⟨xb7, hxb7⟩ : ∃ x, x = (w5).heap.size + 1 := ⟨_, rfl⟩
  rw [← hxb7] at hbb7 ⊢
  obtain ⟨xa7, hxa7⟩ : ∃ x, x = (w5).heap.size := ⟨_, rfl⟩
  rw [← hxa7] at hba7 ⊢
  have hxn7 : xa7 ≠ xb7 := by omega
  replace hxa7 : (w5).heap.size ≤ xa7 := by omega
  replace hxb7 : (w5).heap.size ≤ xb7 := by omega
  have hx4n : x4 ≠ xa7 ∧ x4 ≠ xb7 := by have := hb4.lt; omega
  replace hb4 := hb4.pure hg7
  replace hgw := hgw.t hg7
  replace hM := hM.pure hg7
  replace hM := hide hM
  clear hg7
  cases s
  · have hno : ∀ x y, S x y = false := by
      rcases hbst.out with ⟨-, h⟩ | ⟨h, -⟩
      · exact h
      · cases h
    have hC : Hid (IsCells st S ⟨st, 0, 0, []⟩ 0) := .inl ⟨hno, rfl, rfl⟩
    clear hbst hno
    obtain ⟨⟨d0, f0⟩, ⟨d1, f1⟩, ⟨d2, f2⟩, ⟨d3, f3⟩⟩ := box4_c hb4
    go_wp2_with fail
    clear d0 d1 d2 d3 f0 f1 f2 f3
    have hgz := gr_new hgw (set4_gr (w := w7) (g := x4) (.int .i64 st) (.int .i64 0) (.int .i64 0) (.slice none 0 0)) hxl4
    have hbz := box_set4 hb4 (.int .i64 st) (.int .i64 0) (.int .i64 0) (.slice none 0 0)
    generalize (((w7.setCell ⟨x4, 0, none⟩ (.int .i64 st)).setCell ⟨x4, 1, none⟩ (.int .i64 0)).setCell ⟨x4, 2, none⟩ (.int .i64 0)).setCell ⟨x4, 3, none⟩ (.slice none 0 0) = wz at *
    obtain ⟨⟨d0, f0⟩, ⟨d1, f1⟩, ⟨d2, f2⟩, ⟨d3, f3⟩⟩ := box4_c hbz
    exact bodyPost_ret (v := .tuple #[.agg #[.int .i64 st, .int .i64 0, .int .i64 0, .slice none 0 0], .int .i64 0]) (by simp [results, Tryz.results55, go_sem, d0, d1, d2, d3, f0, f1, f2, f3]) rfl ⟨⟨st, 0, 0, []⟩, 0, none, 0, rfl, hC.out, Own.nil _ _ _, hgz⟩
  have hBx : Box4 S X0 Y0 X1 Y1 := by
    rcases hbst.out with ⟨h, -⟩ | ⟨-, h⟩
    · cases h
    · exact h
  clear hbst
  have hle := hBx.le
  have hbd : -10000000 ≤ X0 ∧ X0 ≤ 10001000 ∧ -10000000 ≤ Y0 ∧ Y0 ≤ 10001000 ∧ -10000000 ≤ X1 ∧ X1 ≤ 10001000 ∧ -10000000 ≤ Y1 ∧ Y1 ≤ 10001000 := by
    obtain ⟨y1, a1⟩ := hBx.l; obtain ⟨y2, a2⟩ := hBx.r; obtain ⟨y3, a3⟩ := hBx.b; obtain ⟨y4, a4⟩ := hBx.t
    have := hin.out _ _ a1; have := hin.out _ _ a2; have := hin.out _ _ a3; have := hin.out _ _ a4
    omega
  replace hBx := hide hBx
  obtain ⟨p0, -⟩ := hba7.c 0 rfl
  obtain ⟨p1, -⟩ := hba7.c 1 rfl
  obtain ⟨p2, -⟩ := hbb7.c 0 rfl
  obtain ⟨p3, -⟩ := hbb7.c 1 rfl
  rcases q1 : decide (X1 - X0 ≥ 200) with _ | _
  rotate_left
  · have hC : Hid (IsCells st S ⟨0, 0, 0, []⟩ 12) := .inr ⟨X0, Y0, X1, Y1, hBx.out, .inl ⟨.inl (by simp at q1; omega), rfl, rfl⟩⟩
    obtain ⟨⟨d0, f0⟩, ⟨d1, f1⟩, ⟨d2, f2⟩, ⟨d3, f3⟩⟩ := box4_c hb4
    go_wp2_with fail
    clear d0 d1 d2 d3 f0 f1 f2 f3
    have hgz := gr_new hgw (set4_gr (w := w7) (g := x4) (.int .i64 0) (.int .i64 0) (.int .i64 0) (.slice none 0 0)) hxl4
    have hbz := box_set4 hb4 (.int .i64 0) (.int .i64 0) (.int .i64 0) (.slice none 0 0)
    generalize (((w7.setCell ⟨x4, 0, none⟩ (.int .i64 0)).setCell ⟨x4, 1, none⟩ (.int .i64 0)).setCell ⟨x4, 2, none⟩ (.int .i64 0)).setCell ⟨x4, 3, none⟩ (.slice none 0 0) = wz at *
    obtain ⟨⟨d0, f0⟩, ⟨d1, f1⟩, ⟨d2, f2⟩, ⟨d3, f3⟩⟩ := box4_c hbz
    exact bodyPost_ret (v := .tuple #[.agg #[.int .i64 0, .int .i64 0, .int .i64 0, .slice none 0 0], .int .i64 12]) (by simp [results, Tryz.results55, go_sem, d0, d1, d2, d3, f0, f1, f2, f3]) rfl ⟨⟨0, 0, 0, []⟩, 12, none, 0, rfl, hC.out, Own.nil _ _ _, hgz⟩
  rcases q2 : decide (Y1 - Y0 ≥ 200) with _ | _
  rotate_left
  · have hC : Hid (IsCells st S ⟨0, 0, 0, []⟩ 12) := .inr ⟨X0, Y0, X1, Y1, hBx.out, .inl ⟨.inr (by simp at q2; omega), rfl, rfl⟩⟩
    obtain ⟨⟨d0, f0⟩, ⟨d1, f1⟩, ⟨d2, f2⟩, ⟨d3, f3⟩⟩ := box4_c hb4
    go_wp2_with fail
    clear d0 d1 d2 d3 f0 f1 f2 f3
    have hgz := gr_new hgw (set4_gr (w := w7) (g := x4) (.int .i64 0) (.int .i64 0) (.int .i64 0) (.slice none 0 0)) hxl4
    have hbz := box_set4 hb4 (.int .i64 0) (.int .i64 0) (.int .i64 0) (.slice none 0 0)
    generalize (((w7.setCell ⟨x4, 0, none⟩ (.int .i64 0)).setCell ⟨x4, 1, none⟩ (.int .i64 0)).setCell ⟨x4, 2, none⟩ (.int .i64 0)).setCell ⟨x4, 3, none⟩ (.slice none 0 0) = wz at *
    obtain ⟨⟨d0, f0⟩, ⟨d1, f1⟩, ⟨d2, f2⟩, ⟨d3, f3⟩⟩ := box4_c hbz
    exact bodyPost_ret (v := .tuple #[.agg #[.int .i64 0, .int .i64 0, .int .i64 0, .slice none 0 0], .int .i64 12]) (by simp [results, Tryz.results55, go_sem, d0, d1, d2, d3, f0, f1, f2, f3]) rfl ⟨⟨0, 0, 0, []⟩, 12, none, 0, rfl, hC.out, Own.nil _ _ _, hgz⟩
  have hnar : ¬ (199 < X1 - X0 ∨ 199 < Y1 - Y0) := by simp at q1 q2; omega
  obtain ⟨WD, hWD⟩ : ∃ n : Nat, n = (X1 - X0 + 1).toNat := ⟨_, rfl⟩
  obtain ⟨HD, hHD⟩ : ∃ n : Nat, n = (Y1 - Y0 + 1).toNat := ⟨_, rfl⟩
  have hWI : (WD : Int) = X1 - X0 + 1 := by omega
  have hHI : (HD : Int) = Y1 - Y0 + 1 := by omega
  have hWb : WD ≤ 200 := by omega
  have hHb : HD ≤ 200 := by omega
  have hpx := mul_bdC (a := X0) (b := st) (A := 100000000) (B := 10000) (by omega) (by omega) (by omega) (by omega) (by omega)
  have hpy := mul_bdC (a := Y0) (b := st) (A := 100000000) (B := 10000) (by omega) (by omega) (by omega) (by omega) (by omega)
  obtain ⟨PX, hPX⟩ : ∃ x, X0 * st = x := ⟨_, rfl⟩
  obtain ⟨PY, hPY⟩ : ∃ x, Y0 * st = x := ⟨_, rfl⟩
  rw [hPX] at hpx
  rw [hPY] at hpy
  have hmk : Hid (mkC st S X0 Y0 X1 Y1 = ⟨st, PX, PY, rowsB S X0 Y0 WD HD⟩) := by rw [Hid, mkC, hPX, hPY, hWD, hHD]
  replace hWD := hide hWD
  replace hHD := hide hHD
  replace hWI := hide hWI
  replace hHI := hide hHI
  go_upto_region 7 with fail
  clear p2 p3
  obtain ⟨w9, hw9⟩ : ∃ x, x = (w7).alloc (.cells [.int .i64 st, .int .i64 PX, .int .i64 PY, .slice none 0 0].toArray 28) := ⟨_, rfl⟩
  have hg9 : (w7).grownBy w9 none := by rw [hw9]; exact gr_alloc (World.grownBy.refl _ _) _
  have hb9 : Box w9 (w7).heap.size 28 [.int .i64 st, .int .i64 PX, .int .i64 PY, .slice none 0 0] := by rw [hw9]; exact Box.new _ _ _
  have hxs9 := hb9.lt
  rw [← hw9]
  clear hw9
  obtain ⟨x9, hx9⟩ : ∃ x, x = (w7).heap.size := ⟨_, rfl⟩
  rw [← hx9] at hb9 hxs9 ⊢
  have hxl9 : (w7).heap.size ≤ x9 := by omega
  clear hx9
  have hn9 : x9 ≠ x4 ∧ x9 ≠ xa7 ∧ x9 ≠ xb7 ∧ x9 ≠ mb := by
    have := hb4.lt; have := hba7.lt; have := hbb7.lt; have := hM.out.lt
    omega
  have hw9 := hgw.size
  have hfx : Hid (∀ wx, w9.grownBy wx (some x9) → Box wx x4 28 [.int .i64 0, .int .i64 0, .int .i64 0, .slice none 0 0] ∧ Box wx xa7 63 [.int .i64 X0, .int .i64 Y0] ∧ Box wx xb7 63 [.int .i64 X1, .int .i64 Y1] ∧ SetAt wx mb n S ∧ w.grownBy wx none) := fun wx h =>
    ⟨(hb4.pure hg9).gr h (by intro e; injection e with e; exact hn9.1 e), (hba7.pure hg9).gr h (by intro e; injection e with e; exact hn9.2.1 e), (hbb7.pure hg9).gr h (by intro e; injection e with e; exact hn9.2.2.1 e),
      (hM.out.pure hg9).gr h (by intro e; injection e with e; exact hn9.2.2.2 e), gr_new (hgw.t hg9) h (by omega)⟩
  obtain ⟨lo, hlo⟩ : ∃ n, n = w9.heap.size := ⟨_, rfl⟩
  have hx9lo : x9 < lo := by omega
  have hI0 : Own w9 lo 9 none 0 (rowsB S X0 Y0 WD 0) := Own.nil _ _ _
  have hself := World.grownBy.refl w9 (some x9)
  replace p1 := hg9.k p1
  replace hlo := hide hlo
  clear q1 q2 hPX hPY hb4 hba7 hbb7 hgw hnar p0 hM
  go_wp2_with fail
  go_loopw [10] (fun i wr => ∃ (m : Nat) (A : Option Addr) (cc : Nat), m ≤ HD ∧ i = .int .i64 (Y0 + (m : Int)) ∧ Box wr x9 28 [.int .i64 st, .int .i64 PX, .int .i64 PY, .slice A m cc] ∧ Own wr lo 9 A cc (rowsB S X0 Y0 WD m) ∧ w9.grownBy wr (some x9)) (fun i _ => HD - (intOf i - Y0).toNat)
  case atStart => exact ⟨0, none, 0, Nat.zero_le _, by simp, hb9, hI0, hself⟩
  case round =>
    clear hb9 hI0 hself p1
    obtain ⟨m, A, cc, hm, rfl, hb9, hO, hgr⟩ := hrel
    obtain ⟨hb4, hba7, hbb7, hM, hgw⟩ := hfx.out wr hgr
    obtain ⟨r0, -⟩ := hba7.c 0 rfl
    obtain ⟨r2, -⟩ := hbb7.c 0 rfl
    obtain ⟨r3, -⟩ := hbb7.c 1 rfl
    by_cases hlt : m < HD
    · have hle1 : decide (Y0 + (m : Int) ≤ Y1) = true := by have := hHI.out; simp; omega
      have hyb : -10000000 ≤ Y0 + (m : Int) ∧ Y0 + (m : Int) ≤ 10001000 := by have := hHI.out; omega
      have hself := World.grownBy.refl wr none
      have hrk : Hid (∀ wx, wr.grownBy wx none → wx.cell? ⟨xb7, 0, none⟩ = some (.int .i64 X1) ∧ SetAt wx mb n S) := fun wx h => ⟨h.k r2, hM.pure h⟩
      clear hb4 hba7 hbb7 hM
      obtain ⟨wa, rfl⟩ : ∃ x, x = wr := ⟨_, rfl⟩
      go_wp2_with fail
      go_loopw [11, 12] (fun r i wx => ∃ k : Nat, k ≤ WD ∧ r = .string (mkB (rowL S X0 (Y0 + (m : Int)) k)) ∧ i = .int .i64 (X0 + (k : Int)) ∧ wa.grownBy wx none) (fun _ i _ => WD - (intOf i - X0).toNat)
      case atStart => exact ⟨0, Nat.zero_le _, rfl, by simp, hself⟩
      case round =>
        clear hself r0 r2 r3
        obtain ⟨k, hk, rfl, rfl, hgx⟩ := hrel
        obtain ⟨s2, hMx⟩ := hrk.out wr hgx
        by_cases hkl : k < WD
        · have hle2 : decide (X0 + (k : Int) ≤ X1) = true := by have := hWI.out; simp; omega
          have hxb : -10000000 ≤ X0 + (k : Int) ∧ X0 + (k : Int) ≤ 10001000 := by have := hWI.out; omega
          have hLk := hide (fun W (h : wr.grownBy W none) => (hMx.pure h).look (x := X0 + (k : Int)) (y := Y0 + (m : Int)) (okSp_of (by omega) (by omega)))
          have hsuc := rowL_succ S X0 (Y0 + (m : Int)) k
          have hsz : (mkB (rowL S X0 (Y0 + (m : Int)) k)).size = k := by rw [rowL_mk, rowB_size]
          obtain ⟨v, hv⟩ : ∃ v, v = S (X0 + (k : Int)) (Y0 + (m : Int)) := ⟨_, rfl⟩
          rw [← hv] at hsuc hLk
          obtain ⟨L, hL⟩ : ∃ L, L = mkB (rowL S X0 (Y0 + (m : Int)) k) := ⟨_, rfl⟩
          rw [← hL] at hsz
          have hLs : L.size ≤ 200 := by omega
          replace hsz := hide hsz
          go_upto_region 14 with fail
          rw [← hL]
          clear s2
          replace hL := hide hL
          clear hv
          obtain ⟨j, hj1, hTr, hcat⟩ : ∃ j : Nat, j ≤ 1 ∧ Hid (∀ W, Calls Tryz.prog 78 #[.bool v] W fun e w' => e = .returned (.int .i64 (j : Int)) ∧ W = w') ∧ Hid (L ++ (⟨#[46, 35]⟩ : ByteArray).extract j (j + 1) = mkB (rowL S X0 (Y0 + (m : Int)) (k + 1))) := by
            cases v
            · exact ⟨0, by omega, fun W => truth_any false W, chr_cat0 hL.out hsuc⟩
            · exact ⟨1, by omega, fun W => truth_any true W, chr_cat1 hL.out hsuc⟩
          clear hsuc hL
          refine wp_region_tree (fun wx => wr.grownBy wx none) [2, 2, 2, 2, 2, 1, 0, 2, 2, 2, 2, 1, 0, 2, 2, 2, 2] (.bl 0 (.bl 1 (.bl 2 (.bl 3 (.bl 4 (.bl 5 (.bl 7 (.bl 8 (.bl 9 (.bl 10 (.bl 11 (.ef 6 (.ef 12 (.bl 13 (.bl 14 (.bl 15 (.bl 16 .done))))))))))))))))) (by kernel_rfl) (by kernel_rfl) (gr_drew (World.grownBy.refl _ _)) ?_
          obtain ⟨w11, hw11⟩ : ∃ x, x = (wr).drew := ⟨_, rfl⟩
          rw [← hw11]
          have hgw11 : (wr).grownBy w11 none := by rw [hw11]; exact gr_drew (World.grownBy.refl _ _)
          clear hw11
          refine tree_p rfl rfl rfl rfl _ rfl (by simp) (fun K hK => ?_)
          apply Exists.intro
          refine ⟨fun wq K' hK' => ?_, ?_⟩
          · go_wp2_with fail
            exact hK'
          go_simp
          refine hK _ ?_
          clear hK K
          refine tree_p rfl rfl rfl rfl _ rfl (by simp) (fun K hK => ?_)
          apply Exists.intro
          refine ⟨fun wq K' hK' => ?_, ?_⟩
          · go_wp2_with fail
            exact hK'
          go_simp
          refine hK _ ?_
          clear hK K
          refine tree_p rfl rfl rfl rfl _ rfl (by simp) (fun K hK => ?_)
          apply Exists.intro
          refine ⟨fun wq K' hK' => ?_, ?_⟩
          · go_wp2_with fail
            exact hK'
          go_simp
          refine hK _ ?_
          clear hK K
          refine tree_p rfl rfl rfl rfl _ rfl (by simp) (fun K hK => ?_)
          apply Exists.intro
          refine ⟨fun wq K' hK' => ?_, ?_⟩
          · go_wp2_with fail
            exact hK'
          go_simp
          refine hK _ ?_
          clear hK K
          refine tree_p rfl rfl rfl rfl _ rfl (by simp) (fun K hK => ?_)
          apply Exists.intro
          refine ⟨fun wq K' hK' => ?_, ?_⟩
          · go_wp2_with fail
            exact hK'
          go_simp
          refine hK _ ?_
          clear hK K
          refine tree_b rfl rfl rfl rfl _ rfl (by simp) (fun K hK => ?_)
          apply Exists.intro
          refine ⟨fun wq hq K' hK' => ?_, ?_⟩
          · have hlk := hLk.out wq hq
            go_wp2_with fail
            exact hK'
          go_simp
          refine hK _ ?_
          clear hK K
          refine tree_p rfl rfl rfl rfl _ rfl (by simp) (fun K hK => ?_)
          apply Exists.intro
          refine ⟨fun wq K' hK' => ?_, ?_⟩
          · go_wp2_with fail
            exact hK'
          go_simp
          refine hK _ ?_
          clear hK K
          refine tree_p rfl rfl rfl rfl _ rfl (by simp) (fun K hK => ?_)
          apply Exists.intro
          refine ⟨fun wq K' hK' => ?_, ?_⟩
          · go_wp2_with fail
            exact hK'
          go_simp
          refine hK _ ?_
          clear hK K
          refine tree_p rfl rfl rfl rfl _ rfl (by simp) (fun K hK => ?_)
          apply Exists.intro
          refine ⟨fun wq K' hK' => ?_, ?_⟩
          · go_wp2_with fail
            exact hK'
          go_simp
          refine hK _ ?_
          clear hK K
          refine tree_p rfl rfl rfl rfl _ rfl (by simp) (fun K hK => ?_)
          apply Exists.intro
          refine ⟨fun wq K' hK' => ?_, ?_⟩
          · go_wp2_with fail
            exact hK'
          go_simp
          refine hK _ ?_
          clear hK K
          refine tree_b rfl rfl rfl rfl _ rfl (by simp) (fun K hK => ?_)
          apply Exists.intro
          refine ⟨fun wq hq K' hK' => ?_, ?_⟩
          · have hlk := hLk.out wq hq
            go_wp2_with fail
            exact hK'
          go_simp
          refine hK _ ?_
          clear hK K
          refine tree_e rfl rfl (fun K hK => ?_)
          go_wp2_with fail
          refine (hTr.out _).mono ?_
          rintro e w12 ⟨rfl, rfl⟩
          go_wp2_with fail
          try go_simp
          refine hK _ _ (gr_trans hgw11 (World.grownBy.refl _ _)) ?_
          clear hK K
          refine tree_e0 (by kernel_rfl) rfl rfl (fun K hK => ?_)
          go_wp2_with fail
          refine (hTr.out _).mono ?_
          rintro e w12 ⟨rfl, rfl⟩
          go_wp2_with fail
          try go_simp
          refine hK _ _ trivial ?_
          clear hK K
          refine tree_p rfl rfl rfl rfl _ rfl (by simp) (fun K hK => ?_)
          apply Exists.intro
          refine ⟨fun wq K' hK' => ?_, ?_⟩
          · go_wp2_with fail
            exact hK'
          go_simp
          refine hK _ ?_
          clear hK K
          refine tree_p rfl rfl rfl rfl _ rfl (by simp) (fun K hK => ?_)
          apply Exists.intro
          refine ⟨fun wq K' hK' => ?_, ?_⟩
          · go_wp2_with fail
            exact hK'
          go_simp
          refine hK _ ?_
          clear hK K
          refine tree_p rfl rfl rfl rfl _ rfl (by simp) (fun K hK => ?_)
          apply Exists.intro
          refine ⟨fun wq K' hK' => ?_, ?_⟩
          · go_wp2_with fail
            exact hK'
          go_simp
          refine hK _ ?_
          clear hK K
          refine tree_p rfl rfl rfl rfl _ rfl (by simp) (fun K hK => ?_)
          apply Exists.intro
          refine ⟨fun wq K' hK' => ?_, ?_⟩
          · go_wp2_with fail
            exact hK'
          go_simp
          refine hK _ ?_
          clear hK K
          refine tree_done ?_
          go_wp2_with fail
          refine ⟨⟨k + 1, by omega, ?_, ?_, gr_trans hgx hgw11⟩, ?_⟩
          · rw [hcat.out]
          · rw [show X0 + (k : Int) + 1 = X0 + ((k + 1 : Nat) : Int) by omega]
          · have e1 : (X0 + (k : Int) + 1 - X0).toNat = k + 1 := by omega
            have e2 : (X0 + (k : Int) - X0).toNat = k := by omega
            simp only [intOf]
            rw [e1, e2]
            omega
        · obtain rfl : k = WD := by omega
          have hle2 : decide (X0 + (k : Int) ≤ X1) = false := by have := hWI.out; simp; omega
          have hrs := rowsB_succ S X0 Y0 k m
          have hrl := rowsB_len (S := S) (x0 := X0) (y0 := Y0) (n := k) (m := m)
          rw [rowL_mk]
          obtain ⟨R, hR⟩ : ∃ R, R = rowB S X0 (Y0 + (m : Int)) k := ⟨_, rfl⟩
          rw [← hR] at hrs ⊢
          replace hrs := hide hrs
          replace hrl := hide hrl
          replace hR := hide hR
          have hb9r := hb9.pure hgx
          obtain ⟨q3, -⟩ := hb9r.c 3 rfl
          have hO14 := hO.pure hgx
          have hlow : lo ≤ wr.heap.size := by rw [hlo.out]; exact (gr_trans hgr (gr_any hgx)).size
          clear hMx
          obtain ⟨i0, hi0, hzz, hi1, hi2⟩ := info_parts info_strC
          go_upto_region 15 with fail
          clear s2
          go_wp2_with (at_builtin; refine wpList_pushAt (α := ByteArray) _ rfl (.tmp 82) (.tmp 84) _ rfl lo 9 i0 _ 16 Tryz.underlying26 hi0 hzz hi1 hi2 rfl _ _ _ (rowsB S X0 Y0 k m) rfl hrl.out.symm (by exact hO14.pure (gr_alloc (World.grownBy.refl _ _) _)) 0 ⟨_, 0, none⟩ 1 1 [R] rfl rfl (by exact sl_oneAt _ 0 [.string R] _ _ _ (by first | rfl | simp) (Nat.zero_le _) rfl) ?c2 ?c3 ?c4 ?_)
          case c2 => simp only [List.length_cons, List.length_nil, hrl.out]; omega
          case c3 => simp only [List.length_cons, List.length_nil, hrl.out, maxLen]; omega
          case c4 => simp; omega
          intro A15 c15 w15 hO15 hG15
          have hga := gr_alloc (World.grownBy.refl wr none) (.cells #[.string R] 9)
          have hO14a := hO14.pure hga
          have hb14a := hb9r.pure hga
          rw [← hrs.out] at hO15
          have hb15 := hb14a.gr hG15.1 (hb14a.ne_own hO14a (by decide))
          have hgz15 : w9.grownBy w15 (some x9) := gr_row (gr_trans hgr (gr_any (hgx.t hga))) hG15.1 (fun x h2 => by have := (hO14a.blk_lt h2).1; rw [hlo.out] at this; exact this)
          obtain ⟨d3, f3⟩ := hb15.c 3 rfl
          go_wp2_with fail
          rw [hrl.out]
          have hb16 : Box (w15.setCell ⟨x9, 3, none⟩ (.slice A15 (m + 1) c15)) x9 28 [.int .i64 st, .int .i64 PX, .int .i64 PY, .slice A15 (m + 1) c15] := hb15.set_ 3 _ (by simp)
          have hO16 := hO15.set_other (g' := x9) (i := 3) (.slice A15 (m + 1) c15) (hb15.ne_own hO15 (by decide))
          have hg16 : w9.grownBy (w15.setCell ⟨x9, 3, none⟩ (.slice A15 (m + 1) c15)) (some x9) := gr_set hgz15 (.inl rfl) _
          generalize w15.setCell ⟨x9, 3, none⟩ (.slice A15 (m + 1) c15) = w16 at *
          have hHH := hHI.out
          exact ⟨⟨m + 1, A15, c15, by omega, congrArg (Value.int .i64) (by omega), hb16, hO16, hg16⟩, by simp [intOf]; omega⟩
    · obtain rfl : m = HD := by omega
      have hle1 : decide (Y0 + (m : Int) ≤ Y1) = false := by have := hHI.out; simp; omega
      have hOs := hO.sl.mono (Nat.zero_le lo)
      have hlenm := rowsB_len (S := S) (x0 := X0) (y0 := Y0) (n := WD) (m := m)
      have hCk := fun W (hs : Sl W 0 A (rowsB S X0 Y0 WD m)) => cellsFault_any ⟨st, PX, PY, rowsB S X0 Y0 WD m⟩ A m cc W ⟨hs, hlenm, fun s hs => by
        obtain ⟨j, hj, rfl⟩ := List.mem_iff_getElem.1 hs
        rw [← getD_of hj, rowsB_at (by rw [hlenm] at hj; exact hj), rowB_size]
        omega⟩
      have hAC : Hid (cellsF ⟨st, PX, PY, rowsB S X0 Y0 WD m⟩ = 0 → IsCells st S ⟨st, PX, PY, rowsB S X0 Y0 WD m⟩ 0) := fun h => .inr ⟨X0, Y0, X1, Y1, hBx.out, .inr ⟨by have := hWI.out; have := hHI.out; omega, .inl ⟨by rw [hmk.out]; exact h, by rw [hmk.out], rfl⟩⟩⟩
      have hAE : Hid (cellsF ⟨st, PX, PY, rowsB S X0 Y0 WD m⟩ ≠ 0 → IsCells st S ⟨0, 0, 0, []⟩ (cellsF ⟨st, PX, PY, rowsB S X0 Y0 WD m⟩)) := fun h => .inr ⟨X0, Y0, X1, Y1, hBx.out, .inr ⟨by have := hWI.out; have := hHI.out; omega, .inr ⟨by rw [hmk.out]; exact h, rfl, by rw [hmk.out]⟩⟩⟩
      obtain ⟨RS, hRS⟩ : ∃ r, r = rowsB S X0 Y0 WD m := ⟨_, rfl⟩
      rw [← hRS] at hO hOs hlenm hCk hAC hAE
      obtain ⟨⟨k0, -⟩, ⟨k1, -⟩, ⟨k2, -⟩, ⟨k3, -⟩⟩ := box4_c hb9
      replace hCk := hide (hCk wr hOs)
      replace hRS := hide hRS
      replace hlenm := hide hlenm
      have hlow : w.heap.size ≤ lo := by rw [hlo.out]; exact (hfx.out w9 (World.grownBy.refl _ _)).2.2.2.2.size
      clear r0 hba7 hbb7 hM hmk hle hbd hWb hHb hpx hpy hBx
      go_wp2_with fail
      refine hCk.out.mono ?_
      rintro e w20 ⟨rfl, hg20⟩
      replace hO := (Own.lower hO hlow).pure hg20
      replace hb4 := hb4.pure hg20
      replace hgw := hgw.t hg20
      replace k0 := hg20.k k0
      replace k1 := hg20.k k1
      replace k2 := hg20.k k2
      replace k3 := hg20.k k3
      clear hCk hOs r2 r3 hb9 hgr hfx hg20
      generalize hF : cellsF ⟨st, PX, PY, RS⟩ = F at *
      replace hF := hide hF
      obtain ⟨⟨d0, f0⟩, ⟨d1, f1⟩, ⟨d2, f2⟩, ⟨d3, f3⟩⟩ := box4_c hb4
      rcases hb : (F != 0) with _ | _
      · have hC := hide (hAC.out (by simpa using hb))
        clear hAE hAC hF
        go_wp2_with fail
        clear d0 d1 d2 d3 f0 f1 f2 f3 k0 k1 k2 k3
        have hgf := gr_new hgw (set4_gr (w := w20) (g := x4) (.int .i64 st) (.int .i64 PX) (.int .i64 PY) (.slice A m cc)) hxl4
        have hOf := hO.ne (set4_gr (w := w20) (g := x4) (.int .i64 st) (.int .i64 PX) (.int .i64 PY) (.slice A m cc)) (fun x h e => hb4.ne_own hO (by decide) (by injection e with e; rw [e]; exact h))
        have hbf := box_set4 hb4 (.int .i64 st) (.int .i64 PX) (.int .i64 PY) (.slice A m cc)
        generalize (((w20.setCell ⟨x4, 0, none⟩ (.int .i64 st)).setCell ⟨x4, 1, none⟩ (.int .i64 PX)).setCell ⟨x4, 2, none⟩ (.int .i64 PY)).setCell ⟨x4, 3, none⟩ (.slice A m cc) = wf at *
        obtain ⟨⟨d0, f0⟩, ⟨d1, f1⟩, ⟨d2, f2⟩, ⟨d3, f3⟩⟩ := box4_c hbf
        exact bodyPost_ret (v := .tuple #[.agg #[.int .i64 st, .int .i64 PX, .int .i64 PY, .slice A m cc], .int .i64 0]) (by simp [results, Tryz.results55, go_sem, d0, d1, d2, d3, f0, f1, f2, f3]) rfl ⟨⟨st, PX, PY, RS⟩, 0, A, cc, by rw [hlenm.out], hC.out, hOf, hgf⟩
      · have hC := hide (hAE.out (by simpa using hb))
        clear hAE hAC hF
        go_wp2_with fail
        clear d0 d1 d2 d3 f0 f1 f2 f3 k0 k1 k2 k3
        have hgf := gr_new hgw (set4_gr (w := w20) (g := x4) (.int .i64 0) (.int .i64 0) (.int .i64 0) (.slice none 0 0)) hxl4
        have hbf := box_set4 hb4 (.int .i64 0) (.int .i64 0) (.int .i64 0) (.slice none 0 0)
        generalize (((w20.setCell ⟨x4, 0, none⟩ (.int .i64 0)).setCell ⟨x4, 1, none⟩ (.int .i64 0)).setCell ⟨x4, 2, none⟩ (.int .i64 0)).setCell ⟨x4, 3, none⟩ (.slice none 0 0) = wf at *
        obtain ⟨⟨d0, f0⟩, ⟨d1, f1⟩, ⟨d2, f2⟩, ⟨d3, f3⟩⟩ := box4_c hbf
        exact bodyPost_ret (v := .tuple #[.agg #[.int .i64 0, .int .i64 0, .int .i64 0, .slice none 0 0], .int .i64 F]) (by simp [results, Tryz.results55, go_sem, d0, d1, d2, d3, f0, f1, f2, f3]) rfl ⟨⟨0, 0, 0, []⟩, F, none, 0, rfl, hC.out, Own.nil _ _ _, hgf⟩

end Go.Proofs.YtphkcafmbbeodaaGreatDoor

namespace Go.Bl
open Go

def TK (A B P : Int → Int → Bool) (k : Nat) (x y : Int) : Bool := ((decide (1 ≤ k) && A x y) || (decide (2 ≤ k) && B x y)) && P x y

end Go.Bl
namespace Go.Proofs.YtphkcafmbbeodaaGreatDoor
open Go Go.RowKit Go.Bl Go.Maps Go.WideShapes

end Go.Proofs.YtphkcafmbbeodaaGreatDoor

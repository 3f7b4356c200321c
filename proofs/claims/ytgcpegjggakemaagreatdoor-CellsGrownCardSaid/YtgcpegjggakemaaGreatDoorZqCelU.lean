/- Contracts of functions that this seat's laws reach, each: what one call returns and what it leaves in memory; no condition beyond each theorem's own hypotheses. -/
import Derived.Test.YtgcpegjggakemaaGreatDoorZqCelR
import Derived.Test.YtgcpegjggakemaaGreatDoorZqCelS
import Derived.Shelf.Strings.SlTrimAscii
set_option linter.unusedVariables false
set_option linter.unusedSimpArgs false
namespace Go.Bl
open Go

def setHB : List UInt8 := [35, 46]

theorem dropWhile_nil {p : UInt8 → Bool} : ∀ {l : List UInt8}, l.dropWhile p = [] ↔ ∀ b ∈ l, p b = true
  | [] => by simp
  | a :: l => by
    rw [List.dropWhile_cons]
    cases h : p a
    · simp [h]
    · simp [h, dropWhile_nil (l := l)]

theorem mem_drop {p : UInt8 → Bool} {b : UInt8} : ∀ {l : List UInt8}, b ∈ l → p b = false → b ∈ l.dropWhile p
  | [], hb, _ => by cases hb
  | a :: l, hb, hp => by
    rw [List.dropWhile_cons]
    cases h : p a
    · simpa using hb
    · have hne : b ≠ a := by rintro rfl; rw [h] at hp; cases hp
      have hb2 : b ∈ l := by simpa [hne] using hb
      simpa using mem_drop hb2 hp

theorem trim_all {l cs : List UInt8} (h : ∀ b ∈ l, cs.contains b = true) : Lib.trimS l cs = [] := by
  unfold Lib.trimS Lib.trimRightS
  have : l.reverse.dropWhile (cs.contains ·) = [] := by
    rw [dropWhile_nil]
    intro b hb
    exact h b (List.mem_reverse.1 hb)
  rw [this]; rfl

theorem trim_some {l cs : List UInt8} {b : UInt8} (hb : b ∈ l) (hc : cs.contains b = false) : Lib.trimS l cs ≠ [] := by
  unfold Lib.trimS Lib.trimLeftS Lib.trimRightS
  intro h
  rw [dropWhile_nil] at h
  have h1 : b ∈ l.reverse.dropWhile (cs.contains ·) := mem_drop (List.mem_reverse.2 hb) hc
  have := h b (List.mem_reverse.2 h1)
  rw [hc] at this; cases this

theorem trim_okR (s : ByteArray) : (Lib.trimS s.data.toList setHB).isEmpty = okR s := by
  have hc : ∀ b : UInt8, setHB.contains b = (b == 35 || b == 46) := fun b => by rw [Bool.eq_iff_iff]; simp [setHB]
  rcases ho : okR s with _ | _
  · rw [okR, List.all_eq_false] at ho
    obtain ⟨b, hb, hn⟩ := ho
    have := trim_some (cs := setHB) hb (by rw [hc]; simpa using hn)
    cases h : Lib.trimS s.data.toList setHB
    · exact absurd h this
    · rfl
  · rw [okR, List.all_eq_true] at ho
    rw [trim_all (fun b hb => by rw [hc]; exact ho b hb)]; rfl

def rowsF (rows : List ByteArray) : Int :=
  if 200 < rows.length then 2 else if scanN (rowF rows) rows.length ≠ 0 then scanN (rowF rows) rows.length else if 200 < wideR rows then 2 else 0

theorem wide_nil {rows : List ByteArray} (h : rows.length = 0) : wideR rows = 0 := by
  have : rows = [] := List.eq_nil_of_length_eq_zero h
  rw [this]; rfl
/-- where the box of cells is that of their rows, all edges have a covered cell -/
theorem box_tight {c : Cel} {W H : Nat} (hW : W = wideR c.rows) (hH : H = c.rows.length) (hw : ∀ j, (h : j < c.rows.length) → c.rows[j].size = wideR c.rows)
    (hb : Box4 (onC c) (c.x / c.step) (c.y / c.step) (c.x / c.step + (W : Int) - 1) (c.y / c.step + (H : Int) - 1)) : tightB c.rows = true := by
  have hbit : ∀ {x y : Int}, onC c x y = true → bit c.rows (y - c.y / c.step).toNat (x - c.x / c.step).toNat = true ∧ (y - c.y / c.step).toNat < c.rows.length ∧ (x - c.x / c.step).toNat < wideR c.rows := fun {x y} h => by
    obtain ⟨h1, h2, h3⟩ := onC_row h
    obtain ⟨h4, h5⟩ := bit_in h3
    rw [getD_of h4, hw _ h4] at h5
    exact ⟨h3, h4, h5⟩
  obtain ⟨a1, h1⟩ := hb.l; obtain ⟨a2, h2⟩ := hb.r; obtain ⟨a3, h3⟩ := hb.b; obtain ⟨a4, h4⟩ := hb.t
  have h1 := hbit h1; have h2 := hbit h2; have h3 := hbit h3; have h4 := hbit h4
  have e1 : (c.x / c.step - c.x / c.step).toNat = 0 := by omega
  have e2 : (c.y / c.step - c.y / c.step).toNat = 0 := by omega
  have e3 : (c.x / c.step + (W : Int) - 1 - c.x / c.step).toNat = wideR c.rows - 1 := by omega
  have e4 : (c.y / c.step + (H : Int) - 1 - c.y / c.step).toNat = c.rows.length - 1 := by omega
  rw [e1] at h1; rw [e3] at h2; rw [e2] at h3; rw [e4] at h4
  unfold tightB
  simp only [Bool.and_eq_true, List.any_eq_true, List.mem_range]
  exact ⟨⟨⟨_, h3.2.2, h3.1⟩, ⟨_, h4.2.2, h4.1⟩⟩, ⟨_, h1.2.1, h1.1⟩, ⟨_, h2.2.1, h2.1⟩⟩

end Go.Bl
namespace Go.Proofs.YtgcpegjggakemaaGreatDoor
open Go Go.RowKit Go.Bl

theorem stepFault_any (n : Int) (w : World) :
    Calls Tryz.prog 58 #[.int .i64 n] w fun e w' => e = .returned (.int .i64 (if stepB n then 1 else 0)) ∧ w = w' := by
  obtain ⟨F, hF⟩ : ∃ F : Int, F = if stepB n then 1 else 0 := ⟨_, rfl⟩
  rw [← hF]
  have hio : inB n 2 10000 = !outB n 2 10000 := by unfold inB outB; by_cases h1 : n < 2 <;> by_cases h2 : 10000 < n <;> simp [h1, h2] <;> omega
  replace hF := hide hF
  go_enter Tryz.func58, Tryz.ntmps58
  go_wp2_with fail
  refine (in_any _ _ _ _).mono ?_
  rintro _ _ ⟨rfl, rfl⟩
  rw [hio]
  rcases h1 : outB n 2 10000 with _ | _
  rotate_left
  · have hV : Hid (F = 1) := by rw [Hid, hF.out, if_pos (by simp [stepB, h1])]
    clear hF hio
    go_wp2_with fail
    go_ret
    exact ⟨ret_int hV.out.symm, rfl⟩
  rcases h2 : (n.tmod 2 != 0) with _ | _
  · have hV : Hid (F = 0) := by rw [Hid, hF.out, if_neg (by simp [stepB, h1]; simpa using h2)]
    clear hF hio
    go_wp2_with fail
    go_ret
    exact ⟨ret_int hV.out.symm, rfl⟩
  · have hV : Hid (F = 1) := by rw [Hid, hF.out, if_pos (by simp [stepB, h1]; simpa using h2)]
    clear hF hio
    go_wp2_with fail
    go_ret
    exact ⟨ret_int hV.out.symm, rfl⟩

theorem trimHB_any (s : ByteArray) (w : World) (hs : s.size ≤ 9223372036854775807) :
    Calls Tryz.prog 131 #[.string s, .string ⟨#[35, 46]⟩] w fun e w' => e = .returned (.string ⟨(Lib.trimS s.data.toList setHB).toArray⟩) ∧ w.grownBy w' none := by
  refine (Any.strings_Trim_laid Tryz.lays160 (by kernel_rfl) s _ w hs (by decide) (ascii_of_all (by decide))).mono ?_
  rintro e w' ⟨rfl, hb⟩
  exact ⟨rfl, gr_below hb⟩

set_option maxHeartbeats 2000000 in
set_option maxRecDepth 100000 in
theorem rowsFault_any (A : Option Addr) (n c : Nat) (rows : List ByteArray) (w : World) (hl : Sl w 0 A rows) (hn : rows.length = n) (hz : ∀ s ∈ rows, s.size ≤ 4611686018427387904) :
    Calls Tryz.prog 59 #[.slice A n c] w fun e w' => e = .returned (.int .i64 (rowsF rows)) ∧ w.grownBy w' none := by
  subst hn
  have hm := hl.1
  unfold maxLen at hm
  obtain ⟨F, hF⟩ : ∃ F, F = rowsF rows := ⟨_, rfl⟩
  rw [← hF]
  unfold rowsF at hF
  replace hz := hide hz
  by_cases h200 : 200 < rows.length
  · have hV : Hid (F = 2) := by rw [Hid, hF, if_pos h200]
    have hd : decide ((rows.length : Int) > 200) = true := by simp; omega
    clear hF
    go_enter Tryz.func59, Tryz.ntmps59
    go_wp2_with fail
    go_ret
    exact ⟨ret_int hV.out.symm, World.grownBy.refl _ _⟩
  rw [if_neg h200] at hF
  have hd : decide ((rows.length : Int) > 200) = false := by simp; omega
  replace hF := hide hF
  go_enter Tryz.func59, Tryz.ntmps59
  go_wp2_with fail
  go_loopw [10] (fun i wr => ∃ k : Nat, k ≤ rows.length ∧ i = .int .i64 k ∧ w.grownBy wr none ∧ Hid (scanN (rowF rows) k = 0)) (fun i _ => rows.length - (intOf i).toNat)
  case atStart => exact ⟨0, Nat.zero_le _, rfl, World.grownBy.refl _ _, rfl⟩
  case round =>
    obtain ⟨k, hk, rfl, hg, hall⟩ := hrel
    by_cases hlt : k < rows.length
    · have h0 : 0 < rows.length := by omega
      obtain ⟨g, o, rfl, -, hcell⟩ := sl_strs (hl.pure hg) h0
      have d0 : wr.cell? ⟨g, o, none⟩ = some (.string rows[0]) := hcell 0 h0
      have dk := hcell k hlt
      have hrow := rowF_at hlt
      rw [wide_at h0] at hrow
      have hzk := hz.out _ (List.getElem_mem hlt)
      have hnext : Hid (rowF rows k = 0 → scanN (rowF rows) (k + 1) = 0) := fun e => scanN_ok hall.out e
      have hstop : Hid (rowF rows k ≠ 0 → scanN (rowF rows) rows.length = rowF rows k) := fun e => scanN_at hall.out e hlt
      generalize rowF rows k = rf at *
      clear hcell hall
      generalize rows[k] = s at *
      generalize rows[0] = s0 at *
      rcases hb : ((s.size : Int) != (s0.size : Int)) with _ | _
      rotate_left
      · have hV : Hid (F = 3) := by
          have hne : s.size ≠ s0.size := by intro e; rw [e] at hb; simp at hb
          rw [if_neg hne] at hrow
          subst hrow
          rw [Hid, hF.out, hstop.out (by decide), if_pos (by decide)]
        clear hF hrow hnext hstop
        go_wp2_with fail
        go_ret
        exact ⟨ret_int hV.out.symm, hg⟩
      · have hsz : s.size = s0.size := by rw [bne_eq_false_iff_eq] at hb; omega
        rw [if_pos hsz] at hrow
        replace hsz := hide hsz
        have hTr := hide (trimHB_any s wr (by omega))
        have hok := trim_okR s
        go_wp2_with fail
        refine hTr.out.mono ?_
        rintro e w2 ⟨rfl, hg2⟩
        clear hTr
        have hgz := hg.t hg2
        generalize Lib.trimS s.data.toList setHB = q at *
        rcases q with _ | ⟨b, q⟩
        · have ho : okR s = true := by rw [← hok]; rfl
          rw [if_pos ho] at hrow
          have hn := hide (hnext.out hrow)
          clear hok ho hrow hnext hstop hzk
          go_wp2_with fail
          (go_roundw; (case rel => exact ⟨k + 1, by omega, by go_num, hgz, hn⟩); (case measure => simp [intOf]; omega))
        · have ho : okR s = false := by rw [← hok]; rfl
          rw [if_neg (by rw [ho]; simp)] at hrow
          have hV : Hid (F = 9) := by
            subst hrow
            rw [Hid, hF.out, hstop.out (by decide), if_pos (by decide)]
          clear hok ho hrow hnext hstop hzk hF
          go_wp2_with fail
          go_ret
          exact ⟨ret_int hV.out.symm, hgz⟩
    · obtain rfl : k = rows.length := by omega
      have hF' := hF.out
      rw [if_neg (by rw [hall.out]; simp)] at hF'
      by_cases h0 : rows.length = 0
      · have hV : Hid (F = 0) := by rw [Hid, hF', if_neg (by rw [wide_nil h0]; omega)]
        have hd0 : (0 < rows.length) = False := by simp only [eq_iff_iff, iff_false]; omega
        have hd1 : decide ((rows.length : Int) > 0) = false := decide_eq_false (by omega)
        clear hF hF' h0 hk
        go_wp2_with fail
        go_ret
        exact ⟨ret_int hV.out.symm, hg⟩
      · have h1 : 0 < rows.length := by omega
        have hd0 : decide ((rows.length : Int) > 0) = true := decide_eq_true (by omega)
        obtain ⟨g, o, rfl, -, hcell⟩ := sl_strs (hl.pure hg) h1
        have d0 : wr.cell? ⟨g, o, none⟩ = some (.string rows[0]) := hcell 0 h1
        rw [wide_at h1] at hF'
        replace hF' := hide hF'
        clear hF hcell hall hz hl hk h0
        generalize rows[0] = s0 at *
        rcases q1 : decide ((s0.size : Int) > 200) with _ | _
        · have hV : Hid (F = 0) := by rw [Hid, hF'.out, if_neg (by simp at q1; omega)]
          clear hF'
          go_wp2_with fail
          go_ret
          exact ⟨ret_int hV.out.symm, hg⟩
        · have hV : Hid (F = 2) := by rw [Hid, hF'.out, if_pos (by simp at q1; omega)]
          clear hF'
          go_wp2_with fail
          go_ret
          exact ⟨ret_int hV.out.symm, hg⟩

end Go.Proofs.YtgcpegjggakemaaGreatDoor

namespace Go.Proofs.YtgcpegjggakemaaGreatDoor
open Go Go.RowKit Go.Bl

theorem inB_out (n a b : Int) : inB n a b = !outB n a b := by unfold inB outB; by_cases h1 : n < a <;> by_cases h2 : b < n <;> simp [h1, h2] <;> omega

set_option maxHeartbeats 8000000 in
set_option maxRecDepth 100000 in
theorem cellsFault_any (c : Cel) (A : Option Addr) (n cc : Nat) (w : World) (ha : CArg w c A n) :
    Calls Tryz.prog 11 #[.agg #[.int .i64 (c).step, .int .i64 (c).x, .int .i64 (c).y, .slice A n cc]] w fun e w' => e = .returned (.int .i64 (cellsF c)) ∧ w.grownBy w' none := by
  obtain ⟨hl, rfl, hz⟩ := ha
  obtain ⟨F, hF⟩ : ∃ F, F = cellsF c := ⟨_, rfl⟩
  rw [← hF]
  unfold cellsF at hF
  replace hz := hide hz
  replace hF := hide hF
  go_enter Tryz.func11, Tryz.ntmps11
  go_upto_region 1 with fail
  obtain ⟨w1, hw1⟩ : ∃ x, x = (w).alloc (.cells [.int .i64 (c).step, .int .i64 (c).x, .int .i64 (c).y, .slice A c.rows.length cc].toArray 34) := ⟨_, rfl⟩
  have hg1 : (w).grownBy w1 none := by rw [hw1]; exact gr_alloc (World.grownBy.refl _ _) _
  have hb1 : Box w1 (w).heap.size 34 [.int .i64 (c).step, .int .i64 (c).x, .int .i64 (c).y, .slice A c.rows.length cc] := by rw [hw1]; exact Box.new _ _ _
  have hxs1 := hb1.lt
  rw [← hw1]
  clear hw1
  obtain ⟨x1, hx1⟩ : ∃ x, x = (w).heap.size := ⟨_, rfl⟩
  rw [← hx1] at hb1 hxs1 ⊢
  have hxl1 : (w).heap.size ≤ x1 := by omega
  clear hx1
  replace hl := hl.pure hg1
  obtain ⟨⟨c0, -⟩, ⟨c1, -⟩, ⟨c2, -⟩, ⟨c3, -⟩⟩ := box4_c hb1
  have hG := hg1
  clear hg1 hxl1
  go_wp2_with fail
  refine (stepFault_any _ _).mono ?_
  rintro _ _ ⟨rfl, rfl⟩
  rcases h1 : stepB c.step with _ | _
  rotate_left
  · have hV : Hid (F = 1) := by rw [Hid, hF.out, if_pos h1]
    clear hF
    go_wp2_with fail
    go_ret
    exact ⟨ret_int hV.out.symm, hG⟩
  have hF1 := hF.out
  rw [if_neg (by rw [h1]; simp)] at hF1
  have hst := hide (step_pos h1)
  replace h1 := hide h1
  clear hF
  rw [if_neg (by simp)]
  have hRow := hide (fun W (h : w1.grownBy W none) => rowsFault_any A c.rows.length cc c.rows W (hl.pure h) rfl hz.out)
  rcases h3 : ((c.rows.length : Int) == 0) with _ | _
  rotate_left
  · have h0 : c.rows.length = 0 := by simpa using h3
    rw [if_pos h0] at hF1
    have hrF : rowsF c.rows = 0 := by unfold rowsF; rw [if_neg (by omega), if_neg (by rw [h0]; simp [scanN]), if_neg (by rw [wide_nil h0]; omega)]
    rw [hrF] at hRow
    replace hF1 := hide hF1
    rcases hx : (c.x != 0) with _ | _
    rotate_left
    · have hV : Hid (F = 3) := by rw [Hid, hF1.out, if_neg (by simp at hx; simp [hx])]
      clear hF1 h0 hrF hRow
      go_wp2_with fail
      go_ret
      exact ⟨ret_int hV.out.symm, hG⟩
    rcases hy : (c.y != 0) with _ | _
    rotate_left
    · have hV : Hid (F = 3) := by rw [Hid, hF1.out, if_neg (by simp at hy; simp [hy])]
      clear hF1 h0 hrF hRow
      go_wp2_with fail
      go_ret
      exact ⟨ret_int hV.out.symm, hG⟩
    have hV : Hid (F = 0) := by rw [Hid, hF1.out, if_pos (by simpa using And.intro hx hy)]
    clear hF1 h0 hrF
    have ex : c.x = 0 := by simpa using hx
    have ey : c.y = 0 := by simpa using hy
    have i1 : inB c.x (-2000000) 2000000 = true := by rw [ex]; decide
    have i2 : inB c.y (-2000000) 2000000 = true := by rw [ey]; decide
    have m1 : (c.x.tmod c.step != 0) = false := by rw [ex]; simp
    have m2 : (c.y.tmod c.step != 0) = false := by rw [ey]; simp
    have hs0 : ¬ c.step = 0 := by have := hst.out; omega
    clear ex ey
    go_wp2_with fail
    refine (hRow.out w1 (World.grownBy.refl _ _)).mono ?_
    rintro e w2 ⟨rfl, hg2⟩
    replace c0 := hg2.k c0
    replace c1 := hg2.k c1
    replace c2 := hg2.k c2
    replace c3 := hg2.k c3
    replace hG := hG.t hg2
    clear hRow hg2
    go_wp2_with fail
    refine (in_any _ _ _ _).mono ?_
    rintro _ _ ⟨rfl, rfl⟩
    rw [i1]
    go_wp2_with fail
    refine (in_any _ _ _ _).mono ?_
    rintro _ _ ⟨rfl, rfl⟩
    rw [i2]
    go_wp2_with fail
    go_ret
    exact ⟨ret_int hV.out.symm, hG⟩
  have h0 : c.rows.length ≠ 0 := by intro e; rw [e] at h3; exact absurd h3 (by decide)
  rw [if_neg h0] at hF1
  obtain ⟨R, hR⟩ : ∃ R, R = rowsF c.rows := ⟨_, rfl⟩
  rw [← hR] at hRow
  have hF2 : F = if R ≠ 0 then R else if outB c.x (-2000000) 2000000 || outB c.y (-2000000) 2000000 then 1 else if multB c.x c.step && multB c.y c.step && tightB c.rows then 0 else 3 := by
    rw [hF1, hR]
    unfold rowsF
    by_cases k1 : 200 < c.rows.length
    · simp [k1]
    · by_cases k2 : scanN (rowF c.rows) c.rows.length = 0
      · by_cases k3 : 200 < wideR c.rows
        · simp [k1, k2, k3]
        · simp [k1, k2, k3]
      · simp [k1, k2]
  have hRok : R = 0 → c.rows.length ≤ 200 ∧ wideR c.rows ≤ 200 ∧ ∀ j, (h : j < c.rows.length) → c.rows[j].size = wideR c.rows ∧ okR c.rows[j] = true := fun hR0 => by
    rw [hR] at hR0
    unfold rowsF at hR0
    by_cases k1 : 200 < c.rows.length
    · rw [if_pos k1] at hR0; cases hR0
    · rw [if_neg k1] at hR0
      by_cases k2 : scanN (rowF c.rows) c.rows.length = 0
      · rw [if_neg (by simp [k2])] at hR0
        by_cases k3 : 200 < wideR c.rows
        · rw [if_pos k3] at hR0; cases hR0
        · refine ⟨by omega, by omega, fun j hj => ?_⟩
          have := scan_zero.1 k2 j hj
          rw [rowF_at hj] at this
          by_cases e : c.rows[j].size = wideR c.rows
          · rw [if_pos e] at this
            by_cases o : okR c.rows[j] = true
            · exact ⟨e, o⟩
            · rw [if_neg o] at this; cases this
          · rw [if_neg e] at this; cases this
      · rw [if_pos k2] at hR0; exact absurd hR0 k2
  replace hF2 := hide hF2
  replace hRok := hide hRok
  replace hR := hide hR
  clear hF1
  go_wp2_with fail
  refine (hRow.out w1 (World.grownBy.refl _ _)).mono ?_
  rintro e w2 ⟨rfl, hg2⟩
  replace c0 := hg2.k c0
  replace c1 := hg2.k c1
  replace c2 := hg2.k c2
  replace c3 := hg2.k c3
  replace hb1 := hb1.pure hg2
  replace hl := hl.pure hg2
  replace hG := hG.t hg2
  clear hRow hg2
  rcases hq : (R != 0) with _ | _
  rotate_left
  · have hV : Hid (F = R) := by rw [Hid, hF2.out, if_pos (by simpa using hq)]
    clear hF2 hRok hR h0
    go_wp2_with fail
    go_ret
    exact ⟨ret_int hV.out.symm, hG⟩
  have hR0 : R = 0 := by simpa using hq
  obtain ⟨hn200, hw200, hrw⟩ := hRok.out hR0
  have hF3 := hF2.out
  rw [if_neg (by simp [hR0])] at hF3
  replace hF3 := hide hF3
  replace hrw := hide hrw
  clear hF2 hRok hR hR0
  go_wp2_with fail
  refine (in_any _ _ _ _).mono ?_
  rintro _ _ ⟨rfl, rfl⟩
  rw [inB_out]
  rcases o1 : outB c.x (-2000000) 2000000 with _ | _
  rotate_left
  · have hV : Hid (F = 1) := by rw [Hid, hF3.out, if_pos (by rw [o1]; rfl)]
    clear hF3 h0
    go_wp2_with fail
    go_ret
    exact ⟨ret_int hV.out.symm, hG⟩
  go_wp2_with fail
  refine (in_any _ _ _ _).mono ?_
  rintro _ _ ⟨rfl, rfl⟩
  rw [inB_out]
  rcases o2 : outB c.y (-2000000) 2000000 with _ | _
  rotate_left
  · have hV : Hid (F = 1) := by rw [Hid, hF3.out, if_pos (by rw [o2]; simp)]
    clear hF3 h0
    go_wp2_with fail
    go_ret
    exact ⟨ret_int hV.out.symm, hG⟩
  have hF4 := hF3.out
  rw [if_neg (by rw [o1, o2]; simp)] at hF4
  replace hF4 := hide hF4
  clear hF3
  have hp1 := outB_in o1
  have hp2 := outB_in o2
  have hs0 : ¬ c.step = 0 := by have := hst.out; omega
  replace hp1 := hide hp1
  replace hp2 := hide hp2
  rcases m1 : (c.x.tmod c.step != 0) with _ | _
  rotate_left
  · have hV : Hid (F = 3) := by rw [Hid, hF4.out, if_neg (by rw [multB_ne m1]; simp)]
    clear hF4 h0
    go_wp2_with fail
    go_ret
    exact ⟨ret_int hV.out.symm, hG⟩
  rcases m2 : (c.y.tmod c.step != 0) with _ | _
  rotate_left
  · have hV : Hid (F = 3) := by rw [Hid, hF4.out, if_neg (by rw [multB_ne m2]; simp)]
    clear hF4 h0
    go_wp2_with fail
    go_ret
    exact ⟨ret_int hV.out.symm, hG⟩
  have hF5 : Hid (F = if tightB c.rows then 0 else 3) := by rw [Hid, hF4.out, multB_eq m1, multB_eq m2]; simp
  have hfit : CFit c := ⟨hst.out, by have := hp1.out; omega, by have := hp2.out; omega, multB_eq m1, multB_eq m2, by omega, fun j hj => by have := hrw.out j hj; exact ⟨by omega, this.2⟩⟩
  have hSet := hide (setOf_any c A c.rows.length cc w2 ⟨hl, rfl, hz.out⟩ hfit)
  clear hF4
  go_wp2_with fail
  refine hSet.out.mono ?_
  rintro e w3 ⟨mb, rfl, hS3, hg3, -⟩
  have q1 := tdiv_mult hfit.mx
  have q2 := tdiv_mult hfit.my
  have b1 := div_bd hfit.s.1 hp1.out.1 hp1.out.2 (by omega)
  have b2 := div_bd hfit.s.1 hp2.out.1 hp2.out.2 (by omega)
  have honb : Hid (∀ x y, onC c x y = true → -1000000000 ≤ x ∧ x ≤ 1000000000 ∧ -1000000000 ≤ y ∧ y ≤ 1000000000) := fun x y h => by
    obtain ⟨r1, r2, r3⟩ := onC_row h
    obtain ⟨r4, r5⟩ := bit_in r3
    rw [getD_of r4, (hrw.out _ r4).1] at r5
    omega
  have hSp := hide (span_any mb 1000000 (onC c) w3 hS3 (fun x y h => by have := honb.out x y h; exact okSp_of (by omega) (by omega)))
  obtain ⟨X, hX⟩ : ∃ x, x = c.x / c.step := ⟨_, rfl⟩
  obtain ⟨Y, hY⟩ : ∃ x, x = c.y / c.step := ⟨_, rfl⟩
  rw [← hX] at q1 b1
  rw [← hY] at q2 b2
  replace hX := hide hX
  replace hY := hide hY
  replace c0 := hg3.k c0
  replace c1 := hg3.k c1
  replace c2 := hg3.k c2
  replace c3 := hg3.k c3
  replace hl := hl.pure hg3
  replace hG := hG.t hg3
  replace hfit := hide hfit
  clear hSet hS3
  go_wp2_with fail
  refine hSp.out.mono ?_
  rintro e w4 ⟨s, x0, y0, x1', y1, rfl, hst4, hg4⟩
  replace c0 := hg4.k c0
  replace c1 := hg4.k c1
  replace c2 := hg4.k c2
  replace c3 := hg4.k c3
  replace hl := hl.pure hg4
  replace hG := hG.t hg4
  replace hst4 := hide hst4
  clear hSp
  go_upto_region 16 with fail
  obtain ⟨w5, hw5⟩ : ∃ x, x = ((w4).alloc (.cells [.int .i64 x0, .int .i64 y0].toArray 89)).alloc (.cells [.int .i64 x1', .int .i64 y1].toArray 89) := ⟨_, rfl⟩
  have hba5 : Box w5 (w4).heap.size 89 [.int .i64 x0, .int .i64 y0] := by
    rw [hw5]; exact (Box.new (w4) [.int .i64 x0, .int .i64 y0] 89).pure (gr_alloc (World.grownBy.refl _ _) _)
  have hbb5 : Box w5 ((w4).heap.size + 1) 89 [.int .i64 x1', .int .i64 y1] := by
    have h := Box.new ((w4).alloc (.cells [.int .i64 x0, .int .i64 y0].toArray 89)) [.int .i64 x1', .int .i64 y1] 89
    rw [show ((w4).alloc (.cells [.int .i64 x0, .int .i64 y0].toArray 89)).heap.size = (w4).heap.size + 1 by simp] at h
    rw [hw5]; exact h
  have hg5 : (w4).grownBy w5 none := by rw [hw5]; exact (by repeat (first | exact World.grownBy.refl _ _ | assumption | refine gr_alloc ?_ _ | (apply gr_tail; assumption) | refine gr_drewN ?_ _ | refine gr_drew ?_))
  rw [← hw5]
  clear hw5
  obtain ⟨xb5, hxb5⟩ : ∃ x, x = (w4).heap.size + 1 := ⟨_, rfl⟩
  rw [← hxb5] at hbb5 ⊢
  obtain ⟨xa5, hxa5⟩ : ∃ x, x = (w4).heap.size := ⟨_, rfl⟩
  rw [← hxa5] at hba5 ⊢
  have hxn5 : xa5 ≠ xb5 := by omega
  replace hxa5 : (w4).heap.size ≤ xa5 := by omega
  replace hxb5 : (w4).heap.size ≤ xb5 := by omega
  have h1len : 0 < c.rows.length := by omega
  obtain ⟨g0, o0, rfl, -, hcell⟩ := sl_strs hl h1len
  have d0 : w4.cell? ⟨g0, o0, none⟩ = some (.string c.rows[0]) := hcell 0 h1len
  have hwd : (c.rows[0].size : Int) = (wideR c.rows : Int) := by rw [wide_at h1len]
  have hTB : Hid (tightB c.rows = true ↔ (s = true ∧ (x0 = X ∧ y0 = Y) ∧ (x1' = x0 + (wideR c.rows : Int) - 1 ∧ y1 = y0 + (c.rows.length : Int) - 1))) := by
    constructor
    · intro ht
      have hok : CellsOk c := ⟨h1.out, fun e => absurd e h0, hn200, fun j hj => by rw [getD_of hj]; exact hrw.out j hj, hw200, fun _ => o1, fun _ => o2, hfit.out.mx, hfit.out.my, fun _ => ht⟩
      have hB := right_box hok h0
      have hw0 : 0 < wideR c.rows := by
        unfold tightB at ht
        simp only [Bool.and_eq_true, List.any_eq_true, List.mem_range] at ht
        obtain ⟨⟨⟨i0, hi0, b0⟩, -⟩, -⟩ := ht
        omega
      rcases hst4.out with ⟨rfl, hno⟩ | ⟨rfl, hB'⟩
      · exact (hB.no hno).elim
      · obtain ⟨e1, e2, e3, e4⟩ := hB.uniq hB'
        rw [← hX.out] at e1 e3
        rw [← hY.out] at e2 e4
        exact ⟨rfl, ⟨e1.symm, e2.symm⟩, by omega, by omega⟩
    · rintro ⟨rfl, ⟨e1, e2⟩, e3, e4⟩
      rcases hst4.out with ⟨h, -⟩ | ⟨-, hB'⟩
      · cases h
      · rw [e3, e4, e1, e2, hX.out, hY.out] at hB'
        exact box_tight rfl rfl (fun j hj => (hrw.out j hj).1) hB'
  have hbb : Hid (s = true → -1000000000 ≤ x0 ∧ x0 ≤ 1000000000 ∧ -1000000000 ≤ y0 ∧ y0 ≤ 1000000000) := fun hs => by
    rcases hst4.out with ⟨h, -⟩ | ⟨-, hB'⟩
    · rw [hs] at h; cases h
    · obtain ⟨a1, h1⟩ := hB'.l
      obtain ⟨a2, h2⟩ := hB'.b
      have := honb.out _ _ h1; have := honb.out _ _ h2
      omega
  replace hwd := hide hwd
  clear hcell hst4 honb hX hY hfit h1 hp1 hp2 hz hg3 hl
  obtain ⟨WW, hWW⟩ : ∃ n, n = wideR c.rows := ⟨_, rfl⟩
  rw [← hWW] at hwd hTB hw200
  replace hWW := hide hWW
  generalize c.rows[0] = r0 at *
  have hw0 := hwd.out
  replace d0 := hg5.k d0
  replace c0 := hg5.k c0
  replace c1 := hg5.k c1
  replace c2 := hg5.k c2
  replace c3 := hg5.k c3
  replace hG := hG.t hg5
  obtain ⟨p0, -⟩ := hba5.c 0 rfl
  obtain ⟨p1, -⟩ := hba5.c 1 rfl
  obtain ⟨p2, -⟩ := hbb5.c 0 rfl
  obtain ⟨p3, -⟩ := hbb5.c 1 rfl
  cases s
  · have hV : Hid (F = 3) := by rw [Hid, hF5.out, if_neg (fun h => by have := (hTB.out.1 h).1; cases this)]
    clear hTB hF5 hbb
    go_quiet (fail)
    go_wp2_with fail
    go_ret
    exact ⟨ret_int hV.out.symm, by repeat (first | exact hG | refine gr_drewN ?_ _)⟩
  · obtain ⟨k1, k2, k3, k4⟩ := hbb.out rfl
    clear hbb
    by_cases e1 : x0 = X
    rotate_left
    · have hV : Hid (F = 3) := by rw [Hid, hF5.out, if_neg (fun h => e1 (hTB.out.1 h).2.1.1)]
      have hb : (x0 == X) = false := by simpa using e1
      clear hTB hF5 e1
      go_quiet (fail)
      go_wp2_with fail
      go_ret
      exact ⟨ret_int hV.out.symm, by repeat (first | exact hG | refine gr_drewN ?_ _)⟩
    by_cases e2 : y0 = Y
    rotate_left
    · have hV : Hid (F = 3) := by rw [Hid, hF5.out, if_neg (fun h => e2 (hTB.out.1 h).2.1.2)]
      have hb : (y0 == Y) = false := by simpa using e2
      subst e1
      clear hTB hF5 e2
      go_quiet (fail)
      go_wp2_with fail
      go_ret
      exact ⟨ret_int hV.out.symm, by repeat (first | exact hG | refine gr_drewN ?_ _)⟩
    subst e1
    subst e2
    by_cases e3 : x1' = x0 + (WW : Int) - 1
    rotate_left
    · have hV : Hid (F = 3) := by rw [Hid, hF5.out, if_neg (fun h => e3 (hTB.out.1 h).2.2.1)]
      have hb : (x1' == x0 + (WW : Int) - 1) = false := by simpa using e3
      clear hTB hF5 e3
      go_quiet (fail)
      go_wp2_with fail
      go_ret
      exact ⟨ret_int hV.out.symm, by repeat (first | exact hG | refine gr_drewN ?_ _)⟩
    by_cases e4 : y1 = y0 + (c.rows.length : Int) - 1
    rotate_left
    · have hV : Hid (F = 3) := by rw [Hid, hF5.out, if_neg (fun h => e4 (hTB.out.1 h).2.2.2)]
      have hb : (y1 == y0 + (c.rows.length : Int) - 1) = false := by simpa using e4
      subst e3
      clear hTB hF5 e4
      go_quiet (fail)
      go_wp2_with fail
      go_ret
      exact ⟨ret_int hV.out.symm, by repeat (first | exact hG | refine gr_drewN ?_ _)⟩
    have hV : Hid (F = 0) := by rw [Hid, hF5.out, if_pos (hTB.out.2 ⟨rfl, ⟨rfl, rfl⟩, e3, e4⟩)]
    subst e3
    subst e4
    clear hTB hF5
    go_quiet (fail)
    go_wp2_with fail
    go_ret
    exact ⟨ret_int hV.out.symm, by repeat (first | exact hG | refine gr_drewN ?_ _)⟩

end Go.Proofs.YtgcpegjggakemaaGreatDoor

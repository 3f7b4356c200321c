/- Contracts of functions that this seat's laws reach, each: what one call returns and what it leaves in memory; no condition beyond each theorem's own hypotheses. -/
import Derived.Test.YtejmbaiioblfeaaGreatDoorZqRegF
import Derived.Test.YtejmbaiioblfeaaGreatDoorZqFillOut
import Derived.Test.YtejmbaiioblfeaaGreatDoorZqOrdG
set_option linter.unusedVariables false
set_option linter.unusedSimpArgs false
namespace Go.Bl
open Go
/-- sides of two rings that meet -/
def pairR (r q : List Pt) : Bool := (List.range r.length).any fun a => (List.range q.length).any fun b => meetR (cor r a) (cor r (a + 1)) (cor q b) (cor q (b + 1))

def pairsR (rs : List (List Pt)) : Bool := (List.range rs.length).any fun i => (List.range i).any fun k => pairR (rs.getD i []) (rs.getD k [])
/-- the reference's fault of a region -/
def regR (rs : List (List Pt)) : Int :=
  if 100 < rs.length ∨ 2000 < (flatK rs rs.length).length then 2
  else if scanN (fun k => ringR (rs.getD k [])) rs.length ≠ 0 then scanN (fun k => ringR (rs.getD k [])) rs.length
  else if pairsR rs then 13 else 0

theorem pairs_eq (rs : List (List Pt)) : pairsM (sidesK rs rs.length) = pairsR rs := by
  rw [Bool.eq_iff_iff, pairsM_iff]
  unfold pairsR pairR
  simp only [List.any_eq_true, List.mem_range]
  constructor
  · rintro ⟨x, hx, y, hy, ht⟩
    obtain ⟨i, hi, a, ha, rfl⟩ := mem_sidesK.1 hx
    obtain ⟨k, hk, b, hb, rfl⟩ := mem_sidesK.1 hy
    unfold tstS at ht
    simp only [Bool.and_eq_true, bne_iff_ne, ne_eq] at ht
    obtain ⟨hn, hm⟩ := ht
    rcases Nat.lt_trichotomy i k with hl | hl | hl
    · exact ⟨k, hk, i, hl, b, hb, a, ha, by rw [← meetM_eq, meetM_comm]; exact hm⟩
    · subst hl; exact absurd rfl hn
    · exact ⟨i, hi, k, hl, a, ha, b, hb, by rw [← meetM_eq]; exact hm⟩
  · rintro ⟨i, hi, k, hk, a, ha, b, hb, hm⟩
    refine ⟨_, mem_sidesK.2 ⟨i, hi, a, ha, rfl⟩, _, mem_sidesK.2 ⟨k, by omega, b, hb, rfl⟩, ?_⟩
    unfold tstS
    simp only [Bool.and_eq_true, bne_iff_ne, ne_eq]
    exact ⟨by omega, by rw [meetM_eq]; exact hm⟩

theorem regF_eq (rs : List (List Pt)) : regF rs = regR rs := by
  unfold regF regR
  rw [pairs_eq]
  have : (fun k => ringF (rs.getD k [])) = fun k => ringR (rs.getD k []) := by funext k; exact ringF_eq _
  rw [this]

end Go.Bl

namespace Go.Bl
open Go
/-- a side of a ring, as the reference has it -/
structure Sg where
  a : Pt
  b : Pt
deriving DecidableEq

instance : Inhabited Sg := ⟨⟨default, default⟩⟩

instance : Enc Sg where
  sz := 4
  rep := fun _ _ p cs => cs = [.int .i64 p.a.x, .int .i64 p.a.y, .int .i64 p.b.x, .int .i64 p.b.y]
  len := by rintro w lo x cs rfl; rfl
  one := by rintro w lo x cs rfl u hu; simp at hu; rcases hu with rfl | rfl | rfl | rfl <;> rfl
  keep := fun h _ => h
  mono := fun h _ => h

instance : Flat Sg := ⟨fun h => h, by decide⟩

def segK (r : List Pt) (k : Nat) : List Sg := (List.range k).map fun k => ⟨cor r k, cor r (k + 1)⟩

theorem segK_snoc (r : List Pt) (k : Nat) : segK r (k + 1) = segK r k ++ [⟨cor r k, cor r (k + 1)⟩] := by unfold segK; rw [List.range_succ, List.map_append]; rfl

theorem segK_len (r : List Pt) (k : Nat) : (segK r k).length = k := by simp [segK]

theorem segK_get (r : List Pt) (n : Nat) {k : Nat} (h : k < (segK r n).length) : (segK r n)[k] = ⟨cor r k, cor r (k + 1)⟩ := by simp [segK]

end Go.Bl
namespace Go.Proofs.YtejmbaiioblfeaaGreatDoor
open Go Go.RowKit Go.Bl

set_option maxHeartbeats 800000 in
theorem turnRef_any (a b c : Pt) (w : World) (ha : bdP a) (hb : bdP b) (hc : bdP c) :
    Calls Tryz.prog 52 #[(.agg #[.int .i64 (a).x, .int .i64 (a).y]), (.agg #[.int .i64 (b).x, .int .i64 (b).y]), (.agg #[.int .i64 (c).x, .int .i64 (c).y])] w fun e w' => e = .returned (.int .i64 (turnP a b c)) ∧ w.grownBy w' none := by
  unfold bdP at ha hb hc
  have h1 := mul_pt (a := b.x - a.x) (b := c.y - a.y) (by omega) (by omega)
  have h2 := mul_pt (a := b.y - a.y) (b := c.x - a.x) (by omega) (by omega)
  have hV : Hid (turnP a b c = (b.x - a.x) * (c.y - a.y) - (b.y - a.y) * (c.x - a.x)) := rfl
  go_enter Tryz.func52, Tryz.ntmps52
  go_wp2_with fail
  go_ret
  exact ⟨ret_int hV.out.symm, (by repeat (first | exact World.grownBy.refl _ _ | assumption | refine gr_alloc ?_ _ | (apply gr_tail; assumption) | refine gr_drewN ?_ _ | refine gr_drew ?_))⟩

set_option maxHeartbeats 4000000 in
set_option maxRecDepth 100000 in
theorem onRef_any (p a b : Pt) (w : World) (hp : bdP p) (ha : bdP a) (hb : bdP b) :
    Calls Tryz.prog 91 #[(.agg #[.int .i64 (p).x, .int .i64 (p).y]), (.agg #[.int .i64 (a).x, .int .i64 (a).y]), (.agg #[.int .i64 (b).x, .int .i64 (b).y])] w fun e w' => e = .returned (.bool (onB p a b)) ∧ w.grownBy w' none := by
  have hT := hide fun w => turnRef_any a b p w ha hb hp
  have hV : Hid (onB p a b = (decide (turnP a b p = 0) && (inB p.x (min a.x b.x) (max a.x b.x) && inB p.y (min a.y b.y) (max a.y b.y)))) := rfl
  have hI1 := hide fun w => in_any p.x (min a.x b.x) (max a.x b.x) w
  have hI2 := hide fun w => in_any p.y (min a.y b.y) (max a.y b.y) w
  generalize inB p.x (min a.x b.x) (max a.x b.x) = i1 at *
  generalize inB p.y (min a.y b.y) (max a.y b.y) = i2 at *
  generalize turnP a b p = t at *
  clear hp ha hb
  go_enter Tryz.func91, Tryz.ntmps91
  go_upto_region 1 with fail
  obtain ⟨W, hW⟩ : ∃ W, W = ((w.alloc (.cells #[.int .i64 p.x, .int .i64 p.y] 29)).alloc (.cells #[.int .i64 a.x, .int .i64 a.y] 29)).alloc (.cells #[.int .i64 b.x, .int .i64 b.y] 29) := ⟨_, rfl⟩
  have hgW : w.grownBy W none := by rw [hW]; exact (by repeat (first | exact World.grownBy.refl _ _ | assumption | refine gr_alloc ?_ _ | (apply gr_tail; assumption) | refine gr_drewN ?_ _ | refine gr_drew ?_))
  have a0 : W.cell? ⟨w.heap.size, 0, none⟩ = some (.int .i64 (p).x) := by rw [hW]; go_simp
  have a1 : W.cell? ⟨w.heap.size, 1, none⟩ = some (.int .i64 (p).y) := by rw [hW]; go_simp
  have b0 : W.cell? ⟨w.heap.size + 1, 0, none⟩ = some (.int .i64 (a).x) := by rw [hW]; go_simp
  have b1 : W.cell? ⟨w.heap.size + 1, 1, none⟩ = some (.int .i64 (a).y) := by rw [hW]; go_simp
  have c0 : W.cell? ⟨w.heap.size + 1 + 1, 0, none⟩ = some (.int .i64 (b).x) := by rw [hW]; go_simp
  have c1 : W.cell? ⟨w.heap.size + 1 + 1, 1, none⟩ = some (.int .i64 (b).y) := by rw [hW]; go_simp
  rw [← hW]
  clear hW
  go_wp2_with fail
  refine (hT.out _).mono ?_
  rintro e w1 ⟨rfl, hg1⟩
  replace a0 := hg1.k a0
  replace a1 := hg1.k a1
  replace b0 := hg1.k b0
  replace b1 := hg1.k b1
  replace c0 := hg1.k c0
  replace c1 := hg1.k c1
  have hgw := gr_trans hgW hg1
  rcases h0 : decide (t = 0) with _ | _
  · have hb : (t == 0) = false := by simpa using h0
    rw [h0] at hV
    clear h0
    go_wp2_with fail
    go_ret
    exact ⟨ret_bool (by rw [hV.out, Bool.false_and]), hgw⟩
  · have hb : (t == 0) = true := by simpa using h0
    rw [h0] at hV
    clear h0
    go_wp2_with fail
    refine (hI1.out _).mono ?_
    rintro e w2 ⟨rfl, rfl⟩
    cases i1 with
    | false =>
      go_wp2_with fail
      go_ret
      exact ⟨ret_bool (by rw [hV.out]; rfl), hgw⟩
    | true =>
      go_wp2_with fail
      refine (hI2.out _).mono ?_
      rintro e w2 ⟨rfl, rfl⟩
      go_wp2_with fail
      go_ret
      exact ⟨ret_bool (by rw [hV.out]; rfl), hgw⟩

def sgnI (n : Int) : Int := Lib.compareInt n 0

theorem sgn_cases (n : Int) : (n < 0 ∧ sgnI n = -1) ∨ (n = 0 ∧ sgnI n = 0) ∨ (0 < n ∧ sgnI n = 1) := by
  unfold sgnI Lib.compareInt
  rcases Int.lt_trichotomy n 0 with h | h | h
  · left; simp [h]
  · right; left; simp [h]
  · right; right
    refine ⟨h, ?_⟩
    rw [if_neg (by omega), if_pos (by omega)]

theorem sgn_cross (m n : Int) : decide (sgnI m * sgnI n < 0) = crossB m n := by
  unfold crossB
  rw [decide_eq_decide]
  rcases sgn_cases m with ⟨h1, e1⟩ | ⟨h1, e1⟩ | ⟨h1, e1⟩ <;> rcases sgn_cases n with ⟨h2, e2⟩ | ⟨h2, e2⟩ | ⟨h2, e2⟩ <;> rw [e1, e2] <;> omega

set_option maxHeartbeats 400000 in
theorem signRef_any (n : Int) (w : World) :
    Calls Tryz.prog 93 #[.int .i64 n] w fun e w' => e = .returned (.int .i64 (sgnI n)) ∧ w.grownBy w' none := by
  have hcon := hide fun W' => Tryz.cmp_Compare_int n 0 W'
  have hV : Hid (sgnI n = Lib.compareInt n 0) := rfl
  rw [← hV.out] at hcon
  generalize sgnI n = r at hcon hV ⊢
  go_enter Tryz.func93, Tryz.ntmps93
  go_wp2_with fail
  refine (hcon.out _).mono ?_
  rintro e w' ⟨rfl, rfl⟩
  go_wp2_with fail
  go_ret
  exact ⟨rfl, (by repeat (first | exact World.grownBy.refl _ _ | assumption | refine gr_alloc ?_ _ | (apply gr_tail; assumption) | refine gr_drewN ?_ _ | refine gr_drew ?_))⟩

set_option maxHeartbeats 8000000 in
set_option maxRecDepth 100000 in
theorem meetRef_any (a b c d : Pt) (w : World) (ha : bdP a) (hb : bdP b) (hc : bdP c) (hd : bdP d) :
    Calls Tryz.prog 69 #[(.agg #[.int .i64 (a).x, .int .i64 (a).y]), (.agg #[.int .i64 (b).x, .int .i64 (b).y]), (.agg #[.int .i64 (c).x, .int .i64 (c).y]), (.agg #[.int .i64 (d).x, .int .i64 (d).y])] w fun e w' => e = .returned (.bool (meetR a b c d)) ∧ w.grownBy w' none := by
  have hO1 := hide fun w => onRef_any a c d w ha hc hd
  have hO2 := hide fun w => onRef_any b c d w hb hc hd
  have hO3 := hide fun w => onRef_any c a b w hc ha hb
  have hO4 := hide fun w => onRef_any d a b w hd ha hb
  have hT1 := hide fun w => turnRef_any a b c w ha hb hc
  have hT2 := hide fun w => turnRef_any a b d w ha hb hd
  have hT3 := hide fun w => turnRef_any c d a w hc hd ha
  have hT4 := hide fun w => turnRef_any c d b w hc hd hb
  have hS1 := hide (signRef_any (turnP a b c))
  have hS2 := hide (signRef_any (turnP a b d))
  have hS3 := hide (signRef_any (turnP c d a))
  have hS4 := hide (signRef_any (turnP c d b))
  have hV : Hid (meetR a b c d = ((onB a c d || onB b c d || onB c a b || onB d a b) || (decide (sgnI (turnP a b c) * sgnI (turnP a b d) < 0) && decide (sgnI (turnP c d a) * sgnI (turnP c d b) < 0)))) := by
    rw [Hid, sgn_cross, sgn_cross]; rfl
  have hb1 : ∀ n, -1 ≤ sgnI n ∧ sgnI n ≤ 1 := fun n => by rcases sgn_cases n with h | h | h <;> omega
  have hm1 : ∀ m n, wrap64 (sgnI m * sgnI n) = sgnI m * sgnI n := fun m n => by
    have := mulm_bd (m := 1) (n := 1) (hb1 m) (hb1 n) (by decide)
    exact i64_in (by omega)
  have hmA := hm1 (turnP a b c) (turnP a b d)
  have hmB := hm1 (turnP c d a) (turnP c d b)
  clear hm1 hb1
  generalize sgnI (turnP a b c) = s1 at *
  generalize sgnI (turnP a b d) = s2 at *
  generalize sgnI (turnP c d a) = s3 at *
  generalize sgnI (turnP c d b) = s4 at *
  generalize turnP a b c = t1 at *
  generalize turnP a b d = t2 at *
  generalize turnP c d a = t3 at *
  generalize turnP c d b = t4 at *
  generalize onB a c d = o1 at *
  generalize onB b c d = o2 at *
  generalize onB c a b = o3 at *
  generalize onB d a b = o4 at *
  clear ha hb hc hd
  go_enter Tryz.func69, Tryz.ntmps69
  go_upto_region 1 with fail
  obtain ⟨W, hW⟩ : ∃ W, W = (((w.alloc (.cells #[.int .i64 a.x, .int .i64 a.y] 29)).alloc (.cells #[.int .i64 b.x, .int .i64 b.y] 29)).alloc (.cells #[.int .i64 c.x, .int .i64 c.y] 29)).alloc (.cells #[.int .i64 d.x, .int .i64 d.y] 29) := ⟨_, rfl⟩
  have hgW : w.grownBy W none := by rw [hW]; exact (by repeat (first | exact World.grownBy.refl _ _ | assumption | refine gr_alloc ?_ _ | (apply gr_tail; assumption) | refine gr_drewN ?_ _ | refine gr_drew ?_))
  have a0 : W.cell? ⟨w.heap.size, 0, none⟩ = some (.int .i64 (a).x) := by rw [hW]; go_simp
  have a1 : W.cell? ⟨w.heap.size, 1, none⟩ = some (.int .i64 (a).y) := by rw [hW]; go_simp
  have b0 : W.cell? ⟨w.heap.size + 1, 0, none⟩ = some (.int .i64 (b).x) := by rw [hW]; go_simp
  have b1 : W.cell? ⟨w.heap.size + 1, 1, none⟩ = some (.int .i64 (b).y) := by rw [hW]; go_simp
  have c0 : W.cell? ⟨w.heap.size + 1 + 1, 0, none⟩ = some (.int .i64 (c).x) := by rw [hW]; go_simp
  have c1 : W.cell? ⟨w.heap.size + 1 + 1, 1, none⟩ = some (.int .i64 (c).y) := by rw [hW]; go_simp
  have d0 : W.cell? ⟨w.heap.size + 1 + 1 + 1, 0, none⟩ = some (.int .i64 d.x) := by rw [hW]; go_simp
  have d1 : W.cell? ⟨w.heap.size + 1 + 1 + 1, 1, none⟩ = some (.int .i64 d.y) := by rw [hW]; go_simp
  have hC : Hid (∀ wx, W.grownBy wx none → (wx.cell? ⟨w.heap.size, 0, none⟩ = some (.int .i64 a.x) ∧ wx.cell? ⟨w.heap.size, 1, none⟩ = some (.int .i64 a.y)) ∧ (wx.cell? ⟨w.heap.size + 1, 0, none⟩ = some (.int .i64 b.x) ∧ wx.cell? ⟨w.heap.size + 1, 1, none⟩ = some (.int .i64 b.y)) ∧ (wx.cell? ⟨w.heap.size + 1 + 1, 0, none⟩ = some (.int .i64 c.x) ∧ wx.cell? ⟨w.heap.size + 1 + 1, 1, none⟩ = some (.int .i64 c.y)) ∧ (wx.cell? ⟨w.heap.size + 1 + 1 + 1, 0, none⟩ = some (.int .i64 d.x) ∧ wx.cell? ⟨w.heap.size + 1 + 1 + 1, 1, none⟩ = some (.int .i64 d.y))) :=
    fun wx hg => ⟨⟨hg.k a0, hg.k a1⟩, ⟨hg.k b0, hg.k b1⟩, ⟨hg.k c0, hg.k c1⟩, hg.k d0, hg.k d1⟩
  rw [← hW]
  clear hW
  go_wp2_with fail
  refine (hO1.out _).mono ?_
  rintro e w1 ⟨rfl, hg1⟩
  clear a0 a1 b0 b1 c0 c1 d0 d1
  obtain ⟨⟨a0, a1⟩, ⟨b0, b1⟩, ⟨c0, c1⟩, d0, d1⟩ := hC.out _ hg1
  cases o1 with
  | true =>
    go_wp2_with fail
    go_ret
    exact ⟨ret_bool (by rw [hV.out]; simp), gr_trans hgW hg1⟩
  | false =>
    go_wp2_with fail
    refine (hO2.out _).mono ?_
    rintro e w2 ⟨rfl, hg2⟩
    replace hg2 := gr_trans hg1 hg2
    clear a0 a1 b0 b1 c0 c1 d0 d1
    obtain ⟨⟨a0, a1⟩, ⟨b0, b1⟩, ⟨c0, c1⟩, d0, d1⟩ := hC.out _ hg2
    cases o2 with
    | true =>
      go_wp2_with fail
      go_ret
      exact ⟨ret_bool (by rw [hV.out]; simp), gr_trans hgW hg2⟩
    | false =>
      go_wp2_with fail
      refine (hO3.out _).mono ?_
      rintro e w3 ⟨rfl, hg3⟩
      replace hg3 := gr_trans hg2 hg3
      clear a0 a1 b0 b1 c0 c1 d0 d1
      obtain ⟨⟨a0, a1⟩, ⟨b0, b1⟩, ⟨c0, c1⟩, d0, d1⟩ := hC.out _ hg3
      cases o3 with
      | true =>
        go_wp2_with fail
        go_ret
        exact ⟨ret_bool (by rw [hV.out]; simp), gr_trans hgW hg3⟩
      | false =>
        go_wp2_with fail
        refine (hO4.out _).mono ?_
        rintro e ws ⟨rfl, hg4⟩
        have hgs := gr_trans hg3 hg4
        have hgws := gr_trans hgW hgs
        clear a0 a1 b0 b1 c0 c1 d0 d1
        obtain ⟨⟨a0, a1⟩, ⟨b0, b1⟩, ⟨c0, c1⟩, d0, d1⟩ := hC.out _ hgs
        clear hg1 hg2 hg3 hg4 hgs hC hgW hO1 hO2 hO3 hO4
        cases o4 with
        | true =>
          go_wp2_with fail
          go_ret
          exact ⟨ret_bool (by rw [hV.out]; simp), hgws⟩
        | false =>
          rcases hx : decide (s1 * s2 < 0) with _ | _
          · rw [hx] at hV
            go_wp2_with fail
            refine wp_region_tree (fun wx => ws.grownBy wx none) [1, 1, 1, 0, 0, 1, 1, 1, 0, 0, 2, 2, 2, 1, 1, 1, 0, 0, 1, 1, 1, 0, 0, 2, 2, 2, 2] (.bl 0 (.bl 1 (.bl 2 (.bl 5 (.bl 6 (.bl 7 (.ef 3 (.ef 4 (.ef 8 (.ef 9 (.bl 10 (.bl 11 (.bl 12 (.bl 13 (.bl 14 (.bl 15 (.bl 18 (.bl 19 (.bl 20 (.ef 16 (.ef 17 (.ef 21 (.ef 22 (.bl 23 (.bl 24 (.bl 25 (.bl 26 .done))))))))))))))))))))))))))) (by kernel_rfl) (by kernel_rfl) (gr_drew (World.grownBy.refl _ _)) ?_
            obtain ⟨W1, hW1⟩ : ∃ x, x = (ws).drew := ⟨_, rfl⟩
            rw [← hW1]
            have hgW1 : (ws).grownBy W1 none := by rw [hW1]; exact gr_drew (World.grownBy.refl _ _)
            clear hW1
            refine tree_b rfl rfl rfl rfl _ rfl (by simp) (fun K hK => ?_)
            apply Exists.intro
            refine ⟨fun wq hq K' hK' => ?_, ?_⟩
            · have y0 := hq.k a0
              have y1 := hq.k a1
              have y2 := hq.k b0
              have y3 := hq.k b1
              have y4 := hq.k c0
              have y5 := hq.k c1
              have y6 := hq.k d0
              have y7 := hq.k d1
              go_wp2_with fail
              exact hK'
            go_simp
            refine hK _ ?_
            clear hK K
            refine tree_b rfl rfl rfl rfl _ rfl (by simp) (fun K hK => ?_)
            apply Exists.intro
            refine ⟨fun wq hq K' hK' => ?_, ?_⟩
            · have y0 := hq.k a0
              have y1 := hq.k a1
              have y2 := hq.k b0
              have y3 := hq.k b1
              have y4 := hq.k c0
              have y5 := hq.k c1
              have y6 := hq.k d0
              have y7 := hq.k d1
              go_wp2_with fail
              exact hK'
            go_simp
            refine hK _ ?_
            clear hK K
            refine tree_b rfl rfl rfl rfl _ rfl (by simp) (fun K hK => ?_)
            apply Exists.intro
            refine ⟨fun wq hq K' hK' => ?_, ?_⟩
            · have y0 := hq.k a0
              have y1 := hq.k a1
              have y2 := hq.k b0
              have y3 := hq.k b1
              have y4 := hq.k c0
              have y5 := hq.k c1
              have y6 := hq.k d0
              have y7 := hq.k d1
              go_wp2_with fail
              exact hK'
            go_simp
            refine hK _ ?_
            clear hK K
            refine tree_b rfl rfl rfl rfl _ rfl (by simp) (fun K hK => ?_)
            apply Exists.intro
            refine ⟨fun wq hq K' hK' => ?_, ?_⟩
            · have y0 := hq.k a0
              have y1 := hq.k a1
              have y2 := hq.k b0
              have y3 := hq.k b1
              have y4 := hq.k c0
              have y5 := hq.k c1
              have y6 := hq.k d0
              have y7 := hq.k d1
              go_wp2_with fail
              exact hK'
            go_simp
            refine hK _ ?_
            clear hK K
            refine tree_b rfl rfl rfl rfl _ rfl (by simp) (fun K hK => ?_)
            apply Exists.intro
            refine ⟨fun wq hq K' hK' => ?_, ?_⟩
            · have y0 := hq.k a0
              have y1 := hq.k a1
              have y2 := hq.k b0
              have y3 := hq.k b1
              have y4 := hq.k c0
              have y5 := hq.k c1
              have y6 := hq.k d0
              have y7 := hq.k d1
              go_wp2_with fail
              exact hK'
            go_simp
            refine hK _ ?_
            clear hK K
            refine tree_b rfl rfl rfl rfl _ rfl (by simp) (fun K hK => ?_)
            apply Exists.intro
            refine ⟨fun wq hq K' hK' => ?_, ?_⟩
            · have y0 := hq.k a0
              have y1 := hq.k a1
              have y2 := hq.k b0
              have y3 := hq.k b1
              have y4 := hq.k c0
              have y5 := hq.k c1
              have y6 := hq.k d0
              have y7 := hq.k d1
              go_wp2_with fail
              exact hK'
            go_simp
            refine hK _ ?_
            clear hK K
            refine tree_e rfl rfl (fun K hK => ?_)
            go_wp2_with fail
            refine (hT1.out _).mono ?_
            rintro e w3 ⟨rfl, hg3⟩
            go_wp2_with fail
            try go_simp
            refine hK _ _ ((by first | exact gr_trans (gr_trans hgW1 (World.grownBy.refl _ _)) hg3 | exact gr_trans hgW1 (World.grownBy.refl _ _) | trivial)) ?_
            clear hK K
            refine tree_e rfl rfl (fun K hK => ?_)
            go_wp2_with fail
            refine (hS1.out _).mono ?_
            rintro e w4 ⟨rfl, hg4⟩
            go_wp2_with fail
            try go_simp
            refine hK _ _ ((by first | exact gr_trans (gr_trans hgW1 hg3) hg4 | exact gr_trans hgW1 hg3 | trivial)) ?_
            clear hK K
            refine tree_e rfl rfl (fun K hK => ?_)
            go_wp2_with fail
            refine (hT2.out _).mono ?_
            rintro e w8 ⟨rfl, hg8⟩
            go_wp2_with fail
            try go_simp
            refine hK _ _ ((by first | exact gr_trans (gr_trans hgW1 (gr_trans hg3 hg4)) hg8 | exact gr_trans hgW1 (gr_trans hg3 hg4) | trivial)) ?_
            clear hK K
            refine tree_e rfl rfl (fun K hK => ?_)
            go_wp2_with fail
            refine (hS2.out _).mono ?_
            rintro e w9 ⟨rfl, hg9⟩
            go_wp2_with fail
            try go_simp
            refine hK _ _ ((by first | exact gr_trans (gr_trans hgW1 (gr_trans (gr_trans hg3 hg4) hg8)) hg9 | exact gr_trans hgW1 (gr_trans (gr_trans hg3 hg4) hg8) | trivial)) ?_
            clear hK K
            refine tree_p rfl rfl rfl rfl _ rfl (by simp) (fun K hK => ?_)
            apply Exists.intro
            refine ⟨fun wq K' hK' => ?_, ?_⟩
            · go_wp2_with fail
              exact hK'
            go_simp
            refine hK _ ?_
            clear hK K
            refine tree_p rfl rfl rfl rfl _ rfl (by simp) (fun K hK => ?_)
            apply Exists.intro
            refine ⟨fun wq K' hK' => ?_, ?_⟩
            · go_wp2_with fail
              exact hK'
            go_simp
            refine hK _ ?_
            clear hK K
            refine tree_p rfl rfl rfl rfl _ rfl (by simp) (fun K hK => ?_)
            apply Exists.intro
            refine ⟨fun wq K' hK' => ?_, ?_⟩
            · go_wp2_with fail
              exact hK'
            go_simp
            refine hK _ ?_
            clear hK K
            refine tree_skip rfl rfl ?_
            try go_simp
            refine tree_skip rfl rfl ?_
            try go_simp
            refine tree_skip rfl rfl ?_
            try go_simp
            refine tree_skip rfl rfl ?_
            try go_simp
            refine tree_skip rfl rfl ?_
            try go_simp
            refine tree_skip rfl rfl ?_
            try go_simp
            refine tree_eskip (fun _ => (by first | exact gr_trans (gr_trans hgW1 (gr_trans (gr_trans (gr_trans hg3 hg4) hg8) hg9)) hg16 | exact gr_trans hgW1 (gr_trans (gr_trans (gr_trans hg3 hg4) hg8) hg9) | trivial)) rfl rfl ?_
            try go_simp
            refine tree_eskip (fun _ => (by first | exact gr_trans (gr_trans hgW1 (gr_trans (gr_trans (gr_trans hg3 hg4) hg8) hg9)) hg17 | exact gr_trans hgW1 (gr_trans (gr_trans (gr_trans hg3 hg4) hg8) hg9) | trivial)) rfl rfl ?_
            try go_simp
            refine tree_eskip0 (by kernel_rfl) rfl rfl ?_
            try go_simp
            refine tree_eskip0 (by kernel_rfl) rfl rfl ?_
            try go_simp
            refine tree_skip rfl rfl ?_
            try go_simp
            refine tree_skip rfl rfl ?_
            try go_simp
            refine tree_p rfl rfl rfl rfl _ rfl (by simp) (fun K hK => ?_)
            apply Exists.intro
            refine ⟨fun wq K' hK' => ?_, ?_⟩
            · go_wp2_with fail
              exact hK'
            go_simp
            refine hK _ ?_
            clear hK K
            refine tree_p rfl rfl rfl rfl _ rfl (by simp) (fun K hK => ?_)
            apply Exists.intro
            refine ⟨fun wq K' hK' => ?_, ?_⟩
            · go_wp2_with fail
              exact hK'
            go_simp
            refine hK _ ?_
            clear hK K
            refine tree_done ?_
            have hgE := gr_trans hgws (gr_trans hgW1 (gr_trans (gr_trans (gr_trans hg3 hg4) hg8) hg9))
            go_wp2_with fail
            go_ret
            exact ⟨ret_bool (by rw [hV.out]; first | rfl | simp), hgE⟩
          · rw [hx] at hV
            go_wp2_with fail
            refine wp_region_tree (fun wx => ws.grownBy wx none) [1, 1, 1, 0, 0, 1, 1, 1, 0, 0, 2, 2, 2, 1, 1, 1, 0, 0, 1, 1, 1, 0, 0, 2, 2, 2, 2] (.bl 0 (.bl 1 (.bl 2 (.bl 5 (.bl 6 (.bl 7 (.ef 3 (.ef 4 (.ef 8 (.ef 9 (.bl 10 (.bl 11 (.bl 12 (.bl 13 (.bl 14 (.bl 15 (.bl 18 (.bl 19 (.bl 20 (.ef 16 (.ef 17 (.ef 21 (.ef 22 (.bl 23 (.bl 24 (.bl 25 (.bl 26 .done))))))))))))))))))))))))))) (by kernel_rfl) (by kernel_rfl) (gr_drew (World.grownBy.refl _ _)) ?_
            obtain ⟨W1, hW1⟩ : ∃ x, x = (ws).drew := ⟨_, rfl⟩
            rw [← hW1]
            have hgW1 : (ws).grownBy W1 none := by rw [hW1]; exact gr_drew (World.grownBy.refl _ _)
            clear hW1
            refine tree_b rfl rfl rfl rfl _ rfl (by simp) (fun K hK => ?_)
            apply Exists.intro
            refine ⟨fun wq hq K' hK' => ?_, ?_⟩
            · have y0 := hq.k a0
              have y1 := hq.k a1
              have y2 := hq.k b0
              have y3 := hq.k b1
              have y4 := hq.k c0
              have y5 := hq.k c1
              have y6 := hq.k d0
              have y7 := hq.k d1
              go_wp2_with fail
              exact hK'
            go_simp
            refine hK _ ?_
            clear hK K
            refine tree_b rfl rfl rfl rfl _ rfl (by simp) (fun K hK => ?_)
            apply Exists.intro
            refine ⟨fun wq hq K' hK' => ?_, ?_⟩
            · have y0 := hq.k a0
              have y1 := hq.k a1
              have y2 := hq.k b0
              have y3 := hq.k b1
              have y4 := hq.k c0
              have y5 := hq.k c1
              have y6 := hq.k d0
              have y7 := hq.k d1
              go_wp2_with fail
              exact hK'
            go_simp
            refine hK _ ?_
            clear hK K
            refine tree_b rfl rfl rfl rfl _ rfl (by simp) (fun K hK => ?_)
            apply Exists.intro
            refine ⟨fun wq hq K' hK' => ?_, ?_⟩
            · have y0 := hq.k a0
              have y1 := hq.k a1
              have y2 := hq.k b0
              have y3 := hq.k b1
              have y4 := hq.k c0
              have y5 := hq.k c1
              have y6 := hq.k d0
              have y7 := hq.k d1
              go_wp2_with fail
              exact hK'
            go_simp
            refine hK _ ?_
            clear hK K
            refine tree_b rfl rfl rfl rfl _ rfl (by simp) (fun K hK => ?_)
            apply Exists.intro
            refine ⟨fun wq hq K' hK' => ?_, ?_⟩
            · have y0 := hq.k a0
              have y1 := hq.k a1
              have y2 := hq.k b0
              have y3 := hq.k b1
              have y4 := hq.k c0
              have y5 := hq.k c1
              have y6 := hq.k d0
              have y7 := hq.k d1
              go_wp2_with fail
              exact hK'
            go_simp
            refine hK _ ?_
            clear hK K
            refine tree_b rfl rfl rfl rfl _ rfl (by simp) (fun K hK => ?_)
            apply Exists.intro
            refine ⟨fun wq hq K' hK' => ?_, ?_⟩
            · have y0 := hq.k a0
              have y1 := hq.k a1
              have y2 := hq.k b0
              have y3 := hq.k b1
              have y4 := hq.k c0
              have y5 := hq.k c1
              have y6 := hq.k d0
              have y7 := hq.k d1
              go_wp2_with fail
              exact hK'
            go_simp
            refine hK _ ?_
            clear hK K
            refine tree_b rfl rfl rfl rfl _ rfl (by simp) (fun K hK => ?_)
            apply Exists.intro
            refine ⟨fun wq hq K' hK' => ?_, ?_⟩
            · have y0 := hq.k a0
              have y1 := hq.k a1
              have y2 := hq.k b0
              have y3 := hq.k b1
              have y4 := hq.k c0
              have y5 := hq.k c1
              have y6 := hq.k d0
              have y7 := hq.k d1
              go_wp2_with fail
              exact hK'
            go_simp
            refine hK _ ?_
            clear hK K
            refine tree_e rfl rfl (fun K hK => ?_)
            go_wp2_with fail
            refine (hT1.out _).mono ?_
            rintro e w3 ⟨rfl, hg3⟩
            go_wp2_with fail
            try go_simp
            refine hK _ _ ((by first | exact gr_trans (gr_trans hgW1 (World.grownBy.refl _ _)) hg3 | exact gr_trans hgW1 (World.grownBy.refl _ _) | trivial)) ?_
            clear hK K
            refine tree_e rfl rfl (fun K hK => ?_)
            go_wp2_with fail
            refine (hS1.out _).mono ?_
            rintro e w4 ⟨rfl, hg4⟩
            go_wp2_with fail
            try go_simp
            refine hK _ _ ((by first | exact gr_trans (gr_trans hgW1 hg3) hg4 | exact gr_trans hgW1 hg3 | trivial)) ?_
            clear hK K
            refine tree_e rfl rfl (fun K hK => ?_)
            go_wp2_with fail
            refine (hT2.out _).mono ?_
            rintro e w8 ⟨rfl, hg8⟩
            go_wp2_with fail
            try go_simp
            refine hK _ _ ((by first | exact gr_trans (gr_trans hgW1 (gr_trans hg3 hg4)) hg8 | exact gr_trans hgW1 (gr_trans hg3 hg4) | trivial)) ?_
            clear hK K
            refine tree_e rfl rfl (fun K hK => ?_)
            go_wp2_with fail
            refine (hS2.out _).mono ?_
            rintro e w9 ⟨rfl, hg9⟩
            go_wp2_with fail
            try go_simp
            refine hK _ _ ((by first | exact gr_trans (gr_trans hgW1 (gr_trans (gr_trans hg3 hg4) hg8)) hg9 | exact gr_trans hgW1 (gr_trans (gr_trans hg3 hg4) hg8) | trivial)) ?_
            clear hK K
            refine tree_p rfl rfl rfl rfl _ rfl (by simp) (fun K hK => ?_)
            apply Exists.intro
            refine ⟨fun wq K' hK' => ?_, ?_⟩
            · go_wp2_with fail
              exact hK'
            go_simp
            refine hK _ ?_
            clear hK K
            refine tree_p rfl rfl rfl rfl _ rfl (by simp) (fun K hK => ?_)
            apply Exists.intro
            refine ⟨fun wq K' hK' => ?_, ?_⟩
            · go_wp2_with fail
              exact hK'
            go_simp
            refine hK _ ?_
            clear hK K
            refine tree_p rfl rfl rfl rfl _ rfl (by simp) (fun K hK => ?_)
            apply Exists.intro
            refine ⟨fun wq K' hK' => ?_, ?_⟩
            · go_wp2_with fail
              exact hK'
            go_simp
            refine hK _ ?_
            clear hK K
            refine tree_b rfl rfl rfl rfl _ rfl (by simp) (fun K hK => ?_)
            apply Exists.intro
            refine ⟨fun wq hq K' hK' => ?_, ?_⟩
            · have y0 := hq.k a0
              have y1 := hq.k a1
              have y2 := hq.k b0
              have y3 := hq.k b1
              have y4 := hq.k c0
              have y5 := hq.k c1
              have y6 := hq.k d0
              have y7 := hq.k d1
              go_wp2_with fail
              exact hK'
            go_simp
            refine hK _ ?_
            clear hK K
            refine tree_b rfl rfl rfl rfl _ rfl (by simp) (fun K hK => ?_)
            apply Exists.intro
            refine ⟨fun wq hq K' hK' => ?_, ?_⟩
            · have y0 := hq.k a0
              have y1 := hq.k a1
              have y2 := hq.k b0
              have y3 := hq.k b1
              have y4 := hq.k c0
              have y5 := hq.k c1
              have y6 := hq.k d0
              have y7 := hq.k d1
              go_wp2_with fail
              exact hK'
            go_simp
            refine hK _ ?_
            clear hK K
            refine tree_b rfl rfl rfl rfl _ rfl (by simp) (fun K hK => ?_)
            apply Exists.intro
            refine ⟨fun wq hq K' hK' => ?_, ?_⟩
            · have y0 := hq.k a0
              have y1 := hq.k a1
              have y2 := hq.k b0
              have y3 := hq.k b1
              have y4 := hq.k c0
              have y5 := hq.k c1
              have y6 := hq.k d0
              have y7 := hq.k d1
              go_wp2_with fail
              exact hK'
            go_simp
            refine hK _ ?_
            clear hK K
            refine tree_b rfl rfl rfl rfl _ rfl (by simp) (fun K hK => ?_)
            apply Exists.intro
            refine ⟨fun wq hq K' hK' => ?_, ?_⟩
            · have y0 := hq.k a0
              have y1 := hq.k a1
              have y2 := hq.k b0
              have y3 := hq.k b1
              have y4 := hq.k c0
              have y5 := hq.k c1
              have y6 := hq.k d0
              have y7 := hq.k d1
              go_wp2_with fail
              exact hK'
            go_simp
            refine hK _ ?_
            clear hK K
            refine tree_b rfl rfl rfl rfl _ rfl (by simp) (fun K hK => ?_)
            apply Exists.intro
            refine ⟨fun wq hq K' hK' => ?_, ?_⟩
            · have y0 := hq.k a0
              have y1 := hq.k a1
              have y2 := hq.k b0
              have y3 := hq.k b1
              have y4 := hq.k c0
              have y5 := hq.k c1
              have y6 := hq.k d0
              have y7 := hq.k d1
              go_wp2_with fail
              exact hK'
            go_simp
            refine hK _ ?_
            clear hK K
            refine tree_b rfl rfl rfl rfl _ rfl (by simp) (fun K hK => ?_)
            apply Exists.intro
            refine ⟨fun wq hq K' hK' => ?_, ?_⟩
            · have y0 := hq.k a0
              have y1 := hq.k a1
              have y2 := hq.k b0
              have y3 := hq.k b1
              have y4 := hq.k c0
              have y5 := hq.k c1
              have y6 := hq.k d0
              have y7 := hq.k d1
              go_wp2_with fail
              exact hK'
            go_simp
            refine hK _ ?_
            clear hK K
            refine tree_e rfl rfl (fun K hK => ?_)
            go_wp2_with fail
            refine (hT3.out _).mono ?_
            rintro e w16 ⟨rfl, hg16⟩
            go_wp2_with fail
            try go_simp
            refine hK _ _ ((by first | exact gr_trans (gr_trans hgW1 (gr_trans (gr_trans (gr_trans hg3 hg4) hg8) hg9)) hg16 | exact gr_trans hgW1 (gr_trans (gr_trans (gr_trans hg3 hg4) hg8) hg9) | trivial)) ?_
            clear hK K
            refine tree_e rfl rfl (fun K hK => ?_)
            go_wp2_with fail
            refine (hS3.out _).mono ?_
            rintro e w17 ⟨rfl, hg17⟩
            go_wp2_with fail
            try go_simp
            refine hK _ _ ((by first | exact gr_trans (gr_trans hgW1 (gr_trans (gr_trans (gr_trans (gr_trans hg3 hg4) hg8) hg9) hg16)) hg17 | exact gr_trans hgW1 (gr_trans (gr_trans (gr_trans (gr_trans hg3 hg4) hg8) hg9) hg16) | trivial)) ?_
            clear hK K
            refine tree_e0 (by kernel_rfl) rfl rfl (fun K hK => ?_)
            go_wp2_with fail
            refine (hT4.out _).mono ?_
            rintro e w21 ⟨rfl, hg21⟩
            go_wp2_with fail
            try go_simp
            refine hK _ _ trivial ?_
            clear hK K
            refine tree_e0 (by kernel_rfl) rfl rfl (fun K hK => ?_)
            go_wp2_with fail
            refine (hS4.out _).mono ?_
            rintro e w22 ⟨rfl, hg22⟩
            go_wp2_with fail
            try go_simp
            refine hK _ _ trivial ?_
            clear hK K
            refine tree_p rfl rfl rfl rfl _ rfl (by simp) (fun K hK => ?_)
            apply Exists.intro
            refine ⟨fun wq K' hK' => ?_, ?_⟩
            · go_wp2_with fail
              exact hK'
            go_simp
            refine hK _ ?_
            clear hK K
            refine tree_p rfl rfl rfl rfl _ rfl (by simp) (fun K hK => ?_)
            apply Exists.intro
            refine ⟨fun wq K' hK' => ?_, ?_⟩
            · go_wp2_with fail
              exact hK'
            go_simp
            refine hK _ ?_
            clear hK K
            refine tree_p rfl rfl rfl rfl _ rfl (by simp) (fun K hK => ?_)
            apply Exists.intro
            refine ⟨fun wq K' hK' => ?_, ?_⟩
            · go_wp2_with fail
              exact hK'
            go_simp
            refine hK _ ?_
            clear hK K
            refine tree_p rfl rfl rfl rfl _ rfl (by simp) (fun K hK => ?_)
            apply Exists.intro
            refine ⟨fun wq K' hK' => ?_, ?_⟩
            · go_wp2_with fail
              exact hK'
            go_simp
            refine hK _ ?_
            clear hK K
            refine tree_done ?_
            have hgE := gr_trans hgws (gr_trans hgW1 (gr_trans (gr_trans (gr_trans (gr_trans (gr_trans (gr_trans (gr_trans hg3 hg4) hg8) hg9) hg16) hg17) hg21) hg22))
            go_wp2_with fail
            go_ret
            exact ⟨ret_bool (by rw [hV.out]; first | rfl | simp), hgE⟩

end Go.Proofs.YtejmbaiioblfeaaGreatDoor

namespace Go.Bl
open Go
/-- cross and dot product -/
def crV (u v : Pt) : Int := u.x * v.y - u.y * v.x

def doV (u v : Pt) : Int := u.x * v.x + u.y * v.y

def subP (b a : Pt) : Pt := ⟨b.x - a.x, b.y - a.y⟩
/-- in the same direction -/
def parV (u v : Pt) : Prop := crV u v = 0 ∧ 0 < doV u v

theorem sq_pos {x : Int} (h : x ≠ 0) : 0 < x * x := by
  rcases Int.lt_or_gt_of_ne h with h | h
  · exact Int.mul_pos_of_neg_of_neg h h
  · exact Int.mul_pos h h

theorem sq_nn (x : Int) : 0 ≤ x * x := by
  by_cases h : x = 0
  · rw [h]; decide
  · have := sq_pos h; omega

theorem doV_self {u : Pt} (h : u.x ≠ 0 ∨ u.y ≠ 0) : 0 < doV u u := by
  unfold doV
  have h1 := sq_nn u.x
  have h2 := sq_nn u.y
  rcases h with h | h
  · have := sq_pos h; omega
  · have := sq_pos h; omega

theorem doV_ne {u v : Pt} (h : doV u v ≠ 0) : u.x ≠ 0 ∨ u.y ≠ 0 := by
  by_cases h1 : u.x = 0
  · by_cases h2 : u.y = 0
    · exfalso; apply h; unfold doV; rw [h1, h2, Int.zero_mul, Int.zero_mul]; rfl
    · exact .inr h2
  · exact .inl h1

theorem parV_ne {u v : Pt} (h : parV u v) : u.x ≠ 0 ∨ u.y ≠ 0 := doV_ne (v := v) (by have := h.2; omega)

theorem pos_of_mul {a b : Int} (hb : 0 < b) (h : 0 < a * b) : 0 < a := by
  rcases Int.lt_trichotomy a 0 with k | k | k
  · have := Int.mul_neg_of_neg_of_pos k hb; omega
  · rw [k, Int.zero_mul] at h; omega
  · exact k

def addP (a b : Pt) : Pt := ⟨a.x + b.x, a.y + b.y⟩

/-- of one sign -/
def ssg (a b : Int) : Prop := (0 < a ↔ 0 < b) ∧ (a < 0 ↔ b < 0)

theorem ssg_of {a b d e : Int} (hd : 0 < d) (he : 0 < e) (h : b * d = e * a) : ssg a b := by
  have p1 : 0 < a → 0 < e * a := fun k => Int.mul_pos he k
  have p2 : a < 0 → e * a < 0 := fun k => Int.mul_neg_of_pos_of_neg he k
  have p0 : a = 0 → e * a = 0 := fun k => by rw [k, Int.mul_zero]
  have q1 : 0 < b → 0 < b * d := fun k => Int.mul_pos k hd
  have q2 : b < 0 → b * d < 0 := fun k => Int.mul_neg_of_neg_of_pos k hd
  have q0 : b = 0 → b * d = 0 := fun k => by rw [k, Int.zero_mul]
  unfold ssg
  generalize b * d = s at *
  generalize e * a = t at *
  omega

theorem cr_id (u v x : Pt) : crV v x * doV u u = doV u v * crV u x - crV u v * doV u x := by unfold crV doV; grind

theorem par_cr {u v : Pt} (h : parV u v) (x : Pt) : ssg (crV u x) (crV v x) := by
  have e := cr_id u v x
  rw [h.1, Int.zero_mul, Int.sub_zero] at e
  exact ssg_of (doV_self (parV_ne h)) h.2 e

theorem par_x {u v : Pt} (h : parV u v) : ssg u.x v.x := by
  have := par_cr h ⟨0, 1⟩
  unfold crV at this
  simpa using this

theorem par_y {u v : Pt} (h : parV u v) : ssg u.y v.y := by
  have := par_cr h ⟨-1, 0⟩
  unfold crV at this
  simpa using this

theorem turn_cr2 (a b c : Pt) : turnP a b c = crV (subP b a) (subP c b) := by unfold turnP crV subP; grind
/-- a corner that is straight, and does not fold back, goes on -/
theorem par_of {a b c : Pt} (hz : turnP a b c = 0) (hf : foldB b a c = false) (h1 : a ≠ b) (h2 : b ≠ c) : parV (subP b a) (subP c b) := by
  have hcr : crV (subP b a) (subP c b) = 0 := by rw [← turn_cr2]; exact hz
  have hz' : turnP b a c = 0 := by rw [turn_flip a b c]; omega
  unfold foldB at hf
  rw [decide_eq_true hz', Bool.true_and, decide_eq_false_iff_not] at hf
  have e : doV (subP b a) (subP c b) = -((a.x - b.x) * (c.x - b.x) + (a.y - b.y) * (c.y - b.y)) := by unfold doV subP; grind
  have hu : (subP b a).x ≠ 0 ∨ (subP b a).y ≠ 0 := by
    unfold subP; simp only
    rcases Classical.em (b.x - a.x = 0) with k | k
    · refine .inr fun k2 => h1 ?_
      cases a; cases b; simp only [Pt.mk.injEq] at *; omega
    · exact .inl k
  have hw : (subP c b).x ≠ 0 ∨ (subP c b).y ≠ 0 := by
    unfold subP; simp only
    rcases Classical.em (c.x - b.x = 0) with k | k
    · refine .inr fun k2 => h2 ?_
      cases c; cases b; simp only [Pt.mk.injEq] at *; omega
    · exact .inl k
  generalize subP b a = u at *
  generalize subP c b = v at *
  have hd : doV u v ≠ 0 := by
    intro h0
    have e2 : doV u v * doV u v + crV u v * crV u v = doV u u * doV v v := by unfold doV crV; grind
    rw [h0, hcr] at e2
    have := Int.mul_pos (doV_self hu) (doV_self hw)
    omega
  exact ⟨hcr, by omega⟩

end Go.Bl

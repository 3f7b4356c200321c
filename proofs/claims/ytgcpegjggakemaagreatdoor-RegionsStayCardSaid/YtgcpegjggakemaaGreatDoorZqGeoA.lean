/- Contracts of functions that this seat's laws reach, each: what one call returns and what it leaves in memory; no condition beyond each theorem's own hypotheses. -/
import Derived.Test.YtgcpegjggakemaaGreatDoorZqRegF
import Derived.Test.YtgcpegjggakemaaGreatDoorZqRegGeo
import Derived.Test.YtgcpegjggakemaaGreatDoorZqPathA
import Derived.Test.YtgcpegjggakemaaGreatDoorZqFlowD
import Derived.Test.YtgcpegjggakemaaGreatDoorZqJm
set_option linter.unusedVariables false
set_option linter.unusedSimpArgs false
namespace Go.Bl
open Go
/-- sides of two rings that meet -/
def pairR (r q : List Pt) : Bool := (List.range r.length).any fun a => (List.range q.length).any fun b => meetR (cor r a) (cor r (a + 1)) (cor q b) (cor q (b + 1))

def pairsR (rs : List (List Pt)) : Bool := (List.range rs.length).any fun i => (List.range i).any fun k => pairR (rs.getD i []) (rs.getD k [])
/-- the reference's fault of a region -/
def regR (rs : List (List Pt)) : Int :=
  if 100 < rs.length ∨ 2000 < (flatK rs rs.length).length then 2
  else if scanN (fun k => ringR (rs.getD k [])) rs.length ≠ 0 then scanN (fun k => ringR (rs.getD k [])) rs.length
  else if pairsR rs then 13 else 0

theorem pairs_eq (rs : List (List Pt)) : pairsM (sidesK rs rs.length) = pairsR rs := by
  rw [Bool.eq_iff_iff, pairsM_iff]
  unfold pairsR pairR
  simp only [List.any_eq_true, List.mem_range]
  constructor
  · rintro ⟨x, hx, y, hy, ht⟩
    obtain ⟨i, hi, a, ha, rfl⟩ := mem_sidesK.1 hx
    obtain ⟨k, hk, b, hb, rfl⟩ := mem_sidesK.1 hy
    unfold tstS at ht
    simp only [Bool.and_eq_true, bne_iff_ne, ne_eq] at ht
    obtain ⟨hn, hm⟩ := ht
    rcases Nat.lt_trichotomy i k with hl | hl | hl
    · exact ⟨k, hk, i, hl, b, hb, a, ha, by rw [← meetM_eq, meetM_comm]; exact hm⟩
    · subst hl; exact absurd rfl hn
    · exact ⟨i, hi, k, hl, a, ha, b, hb, by rw [← meetM_eq]; exact hm⟩
  · rintro ⟨i, hi, k, hk, a, ha, b, hb, hm⟩
    refine ⟨_, mem_sidesK.2 ⟨i, hi, a, ha, rfl⟩, _, mem_sidesK.2 ⟨k, by omega, b, hb, rfl⟩, ?_⟩
    unfold tstS
    simp only [Bool.and_eq_true, bne_iff_ne, ne_eq]
    exact ⟨by omega, by rw [meetM_eq]; exact hm⟩

theorem regF_eq (rs : List (List Pt)) : regF rs = regR rs := by
  unfold regF regR
  rw [pairs_eq]
  have : (fun k => ringF (rs.getD k [])) = fun k => ringR (rs.getD k []) := by funext k; exact ringF_eq _
  rw [this]

end Go.Bl

namespace Go.Bl
open Go
/-- a side of a ring, as the reference has it -/
structure Sg where
  a : Pt
  b : Pt
deriving DecidableEq

instance : Inhabited Sg := ⟨⟨default, default⟩⟩

instance : Enc Sg where
  sz := 4
  rep := fun _ _ p cs => cs = [.int .i64 p.a.x, .int .i64 p.a.y, .int .i64 p.b.x, .int .i64 p.b.y]
  len := by rintro w lo x cs rfl; rfl
  one := by rintro w lo x cs rfl u hu; simp at hu; rcases hu with rfl | rfl | rfl | rfl <;> rfl
  keep := fun h _ => h
  mono := fun h _ => h

instance : Flat Sg := ⟨fun h => h, by decide⟩

def segK (r : List Pt) (k : Nat) : List Sg := (List.range k).map fun k => ⟨cor r k, cor r (k + 1)⟩

theorem segK_snoc (r : List Pt) (k : Nat) : segK r (k + 1) = segK r k ++ [⟨cor r k, cor r (k + 1)⟩] := by unfold segK; rw [List.range_succ, List.map_append]; rfl

theorem segK_len (r : List Pt) (k : Nat) : (segK r k).length = k := by simp [segK]

theorem segK_get (r : List Pt) (n : Nat) {k : Nat} (h : k < (segK r n).length) : (segK r n)[k] = ⟨cor r k, cor r (k + 1)⟩ := by simp [segK]

end Go.Bl
namespace Go.Proofs.YtgcpegjggakemaaGreatDoor
open Go Go.RowKit Go.Bl

set_option maxHeartbeats 800000 in
theorem turnRef_any (a b c : Pt) (w : World) (ha : bdP a) (hb : bdP b) (hc : bdP c) :
    Calls Tryz.prog 147 #[(.agg #[.int .i64 (a).x, .int .i64 (a).y]), (.agg #[.int .i64 (b).x, .int .i64 (b).y]), (.agg #[.int .i64 (c).x, .int .i64 (c).y])] w fun e w' => e = .returned (.int .i64 (turnP a b c)) ∧ w.grownBy w' none := by
  unfold bdP at ha hb hc
  have h1 := mul_pt (a := b.x - a.x) (b := c.y - a.y) (by omega) (by omega)
  have h2 := mul_pt (a := b.y - a.y) (b := c.x - a.x) (by omega) (by omega)
  have hV : Hid (turnP a b c = (b.x - a.x) * (c.y - a.y) - (b.y - a.y) * (c.x - a.x)) := rfl
  go_enter Tryz.func147, Tryz.ntmps147
  go_wp2_with fail
  go_ret
  exact ⟨ret_int hV.out.symm, (by repeat (first | exact World.grownBy.refl _ _ | assumption | refine gr_alloc ?_ _ | (apply gr_tail; assumption) | refine gr_drewN ?_ _ | refine gr_drew ?_))⟩

set_option maxHeartbeats 4000000 in
set_option maxRecDepth 100000 in
theorem onRef_any (p a b : Pt) (w : World) (hp : bdP p) (ha : bdP a) (hb : bdP b) :
    Calls Tryz.prog 144 #[(.agg #[.int .i64 (p).x, .int .i64 (p).y]), (.agg #[.int .i64 (a).x, .int .i64 (a).y]), (.agg #[.int .i64 (b).x, .int .i64 (b).y])] w fun e w' => e = .returned (.bool (onB p a b)) ∧ w.grownBy w' none := by
  have hT := hide fun w => turnRef_any a b p w ha hb hp
  have hV : Hid (onB p a b = (decide (turnP a b p = 0) && (inB p.x (min a.x b.x) (max a.x b.x) && inB p.y (min a.y b.y) (max a.y b.y)))) := rfl
  have hI1 := hide fun w => in_any p.x (min a.x b.x) (max a.x b.x) w
  have hI2 := hide fun w => in_any p.y (min a.y b.y) (max a.y b.y) w
  generalize inB p.x (min a.x b.x) (max a.x b.x) = i1 at *
  generalize inB p.y (min a.y b.y) (max a.y b.y) = i2 at *
  generalize turnP a b p = t at *
  clear hp ha hb
  go_enter Tryz.func144, Tryz.ntmps144
  go_upto_region 1 with fail
  obtain ⟨W, hW⟩ : ∃ W, W = ((w.alloc (.cells #[.int .i64 p.x, .int .i64 p.y] 30)).alloc (.cells #[.int .i64 a.x, .int .i64 a.y] 30)).alloc (.cells #[.int .i64 b.x, .int .i64 b.y] 30) := ⟨_, rfl⟩
  have hgW : w.grownBy W none := by rw [hW]; exact (by repeat (first | exact World.grownBy.refl _ _ | assumption | refine gr_alloc ?_ _ | (apply gr_tail; assumption) | refine gr_drewN ?_ _ | refine gr_drew ?_))
  have a0 : W.cell? ⟨w.heap.size, 0, none⟩ = some (.int .i64 (p).x) := by rw [hW]; go_simp
  have a1 : W.cell? ⟨w.heap.size, 1, none⟩ = some (.int .i64 (p).y) := by rw [hW]; go_simp
  have b0 : W.cell? ⟨w.heap.size + 1, 0, none⟩ = some (.int .i64 (a).x) := by rw [hW]; go_simp
  have b1 : W.cell? ⟨w.heap.size + 1, 1, none⟩ = some (.int .i64 (a).y) := by rw [hW]; go_simp
  have c0 : W.cell? ⟨w.heap.size + 1 + 1, 0, none⟩ = some (.int .i64 (b).x) := by rw [hW]; go_simp
  have c1 : W.cell? ⟨w.heap.size + 1 + 1, 1, none⟩ = some (.int .i64 (b).y) := by rw [hW]; go_simp
  rw [← hW]
  clear hW
  go_wp2_with fail
  refine (hT.out _).mono ?_
  rintro e w1 ⟨rfl, hg1⟩
  replace a0 := hg1.k a0
  replace a1 := hg1.k a1
  replace b0 := hg1.k b0
  replace b1 := hg1.k b1
  replace c0 := hg1.k c0
  replace c1 := hg1.k c1
  have hgw := gr_trans hgW hg1
  rcases h0 : decide (t = 0) with _ | _
  · have hb : (t == 0) = false := by simpa using h0
    rw [h0] at hV
    clear h0
    go_wp2_with fail
    go_ret
    exact ⟨ret_bool (by rw [hV.out, Bool.false_and]), hgw⟩
  · have hb : (t == 0) = true := by simpa using h0
    rw [h0] at hV
    clear h0
    go_wp2_with fail
    refine (hI1.out _).mono ?_
    rintro e w2 ⟨rfl, rfl⟩
    cases i1 with
    | false =>
      go_wp2_with fail
      go_ret
      exact ⟨ret_bool (by rw [hV.out]; rfl), hgw⟩
    | true =>
      go_wp2_with fail
      refine (hI2.out _).mono ?_
      rintro e w2 ⟨rfl, rfl⟩
      go_wp2_with fail
      go_ret
      exact ⟨ret_bool (by rw [hV.out]; rfl), hgw⟩

def sgnI (n : Int) : Int := Lib.compareInt n 0

theorem sgn_cases (n : Int) : (n < 0 ∧ sgnI n = -1) ∨ (n = 0 ∧ sgnI n = 0) ∨ (0 < n ∧ sgnI n = 1) := by
  unfold sgnI Lib.compareInt
  rcases Int.lt_trichotomy n 0 with h | h | h
  · left; simp [h]
  · right; left; simp [h]
  · right; right
    refine ⟨h, ?_⟩
    rw [if_neg (by omega), if_pos (by omega)]

theorem sgn_cross (m n : Int) : decide (sgnI m * sgnI n < 0) = crossB m n := by
  unfold crossB
  rw [decide_eq_decide]
  rcases sgn_cases m with ⟨h1, e1⟩ | ⟨h1, e1⟩ | ⟨h1, e1⟩ <;> rcases sgn_cases n with ⟨h2, e2⟩ | ⟨h2, e2⟩ | ⟨h2, e2⟩ <;> rw [e1, e2] <;> omega

set_option maxHeartbeats 400000 in
theorem signRef_any (n : Int) (w : World) :
    Calls Tryz.prog 146 #[.int .i64 n] w fun e w' => e = .returned (.int .i64 (sgnI n)) ∧ w.grownBy w' none := by
  have hcon := hide fun W' => Tryz.cmp_Compare_int n 0 W'
  have hV : Hid (sgnI n = Lib.compareInt n 0) := rfl
  rw [← hV.out] at hcon
  generalize sgnI n = r at hcon hV ⊢
  go_enter Tryz.func146, Tryz.ntmps146
  go_wp2_with fail
  refine (hcon.out _).mono ?_
  rintro e w' ⟨rfl, rfl⟩
  go_wp2_with fail
  go_ret
  exact ⟨rfl, (by repeat (first | exact World.grownBy.refl _ _ | assumption | refine gr_alloc ?_ _ | (apply gr_tail; assumption) | refine gr_drewN ?_ _ | refine gr_drew ?_))⟩

set_option maxHeartbeats 8000000 in
set_option maxRecDepth 100000 in
theorem meetRef_any (a b c d : Pt) (w : World) (ha : bdP a) (hb : bdP b) (hc : bdP c) (hd : bdP d) :
    Calls Tryz.prog 75 #[(.agg #[.int .i64 (a).x, .int .i64 (a).y]), (.agg #[.int .i64 (b).x, .int .i64 (b).y]), (.agg #[.int .i64 (c).x, .int .i64 (c).y]), (.agg #[.int .i64 (d).x, .int .i64 (d).y])] w fun e w' => e = .returned (.bool (meetR a b c d)) ∧ w.grownBy w' none := by
  have hO1 := hide fun w => onRef_any a c d w ha hc hd
  have hO2 := hide fun w => onRef_any b c d w hb hc hd
  have hO3 := hide fun w => onRef_any c a b w hc ha hb
  have hO4 := hide fun w => onRef_any d a b w hd ha hb
  have hT1 := hide fun w => turnRef_any a b c w ha hb hc
  have hT2 := hide fun w => turnRef_any a b d w ha hb hd
  have hT3 := hide fun w => turnRef_any c d a w hc hd ha
  have hT4 := hide fun w => turnRef_any c d b w hc hd hb
  have hS1 := hide (signRef_any (turnP a b c))
  have hS2 := hide (signRef_any (turnP a b d))
  have hS3 := hide (signRef_any (turnP c d a))
  have hS4 := hide (signRef_any (turnP c d b))
  have hV : Hid (meetR a b c d = ((onB a c d || onB b c d || onB c a b || onB d a b) || (decide (sgnI (turnP a b c) * sgnI (turnP a b d) < 0) && decide (sgnI (turnP c d a) * sgnI (turnP c d b) < 0)))) := by
    rw [Hid, sgn_cross, sgn_cross]; rfl
  have hb1 : ∀ n, -1 ≤ sgnI n ∧ sgnI n ≤ 1 := fun n => by rcases sgn_cases n with h | h | h <;> omega
  have hm1 : ∀ m n, wrap64 (sgnI m * sgnI n) = sgnI m * sgnI n := fun m n => by
    have := mulm_bd (m := 1) (n := 1) (hb1 m) (hb1 n) (by decide)
    exact i64_in (by omega)
  have hmA := hm1 (turnP a b c) (turnP a b d)
  have hmB := hm1 (turnP c d a) (turnP c d b)
  clear hm1 hb1
  generalize sgnI (turnP a b c) = s1 at *
  generalize sgnI (turnP a b d) = s2 at *
  generalize sgnI (turnP c d a) = s3 at *
  generalize sgnI (turnP c d b) = s4 at *
  generalize turnP a b c = t1 at *
  generalize turnP a b d = t2 at *
  generalize turnP c d a = t3 at *
  generalize turnP c d b = t4 at *
  generalize onB a c d = o1 at *
  generalize onB b c d = o2 at *
  generalize onB c a b = o3 at *
  generalize onB d a b = o4 at *
  clear ha hb hc hd
  go_enter Tryz.func75, Tryz.ntmps75
  go_upto_region 1 with fail
  obtain ⟨W, hW⟩ : ∃ W, W = (((w.alloc (.cells #[.int .i64 a.x, .int .i64 a.y] 30)).alloc (.cells #[.int .i64 b.x, .int .i64 b.y] 30)).alloc (.cells #[.int .i64 c.x, .int .i64 c.y] 30)).alloc (.cells #[.int .i64 d.x, .int .i64 d.y] 30) := ⟨_, rfl⟩
  have hgW : w.grownBy W none := by rw [hW]; exact (by repeat (first | exact World.grownBy.refl _ _ | assumption | refine gr_alloc ?_ _ | (apply gr_tail; assumption) | refine gr_drewN ?_ _ | refine gr_drew ?_))
  have a0 : W.cell? ⟨w.heap.size, 0, none⟩ = some (.int .i64 (a).x) := by rw [hW]; go_simp
  have a1 : W.cell? ⟨w.heap.size, 1, none⟩ = some (.int .i64 (a).y) := by rw [hW]; go_simp
  have b0 : W.cell? ⟨w.heap.size + 1, 0, none⟩ = some (.int .i64 (b).x) := by rw [hW]; go_simp
  have b1 : W.cell? ⟨w.heap.size + 1, 1, none⟩ = some (.int .i64 (b).y) := by rw [hW]; go_simp
  have c0 : W.cell? ⟨w.heap.size + 1 + 1, 0, none⟩ = some (.int .i64 (c).x) := by rw [hW]; go_simp
  have c1 : W.cell? ⟨w.heap.size + 1 + 1, 1, none⟩ = some (.int .i64 (c).y) := by rw [hW]; go_simp
  have d0 : W.cell? ⟨w.heap.size + 1 + 1 + 1, 0, none⟩ = some (.int .i64 d.x) := by rw [hW]; go_simp
  have d1 : W.cell? ⟨w.heap.size + 1 + 1 + 1, 1, none⟩ = some (.int .i64 d.y) := by rw [hW]; go_simp
  have hC : Hid (∀ wx, W.grownBy wx none → (wx.cell? ⟨w.heap.size, 0, none⟩ = some (.int .i64 a.x) ∧ wx.cell? ⟨w.heap.size, 1, none⟩ = some (.int .i64 a.y)) ∧ (wx.cell? ⟨w.heap.size + 1, 0, none⟩ = some (.int .i64 b.x) ∧ wx.cell? ⟨w.heap.size + 1, 1, none⟩ = some (.int .i64 b.y)) ∧ (wx.cell? ⟨w.heap.size + 1 + 1, 0, none⟩ = some (.int .i64 c.x) ∧ wx.cell? ⟨w.heap.size + 1 + 1, 1, none⟩ = some (.int .i64 c.y)) ∧ (wx.cell? ⟨w.heap.size + 1 + 1 + 1, 0, none⟩ = some (.int .i64 d.x) ∧ wx.cell? ⟨w.heap.size + 1 + 1 + 1, 1, none⟩ = some (.int .i64 d.y))) :=
    fun wx hg => ⟨⟨hg.k a0, hg.k a1⟩, ⟨hg.k b0, hg.k b1⟩, ⟨hg.k c0, hg.k c1⟩, hg.k d0, hg.k d1⟩
  rw [← hW]
  clear hW
  go_wp2_with fail
  refine (hO1.out _).mono ?_
  rintro e w1 ⟨rfl, hg1⟩
  clear a0 a1 b0 b1 c0 c1 d0 d1
  obtain ⟨⟨a0, a1⟩, ⟨b0, b1⟩, ⟨c0, c1⟩, d0, d1⟩ := hC.out _ hg1
  cases o1 with
  | true =>
    go_wp2_with fail
    go_ret
    exact ⟨ret_bool (by rw [hV.out]; simp), gr_trans hgW hg1⟩
  | false =>
    go_wp2_with fail
    refine (hO2.out _).mono ?_
    rintro e w2 ⟨rfl, hg2⟩
    replace hg2 := gr_trans hg1 hg2
    clear a0 a1 b0 b1 c0 c1 d0 d1
    obtain ⟨⟨a0, a1⟩, ⟨b0, b1⟩, ⟨c0, c1⟩, d0, d1⟩ := hC.out _ hg2
    cases o2 with
    | true =>
      go_wp2_with fail
      go_ret
      exact ⟨ret_bool (by rw [hV.out]; simp), gr_trans hgW hg2⟩
    | false =>
      go_wp2_with fail
      refine (hO3.out _).mono ?_
      rintro e w3 ⟨rfl, hg3⟩
      replace hg3 := gr_trans hg2 hg3
      clear a0 a1 b0 b1 c0 c1 d0 d1
      obtain ⟨⟨a0, a1⟩, ⟨b0, b1⟩, ⟨c0, c1⟩, d0, d1⟩ := hC.out _ hg3
      cases o3 with
      | true =>
        go_wp2_with fail
        go_ret
        exact ⟨ret_bool (by rw [hV.out]; simp), gr_trans hgW hg3⟩
      | false =>
        go_wp2_with fail
        refine (hO4.out _).mono ?_
        rintro e ws ⟨rfl, hg4⟩
        have hgs := gr_trans hg3 hg4
        have hgws := gr_trans hgW hgs
        clear a0 a1 b0 b1 c0 c1 d0 d1
        obtain ⟨⟨a0, a1⟩, ⟨b0, b1⟩, ⟨c0, c1⟩, d0, d1⟩ := hC.out _ hgs
        clear hg1 hg2 hg3 hg4 hgs hC hgW hO1 hO2 hO3 hO4
        cases o4 with
        | true =>
          go_wp2_with fail
          go_ret
          exact ⟨ret_bool (by rw [hV.out]; simp), hgws⟩
        | false =>
          rcases hx : decide (s1 * s2 < 0) with _ | _
          · rw [hx] at hV
            go_wp2_with fail
            refine wp_region_tree (fun wx => ws.grownBy wx none) [1, 1, 1, 0, 0, 1, 1, 1, 0, 0, 2, 2, 2, 1, 1, 1, 0, 0, 1, 1, 1, 0, 0, 2, 2, 2, 2] (.bl 0 (.bl 1 (.bl 2 (.bl 5 (.bl 6 (.bl 7 (.ef 3 (.ef 4 (.ef 8 (.ef 9 (.bl 10 (.bl 11 (.bl 12 (.bl 13 (.bl 14 (.bl 15 (.bl 18 (.bl 19 (.bl 20 (.ef 16 (.ef 17 (.ef 21 (.ef 22 (.bl 23 (.bl 24 (.bl 25 (.bl 26 .done))))))))))))))))))))))))))) (by kernel_rfl) (by kernel_rfl) (gr_drew (World.grownBy.refl _ _)) ?_
            obtain ⟨W1, hW1⟩ : ∃ x, x = (ws).drew := ⟨_, rfl⟩
            rw [← hW1]
            have hgW1 : (ws).grownBy W1 none := by rw [hW1]; exact gr_drew (World.grownBy.refl _ _)
            clear hW1
            refine tree_b rfl rfl rfl rfl _ rfl (by simp) (fun K hK => ?_)
            apply Exists.intro
            refine ⟨fun wq hq K' hK' => ?_, ?_⟩
            · have y0 := hq.k a0
              have y1 := hq.k a1
              have y2 := hq.k b0
              have y3 := hq.k b1
              have y4 := hq.k c0
              have y5 := hq.k c1
              have y6 := hq.k d0
              have y7 := hq.k d1
              go_wp2_with fail
              exact hK'
            go_simp
            refine hK _ ?_
            clear hK K
            refine tree_b rfl rfl rfl rfl _ rfl (by simp) (fun K hK => ?_)
            apply Exists.intro
            refine ⟨fun wq hq K' hK' => ?_, ?_⟩
            · have y0 := hq.k a0
              have y1 := hq.k a1
              have y2 := hq.k b0
              have y3 := hq.k b1
              have y4 := hq.k c0
              have y5 := hq.k c1
              have y6 := hq.k d0
              have y7 := hq.k d1
              go_wp2_with fail
              exact hK'
            go_simp
            refine hK _ ?_
            clear hK K
            refine tree_b rfl rfl rfl rfl _ rfl (by simp) (fun K hK => ?_)
            apply Exists.intro
            refine ⟨fun wq hq K' hK' => ?_, ?_⟩
            · have y0 := hq.k a0
              have y1 := hq.k a1
              have y2 := hq.k b0
              have y3 := hq.k b1
              have y4 := hq.k c0
              have y5 := hq.k c1
              have y6 := hq.k d0
              have y7 := hq.k d1
              go_wp2_with fail
              exact hK'
            go_simp
            refine hK _ ?_
            clear hK K
            refine tree_b rfl rfl rfl rfl _ rfl (by simp) (fun K hK => ?_)
            apply Exists.intro
            refine ⟨fun wq hq K' hK' => ?_, ?_⟩
            · have y0 := hq.k a0
              have y1 := hq.k a1
              have y2 := hq.k b0
              have y3 := hq.k b1
              have y4 := hq.k c0
              have y5 := hq.k c1
              have y6 := hq.k d0
              have y7 := hq.k d1
              go_wp2_with fail
              exact hK'
            go_simp
            refine hK _ ?_
            clear hK K
            refine tree_b rfl rfl rfl rfl _ rfl (by simp) (fun K hK => ?_)
            apply Exists.intro
            refine ⟨fun wq hq K' hK' => ?_, ?_⟩
            · have y0 := hq.k a0
              have y1 := hq.k a1
              have y2 := hq.k b0
              have y3 := hq.k b1
              have y4 := hq.k c0
              have y5 := hq.k c1
              have y6 := hq.k d0
              have y7 := hq.k d1
              go_wp2_with fail
              exact hK'
            go_simp
            refine hK _ ?_
            clear hK K
            refine tree_b rfl rfl rfl rfl _ rfl (by simp) (fun K hK => ?_)
            apply Exists.intro
            refine ⟨fun wq hq K' hK' => ?_, ?_⟩
            · have y0 := hq.k a0
              have y1 := hq.k a1
              have y2 := hq.k b0
              have y3 := hq.k b1
              have y4 := hq.k c0
              have y5 := hq.k c1
              have y6 := hq.k d0
              have y7 := hq.k d1
              go_wp2_with fail
              exact hK'
            go_simp
            refine hK _ ?_
            clear hK K
            refine tree_e rfl rfl (fun K hK => ?_)
            go_wp2_with fail
            refine (hT1.out _).mono ?_
            rintro e w3 ⟨rfl, hg3⟩
            go_wp2_with fail
            try go_simp
            refine hK _ _ ((by first | exact gr_trans (gr_trans hgW1 (World.grownBy.refl _ _)) hg3 | exact gr_trans hgW1 (World.grownBy.refl _ _) | trivial)) ?_
            clear hK K
            refine tree_e rfl rfl (fun K hK => ?_)
            go_wp2_with fail
            refine (hS1.out _).mono ?_
            rintro e w4 ⟨rfl, hg4⟩
            go_wp2_with fail
            try go_simp
            refine hK _ _ ((by first | exact gr_trans (gr_trans hgW1 hg3) hg4 | exact gr_trans hgW1 hg3 | trivial)) ?_
            clear hK K
            refine tree_e rfl rfl (fun K hK => ?_)
            go_wp2_with fail
            refine (hT2.out _).mono ?_
            rintro e w8 ⟨rfl, hg8⟩
            go_wp2_with fail
            try go_simp
            refine hK _ _ ((by first | exact gr_trans (gr_trans hgW1 (gr_trans hg3 hg4)) hg8 | exact gr_trans hgW1 (gr_trans hg3 hg4) | trivial)) ?_
            clear hK K
            refine tree_e rfl rfl (fun K hK => ?_)
            go_wp2_with fail
            refine (hS2.out _).mono ?_
            rintro e w9 ⟨rfl, hg9⟩
            go_wp2_with fail
            try go_simp
            refine hK _ _ ((by first | exact gr_trans (gr_trans hgW1 (gr_trans (gr_trans hg3 hg4) hg8)) hg9 | exact gr_trans hgW1 (gr_trans (gr_trans hg3 hg4) hg8) | trivial)) ?_
            clear hK K
            refine tree_p rfl rfl rfl rfl _ rfl (by simp) (fun K hK => ?_)
            apply Exists.intro
            refine ⟨fun wq K' hK' => ?_, ?_⟩
            · go_wp2_with fail
              exact hK'
            go_simp
            refine hK _ ?_
            clear hK K
            refine tree_p rfl rfl rfl rfl _ rfl (by simp) (fun K hK => ?_)
            apply Exists.intro
            refine ⟨fun wq K' hK' => ?_, ?_⟩
            · go_wp2_with fail
              exact hK'
            go_simp
            refine hK _ ?_
            clear hK K
            refine tree_p rfl rfl rfl rfl _ rfl (by simp) (fun K hK => ?_)
            apply Exists.intro
            refine ⟨fun wq K' hK' => ?_, ?_⟩
            · go_wp2_with fail
              exact hK'
            go_simp
            refine hK _ ?_
            clear hK K
            refine tree_skip rfl rfl ?_
            try go_simp
            refine tree_skip rfl rfl ?_
            try go_simp
            refine tree_skip rfl rfl ?_
            try go_simp
            refine tree_skip rfl rfl ?_
            try go_simp
            refine tree_skip rfl rfl ?_
            try go_simp
            refine tree_skip rfl rfl ?_
            try go_simp
            refine tree_eskip (fun _ => (by first | exact gr_trans (gr_trans hgW1 (gr_trans (gr_trans (gr_trans hg3 hg4) hg8) hg9)) hg16 | exact gr_trans hgW1 (gr_trans (gr_trans (gr_trans hg3 hg4) hg8) hg9) | trivial)) rfl rfl ?_
            try go_simp
            refine tree_eskip (fun _ => (by first | exact gr_trans (gr_trans hgW1 (gr_trans (gr_trans (gr_trans hg3 hg4) hg8) hg9)) hg17 | exact gr_trans hgW1 (gr_trans (gr_trans (gr_trans hg3 hg4) hg8) hg9) | trivial)) rfl rfl ?_
            try go_simp
            refine tree_eskip0 (by kernel_rfl) rfl rfl ?_
            try go_simp
            refine tree_eskip0 (by kernel_rfl) rfl rfl ?_
            try go_simp
            refine tree_skip rfl rfl ?_
            try go_simp
            refine tree_skip rfl rfl ?_
            try go_simp
            refine tree_p rfl rfl rfl rfl _ rfl (by simp) (fun K hK => ?_)
            apply Exists.intro
            refine ⟨fun wq K' hK' => ?_, ?_⟩
            · go_wp2_with fail
              exact hK'
            go_simp
            refine hK _ ?_
            clear hK K
            refine tree_p rfl rfl rfl rfl _ rfl (by simp) (fun K hK => ?_)
            apply Exists.intro
            refine ⟨fun wq K' hK' => ?_, ?_⟩
            · go_wp2_with fail
              exact hK'
            go_simp
            refine hK _ ?_
            clear hK K
            refine tree_done ?_
            have hgE := gr_trans hgws (gr_trans hgW1 (gr_trans (gr_trans (gr_trans hg3 hg4) hg8) hg9))
            go_wp2_with fail
            go_ret
            exact ⟨ret_bool (by rw [hV.out]; first | rfl | simp), hgE⟩
          · rw [hx] at hV
            go_wp2_with fail
            refine wp_region_tree (fun wx => ws.grownBy wx none) [1, 1, 1, 0, 0, 1, 1, 1, 0, 0, 2, 2, 2, 1, 1, 1, 0, 0, 1, 1, 1, 0, 0, 2, 2, 2, 2] (.bl 0 (.bl 1 (.bl 2 (.bl 5 (.bl 6 (.bl 7 (.ef 3 (.ef 4 (.ef 8 (.ef 9 (.bl 10 (.bl 11 (.bl 12 (.bl 13 (.bl 14 (.bl 15 (.bl 18 (.bl 19 (.bl 20 (.ef 16 (.ef 17 (.ef 21 (.ef 22 (.bl 23 (.bl 24 (.bl 25 (.bl 26 .done))))))))))))))))))))))))))) (by kernel_rfl) (by kernel_rfl) (gr_drew (World.grownBy.refl _ _)) ?_
            obtain ⟨W1, hW1⟩ : ∃ x, x = (ws).drew := ⟨_, rfl⟩
            rw [← hW1]
            have hgW1 : (ws).grownBy W1 none := by rw [hW1]; exact gr_drew (World.grownBy.refl _ _)
            clear hW1
            refine tree_b rfl rfl rfl rfl _ rfl (by simp) (fun K hK => ?_)
            apply Exists.intro
            refine ⟨fun wq hq K' hK' => ?_, ?_⟩
            · have y0 := hq.k a0
              have y1 := hq.k a1
              have y2 := hq.k b0
              have y3 := hq.k b1
              have y4 := hq.k c0
              have y5 := hq.k c1
              have y6 := hq.k d0
              have y7 := hq.k d1
              go_wp2_with fail
              exact hK'
            go_simp
            refine hK _ ?_
            clear hK K
            refine tree_b rfl rfl rfl rfl _ rfl (by simp) (fun K hK => ?_)
            apply Exists.intro
            refine ⟨fun wq hq K' hK' => ?_, ?_⟩
            · have y0 := hq.k a0
              have y1 := hq.k a1
              have y2 := hq.k b0
              have y3 := hq.k b1
              have y4 := hq.k c0
              have y5 := hq.k c1
              have y6 := hq.k d0
              have y7 := hq.k d1
              go_wp2_with fail
              exact hK'
            go_simp
            refine hK _ ?_
            clear hK K
            refine tree_b rfl rfl rfl rfl _ rfl (by simp) (fun K hK => ?_)
            apply Exists.intro
            refine ⟨fun wq hq K' hK' => ?_, ?_⟩
            · have y0 := hq.k a0
              have y1 := hq.k a1
              have y2 := hq.k b0
              have y3 := hq.k b1
              have y4 := hq.k c0
              have y5 := hq.k c1
              have y6 := hq.k d0
              have y7 := hq.k d1
              go_wp2_with fail
              exact hK'
            go_simp
            refine hK _ ?_
            clear hK K
            refine tree_b rfl rfl rfl rfl _ rfl (by simp) (fun K hK => ?_)
            apply Exists.intro
            refine ⟨fun wq hq K' hK' => ?_, ?_⟩
            · have y0 := hq.k a0
              have y1 := hq.k a1
              have y2 := hq.k b0
              have y3 := hq.k b1
              have y4 := hq.k c0
              have y5 := hq.k c1
              have y6 := hq.k d0
              have y7 := hq.k d1
              go_wp2_with fail
              exact hK'
            go_simp
            refine hK _ ?_
            clear hK K
            refine tree_b rfl rfl rfl rfl _ rfl (by simp) (fun K hK => ?_)
            apply Exists.intro
            refine ⟨fun wq hq K' hK' => ?_, ?_⟩
            · have y0 := hq.k a0
              have y1 := hq.k a1
              have y2 := hq.k b0
              have y3 := hq.k b1
              have y4 := hq.k c0
              have y5 := hq.k c1
              have y6 := hq.k d0
              have y7 := hq.k d1
              go_wp2_with fail
              exact hK'
            go_simp
            refine hK _ ?_
            clear hK K
            refine tree_b rfl rfl rfl rfl _ rfl (by simp) (fun K hK => ?_)
            apply Exists.intro
            refine ⟨fun wq hq K' hK' => ?_, ?_⟩
            · have y0 := hq.k a0
              have y1 := hq.k a1
              have y2 := hq.k b0
              have y3 := hq.k b1
              have y4 := hq.k c0
              have y5 := hq.k c1
              have y6 := hq.k d0
              have y7 := hq.k d1
              go_wp2_with fail
              exact hK'
            go_simp
            refine hK _ ?_
            clear hK K
            refine tree_e rfl rfl (fun K hK => ?_)
            go_wp2_with fail
            refine (hT1.out _).mono ?_
            rintro e w3 ⟨rfl, hg3⟩
            go_wp2_with fail
            try go_simp
            refine hK _ _ ((by first | exact gr_trans (gr_trans hgW1 (World.grownBy.refl _ _)) hg3 | exact gr_trans hgW1 (World.grownBy.refl _ _) | trivial)) ?_
            clear hK K
            refine tree_e rfl rfl (fun K hK => ?_)
            go_wp2_with fail
            refine (hS1.out _).mono ?_
            rintro e w4 ⟨rfl, hg4⟩
            go_wp2_with fail
            try go_simp
            refine hK _ _ ((by first | exact gr_trans (gr_trans hgW1 hg3) hg4 | exact gr_trans hgW1 hg3 | trivial)) ?_
            clear hK K
            refine tree_e rfl rfl (fun K hK => ?_)
            go_wp2_with fail
            refine (hT2.out _).mono ?_
            rintro e w8 ⟨rfl, hg8⟩
            go_wp2_with fail
            try go_simp
            refine hK _ _ ((by first | exact gr_trans (gr_trans hgW1 (gr_trans hg3 hg4)) hg8 | exact gr_trans hgW1 (gr_trans hg3 hg4) | trivial)) ?_
            clear hK K
            refine tree_e rfl rfl (fun K hK => ?_)
            go_wp2_with fail
            refine (hS2.out _).mono ?_
            rintro e w9 ⟨rfl, hg9⟩
            go_wp2_with fail
            try go_simp
            refine hK _ _ ((by first | exact gr_trans (gr_trans hgW1 (gr_trans (gr_trans hg3 hg4) hg8)) hg9 | exact gr_trans hgW1 (gr_trans (gr_trans hg3 hg4) hg8) | trivial)) ?_
            clear hK K
            refine tree_p rfl rfl rfl rfl _ rfl (by simp) (fun K hK => ?_)
            apply Exists.intro
            refine ⟨fun wq K' hK' => ?_, ?_⟩
            · go_wp2_with fail
              exact hK'
            go_simp
            refine hK _ ?_
            clear hK K
            refine tree_p rfl rfl rfl rfl _ rfl (by simp) (fun K hK => ?_)
            apply Exists.intro
            refine ⟨fun wq K' hK' => ?_, ?_⟩
            · go_wp2_with fail
              exact hK'
            go_simp
            refine hK _ ?_
            clear hK K
            refine tree_p rfl rfl rfl rfl _ rfl (by simp) (fun K hK => ?_)
            apply Exists.intro
            refine ⟨fun wq K' hK' => ?_, ?_⟩
            · go_wp2_with fail
              exact hK'
            go_simp
            refine hK _ ?_
            clear hK K
            refine tree_b rfl rfl rfl rfl _ rfl (by simp) (fun K hK => ?_)
            apply Exists.intro
            refine ⟨fun wq hq K' hK' => ?_, ?_⟩
            · have y0 := hq.k a0
              have y1 := hq.k a1
              have y2 := hq.k b0
              have y3 := hq.k b1
              have y4 := hq.k c0
              have y5 := hq.k c1
              have y6 := hq.k d0
              have y7 := hq.k d1
              go_wp2_with fail
              exact hK'
            go_simp
            refine hK _ ?_
            clear hK K
            refine tree_b rfl rfl rfl rfl _ rfl (by simp) (fun K hK => ?_)
            apply Exists.intro
            refine ⟨fun wq hq K' hK' => ?_, ?_⟩
            · have y0 := hq.k a0
              have y1 := hq.k a1
              have y2 := hq.k b0
              have y3 := hq.k b1
              have y4 := hq.k c0
              have y5 := hq.k c1
              have y6 := hq.k d0
              have y7 := hq.k d1
              go_wp2_with fail
              exact hK'
            go_simp
            refine hK _ ?_
            clear hK K
            refine tree_b rfl rfl rfl rfl _ rfl (by simp) (fun K hK => ?_)
            apply Exists.intro
            refine ⟨fun wq hq K' hK' => ?_, ?_⟩
            · have y0 := hq.k a0
              have y1 := hq.k a1
              have y2 := hq.k b0
              have y3 := hq.k b1
              have y4 := hq.k c0
              have y5 := hq.k c1
              have y6 := hq.k d0
              have y7 := hq.k d1
              go_wp2_with fail
              exact hK'
            go_simp
            refine hK _ ?_
            clear hK K
            refine tree_b rfl rfl rfl rfl _ rfl (by simp) (fun K hK => ?_)
            apply Exists.intro
            refine ⟨fun wq hq K' hK' => ?_, ?_⟩
            · have y0 := hq.k a0
              have y1 := hq.k a1
              have y2 := hq.k b0
              have y3 := hq.k b1
              have y4 := hq.k c0
              have y5 := hq.k c1
              have y6 := hq.k d0
              have y7 := hq.k d1
              go_wp2_with fail
              exact hK'
            go_simp
            refine hK _ ?_
            clear hK K
            refine tree_b rfl rfl rfl rfl _ rfl (by simp) (fun K hK => ?_)
            apply Exists.intro
            refine ⟨fun wq hq K' hK' => ?_, ?_⟩
            · have y0 := hq.k a0
              have y1 := hq.k a1
              have y2 := hq.k b0
              have y3 := hq.k b1
              have y4 := hq.k c0
              have y5 := hq.k c1
              have y6 := hq.k d0
              have y7 := hq.k d1
              go_wp2_with fail
              exact hK'
            go_simp
            refine hK _ ?_
            clear hK K
            refine tree_b rfl rfl rfl rfl _ rfl (by simp) (fun K hK => ?_)
            apply Exists.intro
            refine ⟨fun wq hq K' hK' => ?_, ?_⟩
            · have y0 := hq.k a0
              have y1 := hq.k a1
              have y2 := hq.k b0
              have y3 := hq.k b1
              have y4 := hq.k c0
              have y5 := hq.k c1
              have y6 := hq.k d0
              have y7 := hq.k d1
              go_wp2_with fail
              exact hK'
            go_simp
            refine hK _ ?_
            clear hK K
            refine tree_e rfl rfl (fun K hK => ?_)
            go_wp2_with fail
            refine (hT3.out _).mono ?_
            rintro e w16 ⟨rfl, hg16⟩
            go_wp2_with fail
            try go_simp
            refine hK _ _ ((by first | exact gr_trans (gr_trans hgW1 (gr_trans (gr_trans (gr_trans hg3 hg4) hg8) hg9)) hg16 | exact gr_trans hgW1 (gr_trans (gr_trans (gr_trans hg3 hg4) hg8) hg9) | trivial)) ?_
            clear hK K
            refine tree_e rfl rfl (fun K hK => ?_)
            go_wp2_with fail
            refine (hS3.out _).mono ?_
            rintro e w17 ⟨rfl, hg17⟩
            go_wp2_with fail
            try go_simp
            refine hK _ _ ((by first | exact gr_trans (gr_trans hgW1 (gr_trans (gr_trans (gr_trans (gr_trans hg3 hg4) hg8) hg9) hg16)) hg17 | exact gr_trans hgW1 (gr_trans (gr_trans (gr_trans (gr_trans hg3 hg4) hg8) hg9) hg16) | trivial)) ?_
            clear hK K
            refine tree_e0 (by kernel_rfl) rfl rfl (fun K hK => ?_)
            go_wp2_with fail
            refine (hT4.out _).mono ?_
            rintro e w21 ⟨rfl, hg21⟩
            go_wp2_with fail
            try go_simp
            refine hK _ _ trivial ?_
            clear hK K
            refine tree_e0 (by kernel_rfl) rfl rfl (fun K hK => ?_)
            go_wp2_with fail
            refine (hS4.out _).mono ?_
            rintro e w22 ⟨rfl, hg22⟩
            go_wp2_with fail
            try go_simp
            refine hK _ _ trivial ?_
            clear hK K
            refine tree_p rfl rfl rfl rfl _ rfl (by simp) (fun K hK => ?_)
            apply Exists.intro
            refine ⟨fun wq K' hK' => ?_, ?_⟩
            · go_wp2_with fail
              exact hK'
            go_simp
            refine hK _ ?_
            clear hK K
            refine tree_p rfl rfl rfl rfl _ rfl (by simp) (fun K hK => ?_)
            apply Exists.intro
            refine ⟨fun wq K' hK' => ?_, ?_⟩
            · go_wp2_with fail
              exact hK'
            go_simp
            refine hK _ ?_
            clear hK K
            refine tree_p rfl rfl rfl rfl _ rfl (by simp) (fun K hK => ?_)
            apply Exists.intro
            refine ⟨fun wq K' hK' => ?_, ?_⟩
            · go_wp2_with fail
              exact hK'
            go_simp
            refine hK _ ?_
            clear hK K
            refine tree_p rfl rfl rfl rfl _ rfl (by simp) (fun K hK => ?_)
            apply Exists.intro
            refine ⟨fun wq K' hK' => ?_, ?_⟩
            · go_wp2_with fail
              exact hK'
            go_simp
            refine hK _ ?_
            clear hK K
            refine tree_done ?_
            have hgE := gr_trans hgws (gr_trans hgW1 (gr_trans (gr_trans (gr_trans (gr_trans (gr_trans (gr_trans (gr_trans hg3 hg4) hg8) hg9) hg16) hg17) hg21) hg22))
            go_wp2_with fail
            go_ret
            exact ⟨ret_bool (by rw [hV.out]; first | rfl | simp), hgE⟩

end Go.Proofs.YtgcpegjggakemaaGreatDoor

namespace Go.Proofs.YtgcpegjggakemaaGreatDoor
open Go Go.RowKit Go.Bl

theorem notinP_snoc {l : List Pt} {s : Pt} {k : Nat} (h : k < l.length) (h1 : s ∉ l.take k) (h2 : s ≠ l[k]) : s ∉ l.take (k + 1) := by
  rw [take_snoc h, List.mem_append]
  rintro (e | e)
  · exact h1 e
  · exact h2 (List.mem_singleton.1 e)

set_option maxHeartbeats 800000 in
theorem indexPt_any (A : Option Addr) (c : Nat) (l : List Pt) (s : Pt) (w : World) (hl : Sl w 0 A l) :
    Calls Tryz.prog 108 #[.slice A l.length c, .agg #[.int .i64 s.x, .int .i64 s.y]] w fun e w' => ∃ r : Int, e = .returned (.int .i64 r) ∧ decide (0 ≤ r) = decide (s ∈ l) ∧ w.grownBy w' none := by
  have hm := hl.1
  unfold maxLen at hm
  have hg0 := gr_alloc (World.grownBy.refl w none) (.cells #[.int .i64 s.x, .int .i64 s.y] 30)
  have b0 := hide ((Cell.new w [.int .i64 s.x, .int .i64 s.y] 30 0 _ rfl _ rfl).1)
  have b1 := hide ((Cell.new w [.int .i64 s.x, .int .i64 s.y] 30 1 _ rfl _ rfl).1)
  go_enter Tryz.func108, Tryz.ntmps108
  go_wp2_with fail
  generalize w.alloc (.cells #[.int .i64 s.x, .int .i64 s.y] 30) = W at *
  have hWW := World.grownBy.refl W none
  go_loopw [8] (fun i wr => ∃ k : Nat, k ≤ l.length ∧ i = .int .i64 k ∧ w.grownBy wr none ∧ W.grownBy wr none ∧ Hid (s ∉ l.take k)) (fun i _ => l.length - (intOf i).toNat)
  case atStart => exact ⟨0, Nat.zero_le _, rfl, hg0, hWW, by simp [Hid]⟩
  case round =>
    obtain ⟨k, hk, rfl, hg, hgW, hall⟩ := hrel
    replace b0 := hgW.k b0.out
    replace b1 := hgW.k b1.out
    by_cases hlt : k < l.length
    · obtain ⟨g, o, cx, rfl, hb0, hb1, rfl, hc⟩ := (hl.pure hg).at_ (by decide) hlt
      have v0 : wr.cell? ⟨g, o + k * 2, none⟩ = some (.int .i64 l[k].x) := hc 0 _ rfl
      have v1 : wr.cell? ⟨g, o + k * 2 + 1, none⟩ = some (.int .i64 l[k].y) := hc 1 _ rfl
      clear hc
      have HI : Hid (l[k].x = s.x → l[k].y = s.y → s ∈ l) := fun h1 h2 => by
        have : s = l[k] := by cases hh : l[k]; cases s; simp_all
        rw [this]; exact List.getElem_mem _
      have HN : Hid (¬ (s.x = l[k].x ∧ s.y = l[k].y) → s ∉ l.take (k + 1)) := fun h => notinP_snoc hlt hall.out (fun e => h (by rw [e]; exact ⟨rfl, rfl⟩))
      generalize l[k] = y at *
      go_wp2_with fail
      refine wp_region_fix 5 ((fun wx => wr.grownBy wx none)) (by kernel_rfl) (by kernel_rfl) (gr_drew (World.grownBy.refl _ _)) ?_
      simp only [List.take_succ_cons, List.take_zero, List.drop_succ_cons, List.drop_zero]
      iterate 5 ((refine fix_b (fun K hK => ?_); apply Exists.intro; refine ⟨fun wx hC K' hK' => ?_, ?_⟩; (focus (replace hK' := hide hK'; (have c0 := hC.k b0; have c1 := hC.k b1; have c2 := hC.k v0; have c3 := hC.k v1); go_wp2_with fail; exact hK'.out _ hC)); go_simp; refine hK _ ?_; clear hK K))
      refine fix_nil ?_
      intro wz hC
      replace hg := gr_trans hg hC
      replace hgW := gr_trans hgW hC
      obtain ⟨su, sv⟩ := s
      obtain ⟨yu, yv⟩ := y
      simp only at *
      by_cases h1 : su = yu
      · subst h1
        by_cases h2 : sv = yv
        · subst h2
          go_wp2
          go_ret
          exact ⟨k, rfl, by have hX := HI.out trivial trivial; simp [hX], hg⟩
        · go_wp2
          go_roundw
          case rel => exact ⟨k + 1, by omega, by go_num, hg, hgW, HN.out (fun h => h2 h.2)⟩
          case measure => simp [intOf]; omega
      · go_wp2
        go_roundw
        case rel => exact ⟨k + 1, by omega, by go_num, hg, hgW, HN.out (fun h => h1 h.1)⟩
        case measure => simp [intOf]; omega
    · have HB : s ∉ l := by have := hall.out; rwa [List.take_of_length_le (by omega)] at this
      go_wp2
      go_ret
      exact ⟨-1, rfl, by simp [HB], hg⟩

set_option maxHeartbeats 800000 in
theorem containsPt_any (A : Option Addr) (n c : Nat) (l : List Pt) (s : Pt) (w : World) (hl : Sl w 0 A l) (hn : l.length = n) :
    Calls Tryz.prog 143 #[.slice A n c, .agg #[.int .i64 s.x, .int .i64 s.y]] w fun e w' => e = .returned (.bool (decide (s ∈ l))) ∧ w.grownBy w' none := by
  subst hn
  have hg0 := gr_alloc (World.grownBy.refl w none) (.cells #[.int .i64 s.x, .int .i64 s.y] 30)
  go_enter Tryz.func143, Tryz.ntmps143
  go_wp2_with fail
  refine (indexPt_any A c l s _ (hl.pure hg0)).mono ?_
  rintro e w1 ⟨r, rfl, hr, hg⟩
  replace hr := hide hr
  go_wp2_with fail
  go_ret
  exact ⟨ret_bool hr.out, gr_trans hg0 hg⟩

theorem info_sg : (Tryz.prog.info? 109).map (fun i => (i.zero, i.size, i.bytes)) = some (some (.agg #[.int .i64 0, .int .i64 0, .int .i64 0, .int .i64 0]), 4, 32) := by kernel_rfl

set_option maxHeartbeats 8000000 in
set_option maxRecDepth 100000 in
theorem sidesRef_any (A : Option Addr) (c : Nat) (r : List Pt) (w : World) (hsl : Sl w 0 A r) (hrl : r.length ≤ 100000) :
    Calls Tryz.prog 72 #[.slice A r.length c] w fun e w' => ∃ A' c', e = .returned (.slice A' r.length c') ∧ Own w' w.heap.size 109 A' c' (segK r r.length) ∧ w.grownBy w' none := by
  go_enter Tryz.func72, Tryz.ntmps72
  go_wp2_with fail
  go_loopw [3, 8] (fun o i wr => ∃ (m : Nat) (A' : Option Addr) (c' : Nat), m ≤ r.length ∧ i = .int .i64 m ∧ o = .slice A' (segK r m).length c' ∧ Own wr w.heap.size 109 A' c' (segK r m) ∧ w.grownBy wr none) (fun _ i _ => r.length - (intOf i).toNat)
  case atStart => exact ⟨0, none, 0, Nat.zero_le _, rfl, rfl, Own.nil _ _ _, World.grownBy.refl _ _⟩
  case round =>
    obtain ⟨m, A', c', hm2, rfl, rfl, hown, hg⟩ := hrel
    by_cases hml : m < r.length
    · obtain ⟨gr, or_, rfl, -, hbr, hcell⟩ := hsl.pt (by omega)
      obtain ⟨j1, hj1⟩ : ∃ j, j = (m + 1) % r.length := ⟨_, rfl⟩
      have hj1b : ((m : Int) + 1) % r.length = j1 := by rw [hj1]; simp
      have hj1l : j1 < r.length := by rw [hj1]; exact Nat.mod_lt _ (by omega)
      have q0 := hg.k (hcell m hml).1
      have q1 := hg.k (hcell m hml).2
      have s0 := hg.k (hcell j1 hj1l).1
      have s1 := hg.k (hcell j1 hj1l).2
      have e1 : cor r m = r[m] := cor_lt hml
      have e2 : cor r (m + 1) = r[j1] := by unfold cor; rw [← hj1]; simp [List.getD, hj1l]
      have hsn : Hid (segK r (m + 1) = segK r m ++ [⟨cor r m, cor r (m + 1)⟩]) := segK_snoc r m
      have hMl := hide (segK_len r m)
      rw [← e1] at q0 q1
      rw [← e2] at s0 s1
      generalize cor r m = p at *
      generalize cor r (m + 1) = q at *
      replace hj1 := hide hj1
      clear e1 e2 hcell
      generalize hM : segK r m = M at *
      clear hM
      go_upto_region 5 with fail
      obtain ⟨w5, hw5⟩ : ∃ x, x = (wr).alloc (.cells [.int .i64 p.x, .int .i64 p.y].toArray 30) := ⟨_, rfl⟩
      have hg5 : (wr).grownBy w5 none := by rw [hw5]; exact gr_alloc (World.grownBy.refl _ _) _
      have hb5 : Box w5 (wr).heap.size 30 [.int .i64 p.x, .int .i64 p.y] := by rw [hw5]; exact Box.new _ _ _
      have hxs5 := hb5.lt
      rw [← hw5]
      clear hw5
      obtain ⟨x5, hx5⟩ : ∃ x, x = (wr).heap.size := ⟨_, rfl⟩
      rw [← hx5] at hb5 hxs5 ⊢
      have hxl5 : (wr).heap.size ≤ x5 := by omega
      clear hx5
      replace q0 := hg5.k q0
      replace q1 := hg5.k q1
      replace s0 := hg5.k s0
      replace s1 := hg5.k s1
      replace hg := gr_trans hg hg5
      replace hown := hown.pure hg5
      obtain ⟨y0, -⟩ := hb5.c 0 rfl
      obtain ⟨y1, -⟩ := hb5.c 1 rfl
      clear hg5 q0 q1
      refine wp_region_tree (fun wx => w5.grownBy wx none) [2, 1, 2, 2, 2, 2, 2, 2, 2, 1, 2, 0, 0, 2] (.bl 0 (.bl 1 (.bl 2 (.bl 3 (.bl 4 (.bl 5 (.bl 6 (.bl 7 (.bl 8 (.bl 9 (.bl 10 (.ef 11 (.ef 12 (.bl 13 .done)))))))))))))) (by kernel_rfl) (by kernel_rfl) (gr_drew (World.grownBy.refl _ _)) ?_
      obtain ⟨W1, hW1⟩ : ∃ x, x = (w5).drew := ⟨_, rfl⟩
      rw [← hW1]
      have hgW1 : (w5).grownBy W1 none := by rw [hW1]; exact gr_drew (World.grownBy.refl _ _)
      clear hW1
      replace hg := gr_trans hg hgW1
      replace hown := hown.pure hgW1
      refine tree_p rfl rfl rfl rfl _ rfl (by simp) (fun K hK => ?_)
      apply Exists.intro
      refine ⟨fun wq K' hK' => ?_, ?_⟩
      · go_wp2_with fail
        exact hK'
      go_simp
      refine hK _ ?_
      clear hK K
      refine tree_b rfl rfl rfl rfl _ rfl (by simp) (fun K hK => ?_)
      apply Exists.intro
      refine ⟨fun wq hq K' hK' => ?_, ?_⟩
      · have ss0 := hq.k s0
        have ss1 := hq.k s1
        have yy0 := hq.k y0
        have yy1 := hq.k y1
        go_wp2_with fail
        exact hK'
      go_simp
      refine hK _ ?_
      clear hK K
      refine tree_p rfl rfl rfl rfl _ rfl (by simp) (fun K hK => ?_)
      apply Exists.intro
      refine ⟨fun wq K' hK' => ?_, ?_⟩
      · go_wp2_with fail
        exact hK'
      go_simp
      refine hK _ ?_
      clear hK K
      refine tree_p rfl rfl rfl rfl _ rfl (by simp) (fun K hK => ?_)
      apply Exists.intro
      refine ⟨fun wq K' hK' => ?_, ?_⟩
      · go_wp2_with fail
        exact hK'
      go_simp
      refine hK _ ?_
      clear hK K
      refine tree_p rfl rfl rfl rfl _ rfl (by simp) (fun K hK => ?_)
      apply Exists.intro
      refine ⟨fun wq K' hK' => ?_, ?_⟩
      · go_wp2_with fail
        exact hK'
      go_simp
      refine hK _ ?_
      clear hK K
      refine tree_p rfl rfl rfl rfl _ rfl (by simp) (fun K hK => ?_)
      apply Exists.intro
      refine ⟨fun wq K' hK' => ?_, ?_⟩
      · go_wp2_with fail
        exact hK'
      go_simp
      refine hK _ ?_
      clear hK K
      refine tree_p rfl rfl rfl rfl _ rfl (by simp) (fun K hK => ?_)
      apply Exists.intro
      refine ⟨fun wq K' hK' => ?_, ?_⟩
      · go_wp2_with fail
        exact hK'
      go_simp
      refine hK _ ?_
      clear hK K
      refine tree_p rfl rfl rfl rfl _ rfl (by simp) (fun K hK => ?_)
      apply Exists.intro
      refine ⟨fun wq K' hK' => ?_, ?_⟩
      · go_wp2_with fail
        exact hK'
      go_simp
      refine hK _ ?_
      clear hK K
      refine tree_p rfl rfl rfl rfl _ rfl (by simp) (fun K hK => ?_)
      apply Exists.intro
      refine ⟨fun wq K' hK' => ?_, ?_⟩
      · go_wp2_with fail
        exact hK'
      go_simp
      refine hK _ ?_
      clear hK K
      refine tree_b rfl rfl rfl rfl _ rfl (by simp) (fun K hK => ?_)
      apply Exists.intro
      refine ⟨fun wq hq K' hK' => ?_, ?_⟩
      · have ss0 := hq.k s0
        have ss1 := hq.k s1
        have yy0 := hq.k y0
        have yy1 := hq.k y1
        go_wp2_with fail
        exact hK'
      go_simp
      refine hK _ ?_
      clear hK K
      refine tree_p rfl rfl rfl rfl _ rfl (by simp) (fun K hK => ?_)
      apply Exists.intro
      refine ⟨fun wq K' hK' => ?_, ?_⟩
      · go_wp2_with fail
        exact hK'
      go_simp
      refine hK _ ?_
      clear hK K
      refine tree_e0 (by kernel_rfl) rfl rfl (fun K hK => ?_)
      go_wp2_with fail
      try go_simp
      refine hK _ _ trivial ?_
      clear hK K
      obtain ⟨w12, hw12⟩ : ∃ x, x = (W1).alloc (.cells [.int .i64 p.x, .int .i64 p.y, .int .i64 q.x, .int .i64 q.y].toArray 109) := ⟨_, rfl⟩
      have hg12 : (W1).grownBy w12 none := by rw [hw12]; exact gr_alloc (World.grownBy.refl _ _) _
      have hb12 : Box w12 (W1).heap.size 109 [.int .i64 p.x, .int .i64 p.y, .int .i64 q.x, .int .i64 q.y] := by rw [hw12]; exact Box.new _ _ _
      rw [← hw12]
      clear hw12
      obtain ⟨x12, hx12⟩ : ∃ x, x = (W1).heap.size := ⟨_, rfl⟩
      rw [← hx12] at hb12 ⊢
      have hxl12 : (W1).heap.size ≤ x12 := by omega
      clear hx12
      replace hg := gr_trans hg hg12
      replace hown := hown.pure hg12
      refine tree_e0 (by kernel_rfl) rfl rfl (fun K hK => ?_)
      obtain ⟨i0, hi, hz, h1, h2⟩ := info_parts info_sg
      refine wp_pushAt (α := Sg) _ (.tmp 13) (.tmp 24) _ rfl w.heap.size 109 i0 _ 32 Tryz.underlying106 hi hz h1 h2 rfl _ _ _ M rfl rfl hown 0 ⟨x12, 0, none⟩ _ _ [⟨p, q⟩] rfl rfl (hb12.sl ⟨_, [], rfl, rfl, rfl⟩ (Nat.zero_le _) (by simp [maxLen])) ?_ ?_ ?_ ?_
      · have := hMl.out; simp; omega
      · have := hMl.out; simp [maxLen]; omega
      · exact hg.size
      intro A5 c5 w5b hown5 hG5
      try go_simp
      refine hK _ _ trivial ?_
      clear hK K
      refine tree_p rfl rfl rfl rfl _ rfl (by simp) (fun K hK => ?_)
      apply Exists.intro
      refine ⟨fun wq K' hK' => ?_, ?_⟩
      · go_wp2_with fail
        exact hK'
      go_simp
      refine hK _ ?_
      clear hK K
      refine tree_done ?_
      have hg5b : w.grownBy w5b none := gr_row hg hG5.1 (fun x e => (hown.blk_lt e).1)
      have hl5 : Hid ((segK r (m + 1)).length = M.length + 1) := by rw [Hid, hsn.out, List.length_append]; rfl
      clear hown hg
      go_wp2_with fail
      first
        | exact ⟨⟨m + 1, A5, c5, by omega, by go_num, by rw [hl5.out], by rw [hsn.out]; exact hown5, hg5b⟩, by simp [intOf]; omega⟩
        | (go_roundw; (case rel => exact ⟨m + 1, A5, c5, by omega, by go_num, by rw [hl5.out], by rw [hsn.out]; exact hown5, hg5b⟩); (case measure => simp [intOf]; omega))
    · have hm3 : m = r.length := by omega
      subst hm3
      go_wp2_with fail
      go_ret
      exact ⟨A', c', by rw [segK_len]; rfl, hown, hg⟩

theorem sl_sg {w : World} {lo : Nat} {A : Option Addr} {l : List Sg} (h : Sl w lo A l) (hn : 0 < l.length) : ∃ g o, A = some ⟨g, o, none⟩ ∧ lo ≤ g ∧ g < w.heap.size ∧
    ∀ k (hk : k < l.length), (w.cell? ⟨g, o + k * 4, none⟩ = some (.int .i64 l[k].a.x) ∧ w.cell? ⟨g, o + k * 4 + 1, none⟩ = some (.int .i64 l[k].a.y)) ∧ w.cell? ⟨g, o + k * 4 + 2, none⟩ = some (.int .i64 l[k].b.x) ∧ w.cell? ⟨g, o + k * 4 + 3, none⟩ = some (.int .i64 l[k].b.y) := by
  obtain ⟨g, o, _, rfl, h1, h2, _, _⟩ := h.at_ (by decide) hn
  refine ⟨g, o, rfl, h1, h2, fun k hk => ?_⟩
  obtain ⟨g', o', c, e, _, _, rfl, hc⟩ := h.at_ (by decide) hk
  cases e
  exact ⟨⟨hc 0 _ rfl, hc 1 _ rfl⟩, hc 2 _ rfl, hc 3 _ rfl⟩

theorem points_zero {r : List Pt} (h : r.any farP = false) : ∀ p ∈ r, bdP p := fun p hp => far_bd (by have := List.any_eq_false.1 h p hp; simpa using this)

set_option maxHeartbeats 8000000 in
set_option maxRecDepth 100000 in
theorem ringFaultRef_any (A : Option Addr) (c : Nat) (r : List Pt) (w : World) (hl : Sl w 0 A r) (hrc : r.length ≤ c) :
    Calls Tryz.prog 71 #[.slice A r.length c] w fun e w' => e = .returned (.int .i64 (ringR r)) ∧ w.grownBy w' none := by
  have hm := hl.1
  unfold maxLen at hm
  have hV : Hid (ringR r = if r.length < 3 then 3 else if 500 < r.length then 2 else if r.any farP then 1 else if twiceB r then 6 else refS r) := rfl
  by_cases h3 : r.length < 3
  · have hF : Hid (ringR r = 3) := by rw [Hid, hV.out, if_pos h3]
    clear hV
    go_enter Tryz.func71, Tryz.ntmps71
    go_wp2_with fail
    go_ret
    exact ⟨ret_int hF.out.symm, World.grownBy.refl _ _⟩
  by_cases h5 : 500 < r.length
  · have hF : Hid (ringR r = 2) := by rw [Hid, hV.out, if_neg h3, if_pos h5]
    clear hV
    go_enter Tryz.func71, Tryz.ntmps71
    go_wp2_with fail
    go_ret
    exact ⟨ret_int hF.out.symm, World.grownBy.refl _ _⟩
  have hPF := pointFault_any A c r w hl
  cases hfar : r.any farP with
  | true =>
    have hF : Hid (ringR r = 1) := by rw [Hid, hV.out, if_neg h3, if_neg h5, hfar]; rfl
    rw [pointsF_yes hfar] at hPF
    replace hfar := hide hfar
    clear hV
    go_enter Tryz.func71, Tryz.ntmps71
    go_wp2_with fail
    refine hPF.mono ?_
    rintro e w1 ⟨rfl, hg1⟩
    go_wp2_with fail
    go_ret
    exact ⟨ret_int hF.out.symm, hg1⟩
  | false =>
    have hbd := points_zero hfar
    have hcb : Hid (∀ i, bdP (cor r i)) := fun i => hbd _ (cor_mem (by omega) i)
    rw [pointsF_no hfar] at hPF
    have hV2 : Hid (ringR r = if twiceB r then 6 else refS r) := by rw [Hid, hV.out, if_neg h3, if_neg h5, hfar]; rfl
    have hT1 : Hid (∀ k, k < r.length → cor r k ∈ r.take k → ringR r = 6) := fun k hk h => by
      have ht : twiceB r = true := any_yes hk (by simpa using h)
      rw [hV2.out, if_pos ht]
    have hT0 : Hid ((∀ k, k < r.length → cor r k ∉ r.take k) → ringR r = refS r) := fun h => by
      have ht : twiceB r = false := any_no fun k hk => by simpa using h k hk
      rw [hV2.out, ht]; simp
    replace hfar := hide hfar
    clear hV hV2 hbd
    go_enter Tryz.func71, Tryz.ntmps71
    go_wp2_with fail
    refine hPF.mono ?_
    rintro e w1 ⟨rfl, hg1⟩
    clear hPF
    go_wp2_with fail
    go_loopw [26] (fun i wr => ∃ k : Nat, k ≤ r.length ∧ i = .int .i64 k ∧ w.grownBy wr none ∧ Hid (∀ j, j < k → cor r j ∉ r.take j)) (fun i _ => r.length - (intOf i).toNat)
    case atStart => exact ⟨0, Nat.zero_le _, rfl, hg1, fun j hj => by omega⟩
    case round =>
      clear hg1
      obtain ⟨k, hk, rfl, hg, hall⟩ := hrel
      by_cases hlt : k < r.length
      · obtain ⟨gr, or_, hA, -, hbr, hcell⟩ := hl.pt (by omega)
        have q0 := hg.k (hcell k hlt).1
        have q1 := hg.k (hcell k hlt).2
        have e1 : cor r k = r[k] := cor_lt hlt
        rw [← e1] at q0 q1
        have hTk := hide (hT1.out k hlt)
        have hlk := hl.take k
        generalize hp : cor r k = p at *
        clear e1 hcell
        subst hA
        go_upto_region 11 with fail
        obtain ⟨w5, hw5⟩ : ∃ x, x = (wr).alloc (.cells [.int .i64 p.x, .int .i64 p.y].toArray 30) := ⟨_, rfl⟩
        have hg5 : (wr).grownBy w5 none := by rw [hw5]; exact gr_alloc (World.grownBy.refl _ _) _
        have hb5 : Box w5 (wr).heap.size 30 [.int .i64 p.x, .int .i64 p.y] := by rw [hw5]; exact Box.new _ _ _
        have hxs5 := hb5.lt
        rw [← hw5]
        clear hw5
        obtain ⟨x5, hx5⟩ : ∃ x, x = (wr).heap.size := ⟨_, rfl⟩
        rw [← hx5] at hb5 hxs5 ⊢
        have hxl5 : (wr).heap.size ≤ x5 := by omega
        clear hx5
        obtain ⟨y0, -⟩ := hb5.c 0 rfl
        obtain ⟨y1, -⟩ := hb5.c 1 rfl
        clear q0 q1
        have hCt := fun wx cc (hx : w5.grownBy wx none) => containsPt_any (some ⟨gr, or_, none⟩) k cc (r.take k) p wx (hlk.pure (hg.t (hg5.t hx))) (by rw [List.length_take]; omega)
        obtain ⟨bb, hbb⟩ : ∃ b, decide (p ∈ r.take k) = b := ⟨_, rfl⟩
        rw [hbb] at hCt
        refine wp_region_tree (fun wx => w5.grownBy wx none) [2, 2, 2, 1, 0] (.bl 0 (.bl 1 (.bl 2 (.bl 3 (.ef 4 .done))))) (by kernel_rfl) (by kernel_rfl) (gr_drew (World.grownBy.refl _ _)) ?_
        obtain ⟨W1, hW1⟩ : ∃ x, x = (w5).drew := ⟨_, rfl⟩
        rw [← hW1]
        have hgW1 : (w5).grownBy W1 none := by rw [hW1]; exact gr_drew (World.grownBy.refl _ _)
        clear hW1
        refine tree_p rfl rfl rfl rfl _ rfl (by simp) (fun K hK => ?_)
        apply Exists.intro
        refine ⟨fun wq K' hK' => ?_, ?_⟩
        · go_wp2_with fail
          exact hK'
        go_simp
        refine hK _ ?_
        clear hK K
        refine tree_p rfl rfl rfl rfl _ rfl (by simp) (fun K hK => ?_)
        apply Exists.intro
        refine ⟨fun wq K' hK' => ?_, ?_⟩
        · go_wp2_with fail
          exact hK'
        go_simp
        refine hK _ ?_
        clear hK K
        refine tree_p rfl rfl rfl rfl _ rfl (by simp) (fun K hK => ?_)
        apply Exists.intro
        refine ⟨fun wq K' hK' => ?_, ?_⟩
        · go_wp2_with fail
          exact hK'
        go_simp
        refine hK _ ?_
        clear hK K
        refine tree_b rfl rfl rfl rfl _ rfl (by simp) (fun K hK => ?_)
        apply Exists.intro
        refine ⟨fun wq hq K' hK' => ?_, ?_⟩
        · have yy0 := hq.k y0
          have yy1 := hq.k y1
          go_wp2_with fail
          exact hK'
        go_simp
        refine hK _ ?_
        clear hK K
        refine tree_e0 (by kernel_rfl) rfl rfl (fun K hK => ?_)
        go_wp2_with fail
        refine (hCt _ _ (gr_trans hgW1 (World.grownBy.refl _ _))).mono ?_
        rintro e w4 ⟨rfl, hg4⟩
        go_wp2_with fail
        try go_simp
        refine hK _ _ trivial ?_
        clear hK K
        refine tree_done ?_
        have hgE := hg.t (hg5.t (gr_trans hgW1 hg4))
        clear hCt
        cases bb with
        | true =>
          have hF := hide (hTk.out (by simpa using hbb))
          clear hTk
          replace hbb := hide hbb
          go_wp2_with fail
          go_ret
          exact ⟨ret_int hF.out.symm, hgE⟩
        | false =>
          have hn : Hid (∀ j, j < k + 1 → cor r j ∉ r.take j) := fun j hj => by
            by_cases e : j < k
            · exact hall.out j e
            · rw [show j = k by omega, hp]; simpa using hbb
          replace hbb := hide hbb
          clear hTk hp
          go_wp2_with fail
          first
            | exact ⟨⟨k + 1, by omega, by go_num, hgE, hn⟩, by simp [intOf]; omega⟩
            | (go_roundw; (case rel => exact ⟨k + 1, by omega, by go_num, hgE, hn⟩); (case measure => simp [intOf]; omega))
      · obtain rfl : k = r.length := by omega
        have hR := hide (hT0.out hall.out)
        have hF1 : Hid (∀ i, i < r.length → (List.range i).any (refT r i) = true → ringR r = 13) := fun i hi h => by
          rw [hR.out]; unfold refS; rw [if_pos (any_yes hi h)]
        have hF0 : Hid ((∀ i, i < r.length → ∀ k, k < i → refT r i k = false) → ringR r = 0) := fun h => by
          have ht : (List.range r.length).any (refI r) = false := any_no (fun i hi => any_no (h i hi))
          rw [hR.out]; unfold refS; rw [ht]; simp
        clear hT1 hT0 hR hall
        have hS := sidesRef_any A c r wr (hl.pure hg) (by omega)
        go_wp2_with fail
        refine hS.mono ?_
        rintro e w6 ⟨A6, c6, rfl, hown, hg6⟩
        clear hS
        have hgw := hg.t hg6
        have hsl := hown.sl.mono (Nat.zero_le _)
        obtain ⟨g6, o6, rfl, -, hb6, hcell⟩ := sl_sg hsl (by rw [segK_len]; omega)
        have hcl : Hid (∀ (wx : World), w6.grownBy wx none → ∀ k, k < r.length → (wx.cell? ⟨g6, o6 + k * 4, none⟩ = some (.int .i64 (cor r k).x) ∧ wx.cell? ⟨g6, o6 + k * 4 + 1, none⟩ = some (.int .i64 (cor r k).y)) ∧ wx.cell? ⟨g6, o6 + k * 4 + 2, none⟩ = some (.int .i64 (cor r (k + 1)).x) ∧ wx.cell? ⟨g6, o6 + k * 4 + 3, none⟩ = some (.int .i64 (cor r (k + 1)).y)) := fun wx hx k hk => by
          obtain ⟨⟨h1, h2⟩, h3, h4⟩ := hcell k (by rw [segK_len]; exact hk)
          rw [segK_get] at h1 h2 h3 h4
          exact ⟨⟨hx.k h1, hx.k h2⟩, hx.k h3, hx.k h4⟩
        have hcap6 := hown.cap
        rw [segK_len] at hcap6
        clear hcell hsl hown hg hg6
        go_wp2_with fail
        go_loopw [41] (fun i wr => ∃ k : Nat, k ≤ r.length ∧ i = .int .i64 k ∧ w6.grownBy wr none ∧ Hid (∀ i, i < k → ∀ j, j < i → refT r i j = false)) (fun i _ => r.length - (intOf i).toNat)
        case atStart => exact ⟨0, Nat.zero_le _, rfl, World.grownBy.refl _ _, fun j hj => by omega⟩
        case round =>
          obtain ⟨i, hi, rfl, hg0, hall⟩ := hrel
          obtain ⟨wo, rfl⟩ : ∃ x, x = wr := ⟨wr, rfl⟩
          by_cases hlt : i < r.length
          · obtain ⟨⟨c0, c1⟩, c2, c3⟩ := hcl.out wo hg0 i hlt
            have hg := hgw.t hg0
            go_upto_region 18 with fail
            obtain ⟨w8, hw8⟩ : ∃ x, x = (wo).alloc (.cells [.int .i64 (cor r i).x, .int .i64 (cor r i).y, .int .i64 (cor r (i + 1)).x, .int .i64 (cor r (i + 1)).y].toArray 109) := ⟨_, rfl⟩
            have hg8 : (wo).grownBy w8 none := by rw [hw8]; exact gr_alloc (World.grownBy.refl _ _) _
            have hb8 : Box w8 (wo).heap.size 109 [.int .i64 (cor r i).x, .int .i64 (cor r i).y, .int .i64 (cor r (i + 1)).x, .int .i64 (cor r (i + 1)).y] := by rw [hw8]; exact Box.new _ _ _
            have hxs8 := hb8.lt
            rw [← hw8]
            clear hw8
            obtain ⟨x8, hx8⟩ : ∃ x, x = (wo).heap.size := ⟨_, rfl⟩
            rw [← hx8] at hb8 hxs8 ⊢
            have hxl8 : (wo).heap.size ≤ x8 := by omega
            clear hx8
            clear c0 c1 c2 c3
            go_wp2_with fail
            go_loopw [50] (fun s wx => ∃ k : Nat, k ≤ i ∧ s = .int .i64 k ∧ Box wx x8 109 [.int .i64 (cor r i).x, .int .i64 (cor r i).y, .int .i64 (cor r (i + 1)).x, .int .i64 (cor r (i + 1)).y] ∧ w6.grownBy wx none ∧ Hid (∀ k', k' < k → refT r i k' = false)) (fun s _ => i - (intOf s).toNat)
            case atStart => exact ⟨0, Nat.zero_le _, rfl, hb8, hg0.t hg8, fun k' hk' => by omega⟩
            case round =>
              clear hb8 hg8
              obtain ⟨k, hk, rfl, hb8, hgx, hin⟩ := hrel
              have hg := hgw.t hgx
              by_cases hkl : k < i
              · obtain ⟨⟨c0, c1⟩, c2, c3⟩ := hcl.out wr hgx k (by omega)
                go_upto_region 21 with fail
                obtain ⟨w10, hw10⟩ : ∃ x, x = (wr).alloc (.cells [.int .i64 (cor r k).x, .int .i64 (cor r k).y, .int .i64 (cor r (k + 1)).x, .int .i64 (cor r (k + 1)).y].toArray 109) := ⟨_, rfl⟩
                have hg10 : (wr).grownBy w10 none := by rw [hw10]; exact gr_alloc (World.grownBy.refl _ _) _
                have hb10 : Box w10 (wr).heap.size 109 [.int .i64 (cor r k).x, .int .i64 (cor r k).y, .int .i64 (cor r (k + 1)).x, .int .i64 (cor r (k + 1)).y] := by rw [hw10]; exact Box.new _ _ _
                have hxs10 := hb10.lt
                rw [← hw10]
                clear hw10
                obtain ⟨x10, hx10⟩ : ∃ x, x = (wr).heap.size := ⟨_, rfl⟩
                rw [← hx10] at hb10 hxs10 ⊢
                have hxl10 : (wr).heap.size ≤ x10 := by omega
                clear hx10
                clear c0 c1 c2 c3
                have hb8a := hb8.pure hg10
                obtain ⟨s0, -⟩ := hb8a.c 0 rfl
                obtain ⟨s1, -⟩ := hb8a.c 1 rfl
                obtain ⟨s2, -⟩ := hb8a.c 2 rfl
                obtain ⟨s3, -⟩ := hb8a.c 3 rfl
                obtain ⟨t0, -⟩ := hb10.c 0 rfl
                obtain ⟨t1, -⟩ := hb10.c 1 rfl
                obtain ⟨t2, -⟩ := hb10.c 2 rfl
                obtain ⟨t3, -⟩ := hb10.c 3 rfl
                clear hb8a
                by_cases h1 : k + 1 = i
                · have hd1 : ((k : Int) == (i : Int) - 1) = true := by simp; omega
                  have hTt : Hid (refT r i k = (onB (cor r k) (cor r i) (cor r (i + 1)) || onB (cor r (i + 1)) (cor r k) (cor r (k + 1)))) := by rw [Hid]; unfold refT; rw [if_pos h1]
                  have hO1 := hide fun w => onRef_any (cor r k) (cor r i) (cor r (i + 1)) w (hcb.out _) (hcb.out _) (hcb.out _)
                  have hO2 := hide fun w => onRef_any (cor r (i + 1)) (cor r k) (cor r (k + 1)) w (hcb.out _) (hcb.out _) (hcb.out _)
                  generalize onB (cor r k) (cor r i) (cor r (i + 1)) = o1 at *
                  generalize onB (cor r (i + 1)) (cor r k) (cor r (k + 1)) = o2 at *
                  replace h1 := hide h1
                  go_wp2_with fail
                  refine (hO1.out _).mono ?_
                  rintro e w1 ⟨rfl, hg1⟩
                  rcases ho1 : o1 with _ | _
                  · rw [ho1] at hTt
                    clear ho1
                    have hbA := hb8.pure (hg10.t hg1)
                    have hbB := hb10.pure hg1
                    clear s0 s1 s2 s3 t0 t1 t2 t3
                    obtain ⟨s0, -⟩ := hbA.c 0 rfl
                    obtain ⟨s1, -⟩ := hbA.c 1 rfl
                    obtain ⟨s2, -⟩ := hbA.c 2 rfl
                    obtain ⟨s3, -⟩ := hbA.c 3 rfl
                    obtain ⟨t0, -⟩ := hbB.c 0 rfl
                    obtain ⟨t1, -⟩ := hbB.c 1 rfl
                    obtain ⟨t2, -⟩ := hbB.c 2 rfl
                    obtain ⟨t3, -⟩ := hbB.c 3 rfl
                    go_wp2_with fail
                    refine (hO2.out _).mono ?_
                    rintro e w2 ⟨rfl, hg2⟩
                    have hgE := hg.t (hg10.t (hg1.t hg2))
                    have hgE' := hgx.t (hg10.t (hg1.t hg2))
                    have hb8' := hbA.pure hg2
                    clear s0 s1 s2 s3 t0 t1 t2 t3 hbA hbB
                    cases o2 with
                    | true =>
                      have hF := hide (hF1.out i hlt (any_yes hkl hTt.out))
                      go_wp2_with fail
                      go_ret
                      exact ⟨ret_int hF.out.symm, hgE⟩
                    | false =>
                      have hin2 : Hid (∀ k', k' < k + 1 → refT r i k' = false) := fun k' hk' => by
                        by_cases e : k' < k
                        · exact hin.out k' e
                        · rw [show k' = k by omega]; exact hTt.out
                      go_wp2_with fail
                      first
                        | exact ⟨⟨k + 1, by omega, by go_num, hb8', hgE', hin2⟩, by simp [intOf]; omega⟩
                        | (go_roundw; (case rel => exact ⟨k + 1, by omega, by go_num, hb8', hgE', hin2⟩); (case measure => simp [intOf]; omega))
                  · rw [ho1, Bool.true_or] at hTt
                    clear ho1
                    have hgE := hg.t (hg10.t hg1)
                    clear s0 s1 s2 s3 t0 t1 t2 t3
                    have hF := hide (hF1.out i hlt (any_yes hkl hTt.out))
                    go_wp2_with fail
                    go_ret
                    exact ⟨ret_int hF.out.symm, hgE⟩
                · have hd1 : ((k : Int) == (i : Int) - 1) = false := by rw [beq_eq_false_iff_ne]; omega
                  by_cases h2 : k = 0 ∧ i + 1 = r.length
                  · have hd2 : ((k : Int) == 0) = true := by simp; omega
                    have hd3 : ((i : Int) == (r.length : Int) - 1) = true := by simp; omega
                    have hTt : Hid (refT r i k = (onB (cor r i) (cor r k) (cor r (k + 1)) || onB (cor r (k + 1)) (cor r i) (cor r (i + 1)))) := by rw [Hid]; unfold refT; rw [if_neg h1, if_pos h2]
                    have hO1 := hide fun w => onRef_any (cor r i) (cor r k) (cor r (k + 1)) w (hcb.out _) (hcb.out _) (hcb.out _)
                    have hO2 := hide fun w => onRef_any (cor r (k + 1)) (cor r i) (cor r (i + 1)) w (hcb.out _) (hcb.out _) (hcb.out _)
                    generalize onB (cor r i) (cor r k) (cor r (k + 1)) = o1 at *
                    generalize onB (cor r (k + 1)) (cor r i) (cor r (i + 1)) = o2 at *
                    replace h1 := hide h1
                    replace h2 := hide h2
                    go_wp2_with fail
                    refine (hO1.out _).mono ?_
                    rintro e w1 ⟨rfl, hg1⟩
                    rcases ho1 : o1 with _ | _
                    · rw [ho1] at hTt
                      clear ho1
                      have hbA := hb8.pure (hg10.t hg1)
                      have hbB := hb10.pure hg1
                      clear s0 s1 s2 s3 t0 t1 t2 t3
                      obtain ⟨s0, -⟩ := hbA.c 0 rfl
                      obtain ⟨s1, -⟩ := hbA.c 1 rfl
                      obtain ⟨s2, -⟩ := hbA.c 2 rfl
                      obtain ⟨s3, -⟩ := hbA.c 3 rfl
                      obtain ⟨t0, -⟩ := hbB.c 0 rfl
                      obtain ⟨t1, -⟩ := hbB.c 1 rfl
                      obtain ⟨t2, -⟩ := hbB.c 2 rfl
                      obtain ⟨t3, -⟩ := hbB.c 3 rfl
                      go_wp2_with fail
                      refine (hO2.out _).mono ?_
                      rintro e w2 ⟨rfl, hg2⟩
                      have hgE := hg.t (hg10.t (hg1.t hg2))
                      have hgE' := hgx.t (hg10.t (hg1.t hg2))
                      have hb8' := hbA.pure hg2
                      clear s0 s1 s2 s3 t0 t1 t2 t3 hbA hbB
                      cases o2 with
                      | true =>
                        have hF := hide (hF1.out i hlt (any_yes hkl hTt.out))
                        go_wp2_with fail
                        go_ret
                        exact ⟨ret_int hF.out.symm, hgE⟩
                      | false =>
                        have hin2 : Hid (∀ k', k' < k + 1 → refT r i k' = false) := fun k' hk' => by
                          by_cases e : k' < k
                          · exact hin.out k' e
                          · rw [show k' = k by omega]; exact hTt.out
                        go_wp2_with fail
                        first
                          | exact ⟨⟨k + 1, by omega, by go_num, hb8', hgE', hin2⟩, by simp [intOf]; omega⟩
                          | (go_roundw; (case rel => exact ⟨k + 1, by omega, by go_num, hb8', hgE', hin2⟩); (case measure => simp [intOf]; omega))
                    · rw [ho1, Bool.true_or] at hTt
                      clear ho1
                      have hgE := hg.t (hg10.t hg1)
                      clear s0 s1 s2 s3 t0 t1 t2 t3
                      have hF := hide (hF1.out i hlt (any_yes hkl hTt.out))
                      go_wp2_with fail
                      go_ret
                      exact ⟨ret_int hF.out.symm, hgE⟩
                  · have hTt : Hid (refT r i k = meetR (cor r i) (cor r (i + 1)) (cor r k) (cor r (k + 1))) := by rw [Hid]; unfold refT; rw [if_neg h1, if_neg h2]
                    have hMe := hide fun w => meetRef_any (cor r i) (cor r (i + 1)) (cor r k) (cor r (k + 1)) w (hcb.out _) (hcb.out _) (hcb.out _) (hcb.out _)
                    generalize meetR (cor r i) (cor r (i + 1)) (cor r k) (cor r (k + 1)) = o2 at *
                    by_cases hk0 : k = 0
                    · have hd2 : ((k : Int) == 0) = true := by simp; omega
                      have hd3 : ((i : Int) == (r.length : Int) - 1) = false := by rw [beq_eq_false_iff_ne]; omega
                      replace h1 := hide h1
                      replace h2 := hide h2
                      replace hk0 := hide hk0
                      go_wp2_with fail
                      refine (hMe.out _).mono ?_
                      rintro e w2 ⟨rfl, hg2⟩
                      have hgE := hg.t (hg10.t hg2)
                      have hgE' := hgx.t (hg10.t hg2)
                      have hb8' := hb8.pure (hg10.t hg2)
                      clear s0 s1 s2 s3 t0 t1 t2 t3
                      cases o2 with
                      | true =>
                        have hF := hide (hF1.out i hlt (any_yes hkl hTt.out))
                        go_wp2_with fail
                        go_ret
                        exact ⟨ret_int hF.out.symm, hgE⟩
                      | false =>
                        have hin2 : Hid (∀ k', k' < k + 1 → refT r i k' = false) := fun k' hk' => by
                          by_cases e : k' < k
                          · exact hin.out k' e
                          · rw [show k' = k by omega]; exact hTt.out
                        go_wp2_with fail
                        first
                          | exact ⟨⟨k + 1, by omega, by go_num, hb8', hgE', hin2⟩, by simp [intOf]; omega⟩
                          | (go_roundw; (case rel => exact ⟨k + 1, by omega, by go_num, hb8', hgE', hin2⟩); (case measure => simp [intOf]; omega))
                    · have hd2 : ((k : Int) == 0) = false := by rw [beq_eq_false_iff_ne]; omega
                      replace h1 := hide h1
                      replace h2 := hide h2
                      replace hk0 := hide hk0
                      go_wp2_with fail
                      refine (hMe.out _).mono ?_
                      rintro e w2 ⟨rfl, hg2⟩
                      have hgE := hg.t (hg10.t hg2)
                      have hgE' := hgx.t (hg10.t hg2)
                      have hb8' := hb8.pure (hg10.t hg2)
                      clear s0 s1 s2 s3 t0 t1 t2 t3
                      cases o2 with
                      | true =>
                        have hF := hide (hF1.out i hlt (any_yes hkl hTt.out))
                        go_wp2_with fail
                        go_ret
                        exact ⟨ret_int hF.out.symm, hgE⟩
                      | false =>
                        have hin2 : Hid (∀ k', k' < k + 1 → refT r i k' = false) := fun k' hk' => by
                          by_cases e : k' < k
                          · exact hin.out k' e
                          · rw [show k' = k by omega]; exact hTt.out
                        go_wp2_with fail
                        first
                          | exact ⟨⟨k + 1, by omega, by go_num, hb8', hgE', hin2⟩, by simp [intOf]; omega⟩
                          | (go_roundw; (case rel => exact ⟨k + 1, by omega, by go_num, hb8', hgE', hin2⟩); (case measure => simp [intOf]; omega))
              · obtain rfl : k = i := by omega
                have hall2 : Hid (∀ i, i < k + 1 → ∀ j, j < i → refT r i j = false) := fun i' hi' j hj => by
                  by_cases e : i' < k
                  · exact hall.out i' e j hj
                  · obtain rfl : i' = k := by omega
                    exact hin.out j hj
                clear hb8
                go_wp2_with fail
                first
                  | exact ⟨⟨k + 1, by omega, by go_num, hgx, hall2⟩, by simp [intOf]; omega⟩
                  | (go_roundw; (case rel => exact ⟨k + 1, by omega, by go_num, hgx, hall2⟩); (case measure => simp [intOf]; omega))
          · obtain rfl : i = r.length := by omega
            have hF := hide (hF0.out hall.out)
            go_wp2_with fail
            go_ret
            exact ⟨ret_int hF.out.symm, hgw.t hg0⟩

end Go.Proofs.YtgcpegjggakemaaGreatDoor

namespace Go.Proofs.YtgcpegjggakemaaGreatDoor
open Go Go.RowKit Go.Bl

def meetS (s x : Sg) : Bool := meetR s.a s.b x.a x.b
/-- a captured side, beside a row of sides: all are near -/
structure SgH (w : World) (gc : Nat) (s : Sg) (l : List Sg) : Prop where
  c0 : w.cell? ⟨gc, 0, none⟩ = some (.int .i64 s.a.x)
  c1 : w.cell? ⟨gc, 1, none⟩ = some (.int .i64 s.a.y)
  c2 : w.cell? ⟨gc, 2, none⟩ = some (.int .i64 s.b.x)
  c3 : w.cell? ⟨gc, 3, none⟩ = some (.int .i64 s.b.y)
  bs : bdP s.a ∧ bdP s.b
  bl : ∀ x ∈ l, bdP x.a ∧ bdP x.b

theorem SgH.gr {w w' : World} {gc : Nat} {s : Sg} {l : List Sg} (h : SgH w gc s l) (hg : w.grownBy w' none) : SgH w' gc s l := ⟨hg.k h.c0, hg.k h.c1, hg.k h.c2, hg.k h.c3, h.bs, h.bl⟩

set_option maxHeartbeats 1000000 in
theorem regClo_any (s : Sg) (gc : Nat) (l : List Sg) (y : Sg) (w : World) (h : SgH w gc s l) (hx : bdP y.a ∧ bdP y.b) :
    Calls Tryz.prog 74 #[.agg #[.int .i64 y.a.x, .int .i64 y.a.y, .int .i64 y.b.x, .int .i64 y.b.y], .pointer (some ⟨gc, 0, none⟩)] w fun e w' => e = .returned (.bool (meetS s y)) ∧ w.grownBy w' none := by
  have hM := hide fun w => meetRef_any s.a s.b y.a y.b w h.bs.1 h.bs.2 hx.1 hx.2
  have hV : Hid (meetS s y = meetR s.a s.b y.a y.b) := rfl
  rw [hV.out]
  generalize meetR s.a s.b y.a y.b = m at *
  go_enter Tryz.func74, Tryz.ntmps74
  go_upto_region 1 with fail
  obtain ⟨w2, hw2⟩ : ∃ x, x = (w).alloc (.cells [.int .i64 y.a.x, .int .i64 y.a.y, .int .i64 y.b.x, .int .i64 y.b.y].toArray 109) := ⟨_, rfl⟩
  have hg2 : (w).grownBy w2 none := by rw [hw2]; exact gr_alloc (World.grownBy.refl _ _) _
  have hb2 : Box w2 (w).heap.size 109 [.int .i64 y.a.x, .int .i64 y.a.y, .int .i64 y.b.x, .int .i64 y.b.y] := by rw [hw2]; exact Box.new _ _ _
  have hxs2 := hb2.lt
  rw [← hw2]
  clear hw2
  obtain ⟨x2, hx2⟩ : ∃ x, x = (w).heap.size := ⟨_, rfl⟩
  rw [← hx2] at hb2 hxs2 ⊢
  have hxl2 : (w).heap.size ≤ x2 := by omega
  clear hx2
  have s0 := hg2.k h.c0
  have s1 := hg2.k h.c1
  have s2 := hg2.k h.c2
  have s3 := hg2.k h.c3
  obtain ⟨t0, -⟩ := hb2.c 0 rfl
  obtain ⟨t1, -⟩ := hb2.c 1 rfl
  obtain ⟨t2, -⟩ := hb2.c 2 rfl
  obtain ⟨t3, -⟩ := hb2.c 3 rfl
  clear h hx
  go_wp2_with fail
  refine (hM.out _).mono ?_
  rintro e w1 ⟨rfl, hg1⟩
  go_wp2_with fail
  go_ret
  exact ⟨rfl, hg2.t hg1⟩

set_option maxHeartbeats 800000 in
set_option maxRecDepth 100000 in
theorem indexSg_any (s : Sg) (gc : Nat) (A : Option Addr) (c : Nat) (l : List Sg) (w : World) (hl : Sl w 0 A l) (hp : SgH w gc s l) :
    Calls Tryz.prog 145 #[.slice A l.length c, .func (.func 74) #[] #[.pointer (some ⟨gc, 0, none⟩)]] w fun e w' => ∃ r : Int, e = .returned (.int .i64 r) ∧ decide (0 ≤ r) = l.any (meetS s) ∧ w.grownBy w' none := by
  have hm := hl.1
  unfold maxLen at hm
  go_enter Tryz.func145, Tryz.ntmps145
  go_wp2
  go_loopw [8] (fun i wr => ∃ k : Nat, k ≤ l.length ∧ i = .int .i64 k ∧ w.grownBy wr none ∧ Hid ((l.take k).any (meetS s) = false)) (fun i _ => l.length - (intOf i).toNat)
  case atStart => exact ⟨0, Nat.zero_le _, rfl, World.grownBy.refl _ _, by simp [Hid]⟩
  case round =>
    obtain ⟨k, hk, rfl, hg, hall⟩ := hrel
    by_cases hlt : k < l.length
    · obtain ⟨g, o, rfl, -, hb1, hcell⟩ := sl_sg (hl.pure hg) (by omega)
      obtain ⟨⟨c0, c1⟩, c2, c3⟩ := hcell k hlt
      clear hcell
      have HS : Hid ((l.take (k + 1)).any (meetS s) = ((l.take k).any (meetS s) || (meetS s) l[k])) := by rw [Hid, take_snoc hlt, List.any_append]; simp
      have HA : Hid ((meetS s) l[k] = true → l.any (meetS s) = true) := fun h => List.any_eq_true.2 ⟨_, List.getElem_mem _, h⟩
      have hmem := List.getElem_mem hlt
      have hp' := SgH.gr hp hg
      generalize l[k] = f at *
      obtain ⟨bb, hbb⟩ : ∃ bb, (meetS s) f = bb := ⟨_, rfl⟩
      have hcon := regClo_any s gc l f wr hp' (hp'.bl _ hmem)
      simp only [hbb] at hcon HS HA
      replace hcon := hide hcon
      replace hbb := hide hbb
      replace HS := hide HS
      replace HA := hide HA
      replace hmem := hide hmem
      go_wp2_with fail
      refine (hcon.out).mono ?_
      rintro e w' ⟨rfl, hg'⟩
      cases bb
      · go_wp2_with fail
        (go_roundw; (case rel => exact ⟨k + 1, by omega, by go_num, gr_trans hg hg', by rw [Hid, HS.out, hall.out]; rfl⟩); (case measure => simp [intOf]; omega))
      · have HB := hide (HA.out rfl)
        go_wp2_with fail
        go_ret
        exact ⟨k, rfl, by rw [HB.out]; simp, gr_trans hg hg'⟩
    · have HB : Hid (l.any (meetS s) = false) := by have := hall.out; rwa [List.take_of_length_le (by omega)] at this
      go_wp2
      go_ret
      exact ⟨-1, rfl, by rw [HB.out]; rfl, hg⟩

set_option maxHeartbeats 400000 in
theorem containsSg_any (s : Sg) (gc : Nat) (A : Option Addr) (c : Nat) (l : List Sg) (w : World) (hl : Sl w 0 A l) (hp : SgH w gc s l) :
    Calls Tryz.prog 73 #[.slice A l.length c, .func (.func 74) #[] #[.pointer (some ⟨gc, 0, none⟩)]] w fun e w' => e = .returned (.bool (l.any (meetS s))) ∧ w.grownBy w' none := by
  go_enter Tryz.func73, Tryz.ntmps73
  go_wp2_with fail
  refine (indexSg_any _ _ _ _ _ _ hl (by assumption)).mono ?_
  rintro e w1 ⟨r, rfl, hr, hg⟩
  replace hr := hide hr
  go_wp2_with fail
  go_ret
  exact ⟨ret_bool hr.out, hg⟩

theorem seg_any (r q : List Pt) (a : Nat) : (segK q q.length).any (meetS ⟨cor r a, cor r (a + 1)⟩) = (List.range q.length).any fun b => meetR (cor r a) (cor r (a + 1)) (cor q b) (cor q (b + 1)) := by
  unfold segK; rw [List.any_map]; rfl

theorem seg_bd {r : List Pt} (h : ∀ p ∈ r, bdP p) (h0 : 0 < r.length) : ∀ x ∈ segK r r.length, bdP x.a ∧ bdP x.b := by
  intro x hx
  unfold segK at hx
  obtain ⟨k, hk, rfl⟩ := List.mem_map.1 hx
  exact ⟨h _ (cor_mem h0 _), h _ (cor_mem h0 _)⟩

set_option maxHeartbeats 8000000 in
set_option maxRecDepth 100000 in
theorem regionFault_any (A : Option Addr) (c : Nat) (rs : List (List Pt)) (w : World) (hl : Sl w 0 A rs) (hs : (flatK rs rs.length).length ≤ 1000000) (hrc : rs.length ≤ c) :
    Calls Tryz.prog 13 #[.slice A rs.length c] w fun e w' => e = .returned (.int .i64 (regF rs)) ∧ w.grownBy w' none := by
  have hm := hl.1
  unfold maxLen at hm
  rw [regF_eq]
  have hV : Hid (regR rs = if 100 < rs.length ∨ 2000 < (flatK rs rs.length).length then 2
    else if scanN (fun k => ringR (rs.getD k [])) rs.length ≠ 0 then scanN (fun k => ringR (rs.getD k [])) rs.length
    else if pairsR rs then 13 else 0) := rfl
  by_cases h1 : 100 < rs.length
  · have hF : Hid (regR rs = 2) := by rw [Hid, hV.out, if_pos (.inl h1)]
    clear hV
    go_enter Tryz.func13, Tryz.ntmps13
    go_wp2_with fail
    go_ret
    exact ⟨ret_int hF.out.symm, World.grownBy.refl _ _⟩
  have hCo := concatRings_any A c rs w hl hs
  by_cases h2 : 2000 < (flatK rs rs.length).length
  · have hF : Hid (regR rs = 2) := by rw [Hid, hV.out, if_pos (.inr h2)]
    clear hV
    go_enter Tryz.func13, Tryz.ntmps13
    go_wp2_with fail
    refine hCo.mono ?_
    rintro e w1 ⟨A1, c1, rfl, -, hg1⟩
    go_wp2_with fail
    go_ret
    exact ⟨ret_int hF.out.symm, hg1⟩
  have hV2 : Hid (regR rs = if scanN (fun k => ringR (rs.getD k [])) rs.length ≠ 0 then scanN (fun k => ringR (rs.getD k [])) rs.length
    else if pairsR rs then 13 else 0) := by rw [Hid, hV.out, if_neg (by omega)]
  clear hV
  have hS1 : Hid (∀ k, k < rs.length → scanN (fun k => ringR (rs.getD k [])) k = 0 → ringR (rs.getD k []) ≠ 0 → regR rs = ringR (rs.getD k [])) := fun k hk h0 hf => by
    have := scanN_at (f := fun k => ringR (rs.getD k [])) h0 hf hk
    rw [hV2.out, if_pos (by rw [this]; exact hf), this]
  have hS0 : Hid (scanN (fun k => ringR (rs.getD k [])) rs.length = 0 → regR rs = if pairsR rs then 13 else 0) := fun h => by
    rw [hV2.out, if_neg (by rw [h]; simp)]
  have hfl := hide fun k => flatK_le rs k
  clear hV2
  go_enter Tryz.func13, Tryz.ntmps13
  go_wp2_with fail
  refine hCo.mono ?_
  rintro e w1 ⟨A1, c1, rfl, -, hg1⟩
  clear hCo
  go_wp2_with fail
  go_loopw [23] (fun i wr => ∃ k : Nat, k ≤ rs.length ∧ i = .int .i64 k ∧ w.grownBy wr none ∧ Hid (scanN (fun k => ringR (rs.getD k [])) k = 0)) (fun i _ => rs.length - (intOf i).toNat)
  case atStart => exact ⟨0, Nat.zero_le _, rfl, hg1, rfl⟩
  case round =>
    clear hg1
    obtain ⟨k, hk, rfl, hg, hall⟩ := hrel
    by_cases hlt : k < rs.length
    · obtain ⟨g, o, Bk, dk, rfl, hb1, c0, hdk, hsl⟩ := sl_inner' hl hlt
      replace c0 := hg.k c0
      have hRF := ringFaultRef_any Bk dk rs[k] wr (hsl.pure hg) hdk
      have e1 : rs.getD k [] = rs[k] := by simp [List.getD, hlt]
      have hA := hide (hS1.out k hlt hall.out)
      rw [e1] at hA
      have hN : Hid (ringR rs[k] = 0 → scanN (fun k => ringR (rs.getD k [])) (k + 1) = 0) := fun h => by
        unfold scanN
        rw [if_pos hall.out]
        simp only [e1]; exact h
      generalize ringR rs[k] = F at *
      replace hdk := hide hdk
      by_cases hz : F = 0
      · subst hz
        have hN2 := hide (hN.out rfl)
        clear hA hN e1
        go_wp2_with fail
        refine hRF.mono ?_
        rintro e w2 ⟨rfl, hg2⟩
        clear hRF
        go_wp2_with fail
        first
          | exact ⟨⟨k + 1, by omega, by go_num, hg.t hg2, hN2⟩, by simp [intOf]; omega⟩
          | (go_roundw; (case rel => exact ⟨k + 1, by omega, by go_num, hg.t hg2, hN2⟩); (case measure => simp [intOf]; omega))
      · have hF := hide (hA.out hz)
        have hb : (F != 0) = true := by simp [hz]
        clear hA hN e1
        replace hz := hide hz
        go_wp2_with fail
        refine hRF.mono ?_
        rintro e w2 ⟨rfl, hg2⟩
        clear hRF
        go_wp2_with fail
        go_ret
        exact ⟨ret_int hF.out.symm, hg.t hg2⟩
    · obtain rfl : k = rs.length := by omega
      have hP := hide (hS0.out hall.out)
      have hzz : Hid (∀ k (h : k < rs.length), 3 ≤ rs[k].length ∧ rs[k].length ≤ 500 ∧ ∀ p ∈ rs[k], bdP p) := fun k h => by
        have := scanN_zero' hall.out k h
        have e1 : rs.getD k [] = rs[k] := by simp [List.getD, h]
        simp only [e1] at this
        rw [← ringF_eq] at this
        have := ringF_ok this
        exact ⟨this.1, this.2.1, this.2.2.1⟩
      have hF1 : Hid (∀ i k, i < rs.length → k < i → ∀ a, a < (rs.getD i []).length → (segK (rs.getD k []) (rs.getD k []).length).any (meetS ⟨cor (rs.getD i []) a, cor (rs.getD i []) (a + 1)⟩) = true → regR rs = 13) := fun i k hi hk a ha h => by
        have : pairsR rs = true := any_yes hi (any_yes hk (any_yes ha (by rw [← seg_any]; exact h)))
        rw [hP.out, this]; rfl
      have hF0 : Hid ((∀ i k, i < rs.length → k < i → ∀ a, a < (rs.getD i []).length → (segK (rs.getD k []) (rs.getD k []).length).any (meetS ⟨cor (rs.getD i []) a, cor (rs.getD i []) (a + 1)⟩) = false) → regR rs = 0) := fun h => by
        have : pairsR rs = false := any_no fun i hi => any_no fun k hk => any_no fun a ha => by rw [← seg_any]; exact h i k hi hk a ha
        rw [hP.out, this]; rfl
      clear hS1 hS0 hP hall
      go_wp2_with fail
      go_loopw [35] (fun i wr => ∃ i' : Nat, i' ≤ rs.length ∧ i = .int .i64 i' ∧ w.grownBy wr none ∧ Hid (∀ i k, i < i' → k < i → ∀ a, a < (rs.getD i []).length → (segK (rs.getD k []) (rs.getD k []).length).any (meetS ⟨cor (rs.getD i []) a, cor (rs.getD i []) (a + 1)⟩) = false)) (fun i _ => rs.length - (intOf i).toNat)
      case atStart => exact ⟨0, Nat.zero_le _, rfl, hg, fun i k hi => by omega⟩
      case round =>
        clear hg
        obtain ⟨i, hi, rfl, hg, hall⟩ := hrel
        obtain ⟨wo, rfl⟩ : ∃ x, x = wr := ⟨wr, rfl⟩
        by_cases hlt : i < rs.length
        · obtain ⟨g, o, Bi, di, rfl, hb1, c0, hdi, hsli⟩ := sl_inner' hl hlt
          replace c0 := hg.k c0
          have ei : rs.getD i [] = rs[i] := by simp [List.getD, hlt]
          obtain ⟨hi3, hi5, hbi⟩ := hzz.out i hlt
          have hic : i ≤ c := by omega
          have hlc : ∀ (k : Nat), k < i → ∃ Bk dk, (∀ wx, w.grownBy wx none → wx.cell? ⟨g, o + k, none⟩ = some (.slice Bk (rs.getD k []).length dk)) ∧ Sl w 0 Bk (rs.getD k []) ∧ (3 ≤ (rs.getD k []).length ∧ (rs.getD k []).length ≤ 500 ∧ ∀ p ∈ rs.getD k [], bdP p) := fun k hk => by
            have hkl : k < rs.length := by omega
            obtain ⟨g', o', Bk, dk, e, -, c0, -, hslk⟩ := sl_inner' hl hkl
            cases e
            have ek : rs.getD k [] = rs[k] := by simp [List.getD, hkl]
            rw [ek]
            exact ⟨Bk, dk, fun wx hx => hx.k c0, hslk, hzz.out k hkl⟩
          have hall' := hall
          have hF1i : Hid (∀ k, k < i → ∀ a, a < rs[i].length → (segK (rs.getD k []) (rs.getD k []).length).any (meetS ⟨cor rs[i] a, cor rs[i] (a + 1)⟩) = true → regR rs = 13) := fun k hk a ha => by
            have := hF1.out i k hlt hk a (by rw [ei]; exact ha)
            rw [ei] at this; exact this
          have hNx : Hid ((∀ k, k < i → ∀ a, a < rs[i].length → (segK (rs.getD k []) (rs.getD k []).length).any (meetS ⟨cor rs[i] a, cor rs[i] (a + 1)⟩) = false) → ∀ i' k, i' < i + 1 → k < i' → ∀ a, a < (rs.getD i' []).length → (segK (rs.getD k []) (rs.getD k []).length).any (meetS ⟨cor (rs.getD i' []) a, cor (rs.getD i' []) (a + 1)⟩) = false) := fun h i' k hi' hk a ha => by
            by_cases e : i' < i
            · exact hall'.out i' k e hk a ha
            · obtain rfl : i' = i := by omega
              rw [ei] at ha ⊢
              exact h k hk a ha
          clear hall hall' ei
          generalize rs[i] = r at *
          replace hlc := hide hlc
          replace hbi := hide hbi
          replace hdi := hide hdi
          go_wp2_with fail
          go_loopw [44] (fun s wx => ∃ k : Nat, k ≤ i ∧ s = .int .i64 k ∧ w.grownBy wx none ∧ Hid (∀ k', k' < k → ∀ a, a < r.length → (segK (rs.getD k' []) (rs.getD k' []).length).any (meetS ⟨cor r a, cor r (a + 1)⟩) = false)) (fun s _ => i - (intOf s).toNat)
          case atStart => exact ⟨0, Nat.zero_le _, rfl, hg, fun k' hk' => by omega⟩
          case round =>
            clear hg c0
            obtain ⟨k, hk, rfl, hg, hin⟩ := hrel
            obtain ⟨wo2, rfl⟩ : ∃ x, x = wr := ⟨wr, rfl⟩
            by_cases hki : k < i
            · obtain ⟨Bk, dk, ck, hslk, hk3, hk5, hbk⟩ := hlc.out k hki
              have c0 := ck _ hg
              have hF1k := hide (hF1i.out k hki)
              have hNk : Hid ((∀ a, a < r.length → (segK (rs.getD k []) (rs.getD k []).length).any (meetS ⟨cor r a, cor r (a + 1)⟩) = false) → ∀ k', k' < k + 1 → ∀ a, a < r.length → (segK (rs.getD k' []) (rs.getD k' []).length).any (meetS ⟨cor r a, cor r (a + 1)⟩) = false) := fun h k' hk' => by
                by_cases e : k' < k
                · exact hin.out k' e
                · obtain rfl : k' = k := by omega
                  exact h
              clear hin ck
              generalize rs.getD k [] = q at *
              replace hbk := hide hbk
              have hSi := fun wx (hx : w.grownBy wx none) => sidesRef_any Bi di r wx (hsli.pure hx) (by omega)
              go_wp2_with fail
              refine (hSi _ hg).mono ?_
              rintro e w6 ⟨A6, c6, rfl, hown6, hg6⟩
              clear hSi c0
              have hsl6 := hown6.sl.mono (Nat.zero_le _)
              obtain ⟨g6, o6, rfl, -, hb6, hcell⟩ := sl_sg hsl6 (by rw [segK_len]; omega)
              have hcl : Hid (∀ (wx : World), w6.grownBy wx none → ∀ k, k < r.length → (wx.cell? ⟨g6, o6 + k * 4, none⟩ = some (.int .i64 (cor r k).x) ∧ wx.cell? ⟨g6, o6 + k * 4 + 1, none⟩ = some (.int .i64 (cor r k).y)) ∧ wx.cell? ⟨g6, o6 + k * 4 + 2, none⟩ = some (.int .i64 (cor r (k + 1)).x) ∧ wx.cell? ⟨g6, o6 + k * 4 + 3, none⟩ = some (.int .i64 (cor r (k + 1)).y)) := fun wx hx k hk => by
                obtain ⟨⟨h1, h2⟩, h3, h4⟩ := hcell k (by rw [segK_len]; exact hk)
                rw [segK_get] at h1 h2 h3 h4
                exact ⟨⟨hx.k h1, hx.k h2⟩, hx.k h3, hx.k h4⟩
              have hgw6 := hg.t hg6
              clear hcell hsl6 hown6 hg hg6
              go_wp2_with fail
              go_loopw [51] (fun s wx => ∃ a : Nat, a ≤ r.length ∧ s = .int .i64 a ∧ w6.grownBy wx none ∧ Hid (∀ a', a' < a → (segK q q.length).any (meetS ⟨cor r a', cor r (a' + 1)⟩) = false)) (fun s _ => r.length - (intOf s).toNat)
              case atStart => exact ⟨0, Nat.zero_le _, rfl, World.grownBy.refl _ _, fun a' ha' => by omega⟩
              case round =>
                obtain ⟨a, ha, rfl, hgx, hia⟩ := hrel
                by_cases hal : a < r.length
                · obtain ⟨⟨c0, c1⟩, c2, c3⟩ := hcl.out wr hgx a hal
                  have hgr := hgw6.t hgx
                  have hF1a := hide (hF1k.out a hal)
                  have hba : bdP (cor r a) := hbi.out _ (cor_mem (by omega) _)
                  have hba1 : bdP (cor r (a + 1)) := hbi.out _ (cor_mem (by omega) _)
                  go_upto_region 19 with fail
                  obtain ⟨w11, hw11⟩ : ∃ x, x = (wr).alloc (.cells [.int .i64 (cor r a).x, .int .i64 (cor r a).y, .int .i64 (cor r (a + 1)).x, .int .i64 (cor r (a + 1)).y].toArray 109) := ⟨_, rfl⟩
                  have hg11 : (wr).grownBy w11 none := by rw [hw11]; exact gr_alloc (World.grownBy.refl _ _) _
                  have hb11 : Box w11 (wr).heap.size 109 [.int .i64 (cor r a).x, .int .i64 (cor r a).y, .int .i64 (cor r (a + 1)).x, .int .i64 (cor r (a + 1)).y] := by rw [hw11]; exact Box.new _ _ _
                  have hxs11 := hb11.lt
                  rw [← hw11]
                  clear hw11
                  obtain ⟨x11, hx11⟩ : ∃ x, x = (wr).heap.size := ⟨_, rfl⟩
                  rw [← hx11] at hb11 hxs11 ⊢
                  have hxl11 : (wr).heap.size ≤ x11 := by omega
                  clear hx11
                  clear c0 c1 c2 c3
                  have hSk := fun wx (hx : w.grownBy wx none) => sidesRef_any Bk dk q wx (hslk.pure hx) (by omega)
                  go_wp2_with fail
                  refine (hSk _ (hgr.t hg11)).mono ?_
                  rintro e w7 ⟨A7, c7, rfl, hown7, hg7⟩
                  clear hSk
                  have hb11' := hb11.pure hg7
                  have hH : SgH w7 x11 ⟨cor r a, cor r (a + 1)⟩ (segK q q.length) := ⟨(hb11'.c 0 rfl).1, (hb11'.c 1 rfl).1, (hb11'.c 2 rfl).1, (hb11'.c 3 rfl).1, ⟨hba, hba1⟩, seg_bd hbk.out (by omega)⟩
                  have hCF := containsSg_any ⟨cor r a, cor r (a + 1)⟩ x11 A7 c7 (segK q q.length) w7 (hown7.sl.mono (Nat.zero_le _)) hH
                  rw [segK_len] at hCF
                  have hgE := hgx.t (hg11.t hg7)
                  clear hH hown7 hb11 hb11'
                  obtain ⟨bb, hbb⟩ : ∃ b, (segK q q.length).any (meetS ⟨cor r a, cor r (a + 1)⟩) = b := ⟨_, rfl⟩
                  rw [hbb] at hCF
                  cases bb with
                  | true =>
                    have hF := hide (hF1a.out hbb)
                    replace hbb := hide hbb
                    go_wp2_with fail
                    refine hCF.mono ?_
                    rintro e w8 ⟨rfl, hg8⟩
                    go_wp2_with fail
                    go_ret
                    exact ⟨ret_int hF.out.symm, hgw6.t (hgE.t hg8)⟩
                  | false =>
                    have hia2 : Hid (∀ a', a' < a + 1 → (segK q q.length).any (meetS ⟨cor r a', cor r (a' + 1)⟩) = false) := fun a' ha' => by
                      by_cases e : a' < a
                      · exact hia.out a' e
                      · obtain rfl : a' = a := by omega
                        exact hbb
                    clear hF1a
                    replace hbb := hide hbb
                    go_wp2_with fail
                    refine hCF.mono ?_
                    rintro e w8 ⟨rfl, hg8⟩
                    clear hCF
                    go_wp2_with fail
                    first
                      | exact ⟨⟨a + 1, by omega, by go_num, hgE.t hg8, hia2⟩, by simp [intOf]; omega⟩
                      | (go_roundw; (case rel => exact ⟨a + 1, by omega, by go_num, hgE.t hg8, hia2⟩); (case measure => simp [intOf]; omega))
                · obtain rfl : a = r.length := by omega
                  have hin2 := hide (hNk.out hia.out)
                  have hgr := hgw6.t hgx
                  clear hia hF1k hNk
                  go_wp2_with fail
                  first
                    | exact ⟨⟨k + 1, by omega, by go_num, hgr, hin2⟩, by simp [intOf]; omega⟩
                    | (go_roundw; (case rel => exact ⟨k + 1, by omega, by go_num, hgr, hin2⟩); (case measure => simp [intOf]; omega))
            · obtain rfl : k = i := by omega
              have hall2 := hide (hNx.out hin.out)
              go_wp2_with fail
              first
                | exact ⟨⟨k + 1, by omega, by go_num, hg, hall2⟩, by simp [intOf]; omega⟩
                | (go_roundw; (case rel => exact ⟨k + 1, by omega, by go_num, hg, hall2⟩); (case measure => simp [intOf]; omega))
        · obtain rfl : i = rs.length := by omega
          have hF := hide (hF0.out hall.out)
          go_wp2_with fail
          go_ret
          exact ⟨ret_int hF.out.symm, hg⟩

end Go.Proofs.YtgcpegjggakemaaGreatDoor

namespace Go.Bl
open Go
/-- cross and dot product -/
def crV (u v : Pt) : Int := u.x * v.y - u.y * v.x

def doV (u v : Pt) : Int := u.x * v.x + u.y * v.y

def subP (b a : Pt) : Pt := ⟨b.x - a.x, b.y - a.y⟩
/-- in the same direction -/
def parV (u v : Pt) : Prop := crV u v = 0 ∧ 0 < doV u v

theorem crV_anti (u v : Pt) : crV v u = -crV u v := by unfold crV; grind

theorem doV_comm (u v : Pt) : doV v u = doV u v := by unfold doV; grind

theorem parV_symm {u v : Pt} (h : parV u v) : parV v u := by
  have h1 := crV_anti u v
  have h2 := doV_comm u v
  exact ⟨by have := h.1; omega, by have := h.2; omega⟩

theorem sq_pos {x : Int} (h : x ≠ 0) : 0 < x * x := by
  rcases Int.lt_or_gt_of_ne h with h | h
  · exact Int.mul_pos_of_neg_of_neg h h
  · exact Int.mul_pos h h

theorem sq_nn (x : Int) : 0 ≤ x * x := by
  by_cases h : x = 0
  · rw [h]; decide
  · have := sq_pos h; omega

theorem doV_self {u : Pt} (h : u.x ≠ 0 ∨ u.y ≠ 0) : 0 < doV u u := by
  unfold doV
  have h1 := sq_nn u.x
  have h2 := sq_nn u.y
  rcases h with h | h
  · have := sq_pos h; omega
  · have := sq_pos h; omega

theorem doV_ne {u v : Pt} (h : doV u v ≠ 0) : u.x ≠ 0 ∨ u.y ≠ 0 := by
  by_cases h1 : u.x = 0
  · by_cases h2 : u.y = 0
    · exfalso; apply h; unfold doV; rw [h1, h2, Int.zero_mul, Int.zero_mul]; rfl
    · exact .inr h2
  · exact .inl h1

theorem parV_ne {u v : Pt} (h : parV u v) : u.x ≠ 0 ∨ u.y ≠ 0 := doV_ne (v := v) (by have := h.2; omega)

theorem parV_self {u v : Pt} (h : parV u v) : parV u u := ⟨by unfold crV; rw [Int.mul_comm]; omega, doV_self (parV_ne h)⟩

theorem par_id1 (u v w : Pt) : crV u w * doV v v = crV u v * doV v w + crV v w * doV u v := by unfold crV doV; grind

theorem par_id2 (u v w : Pt) : doV u w * doV v v = doV u v * doV v w - crV u v * crV v w := by unfold crV doV; grind

theorem pos_of_mul {a b : Int} (hb : 0 < b) (h : 0 < a * b) : 0 < a := by
  rcases Int.lt_trichotomy a 0 with k | k | k
  · have := Int.mul_neg_of_neg_of_pos k hb; omega
  · rw [k, Int.zero_mul] at h; omega
  · exact k

theorem parV_trans {u v w : Pt} (h : parV u v) (k : parV v w) : parV u w := by
  have hv := doV_self (parV_ne k)
  have e1 := par_id1 u v w
  have e2 := par_id2 u v w
  rw [h.1, k.1, Int.zero_mul, Int.zero_mul] at e1
  rw [h.1, Int.zero_mul] at e2
  refine ⟨?_, pos_of_mul hv ?_⟩
  · rcases Int.mul_eq_zero.1 (show crV u w * doV v v = 0 by omega) with e | e
    · exact e
    · omega
  · rw [e2, Int.sub_zero]; exact Int.mul_pos h.2 k.2

def addP (a b : Pt) : Pt := ⟨a.x + b.x, a.y + b.y⟩

theorem parV_add {u v w : Pt} (h : parV u v) (k : parV u w) : parV u (addP v w) := by
  have e1 : crV u (addP v w) = crV u v + crV u w := by unfold crV addP; grind
  have e2 : doV u (addP v w) = doV u v + doV u w := by unfold doV addP; grind
  exact ⟨by rw [e1, h.1, k.1]; rfl, by rw [e2]; have := h.2; have := k.2; omega⟩
/-- of one sign -/
def ssg (a b : Int) : Prop := (0 < a ↔ 0 < b) ∧ (a < 0 ↔ b < 0)

theorem ssg_of {a b d e : Int} (hd : 0 < d) (he : 0 < e) (h : b * d = e * a) : ssg a b := by
  have p1 : 0 < a → 0 < e * a := fun k => Int.mul_pos he k
  have p2 : a < 0 → e * a < 0 := fun k => Int.mul_neg_of_pos_of_neg he k
  have p0 : a = 0 → e * a = 0 := fun k => by rw [k, Int.mul_zero]
  have q1 : 0 < b → 0 < b * d := fun k => Int.mul_pos k hd
  have q2 : b < 0 → b * d < 0 := fun k => Int.mul_neg_of_neg_of_pos k hd
  have q0 : b = 0 → b * d = 0 := fun k => by rw [k, Int.zero_mul]
  unfold ssg
  generalize b * d = s at *
  generalize e * a = t at *
  omega

theorem ssg_trans {a b c : Int} (h : ssg a b) (k : ssg b c) : ssg a c := ⟨h.1.trans k.1, h.2.trans k.2⟩

theorem ssg_zero {a b : Int} (h : ssg a b) : a = 0 ↔ b = 0 := by have h1 := h.1; have h2 := h.2; omega

theorem cr_id (u v x : Pt) : crV v x * doV u u = doV u v * crV u x - crV u v * doV u x := by unfold crV doV; grind

theorem par_cr {u v : Pt} (h : parV u v) (x : Pt) : ssg (crV u x) (crV v x) := by
  have e := cr_id u v x
  rw [h.1, Int.zero_mul, Int.sub_zero] at e
  exact ssg_of (doV_self (parV_ne h)) h.2 e

theorem par_cr2 {u v x y : Pt} (h : parV u v) (k : parV x y) : ssg (crV u x) (crV v y) := by
  have h1 := par_cr h x
  have h2 := par_cr k v
  rw [crV_anti v x, crV_anti v y] at h2
  refine ssg_trans h1 ?_
  unfold ssg at *
  omega

theorem par_x {u v : Pt} (h : parV u v) : ssg u.x v.x := by
  have := par_cr h ⟨0, 1⟩
  unfold crV at this
  simpa using this

theorem par_y {u v : Pt} (h : parV u v) : ssg u.y v.y := by
  have := par_cr h ⟨-1, 0⟩
  unfold crV at this
  simpa using this

theorem turn_cr (a b c : Pt) : turnP a b c = crV (subP b a) (subP c a) := rfl

theorem turn_cr2 (a b c : Pt) : turnP a b c = crV (subP b a) (subP c b) := by unfold turnP crV subP; grind
/-- a long way's turns -/
theorem par_long {a b c : Pt} (h : parV (subP b a) (subP c b)) : parV (subP b a) (subP c a) := by
  have e : subP c a = addP (subP b a) (subP c b) := by unfold subP addP; simp only [Pt.mk.injEq]; omega
  rw [e]
  exact parV_add (parV_self h) h

theorem turn_long {a b c : Pt} (h : parV (subP b a) (subP c b)) (x : Pt) : ssg (turnP a b x) (turnP a c x) := by
  rw [turn_cr a b x, turn_cr a c x]
  exact par_cr (par_long h) _

theorem turn_rest {a b c : Pt} (h : parV (subP b a) (subP c b)) (x : Pt) : ssg (turnP a b x) (turnP b c x) := by
  have e : crV (subP c b) (subP x a) = turnP b c x := by
    have h0 := h.1
    have : turnP b c x = crV (subP c b) (subP x a) - crV (subP c b) (subP b a) := by unfold turnP crV subP; grind
    rw [this, crV_anti (subP b a), h0]; omega
  rw [turn_cr a b x, ← e]
  exact par_cr h _

theorem on_split {a b c p : Pt} (h : parV (subP b a) (subP c b)) (hz : turnP a c p = 0) (hb : boxP p a c) :
    (turnP a b p = 0 ∧ boxP p a b) ∨ (turnP b c p = 0 ∧ boxP p b c) := by
  have z1 := (ssg_zero (turn_long h p)).2 hz
  have z2 := (ssg_zero (turn_rest h p)).1 z1
  have hx := par_x h
  have hy := par_y h
  have hn := parV_ne h
  unfold ssg subP at hx hy
  unfold subP at hn
  simp only at hx hy hn
  unfold boxP at hb
  obtain ⟨⟨b1, b2⟩, b3, b4⟩ := hb
  by_cases hxx : a.x = b.x
  · have hyy : a.y ≠ b.y := by omega
    by_cases hc : min a.y b.y ≤ p.y ∧ p.y ≤ max a.y b.y
    · exact .inl ⟨z1, line_boxY z1 hyy hc.1 hc.2⟩
    · exact .inr ⟨z2, line_boxY z2 (by omega) (by omega) (by omega)⟩
  · by_cases hc : min a.x b.x ≤ p.x ∧ p.x ≤ max a.x b.x
    · exact .inl ⟨z1, line_box z1 hxx hc.1 hc.2⟩
    · exact .inr ⟨z2, line_box z2 (by omega) (by omega) (by omega)⟩

theorem mul_le_nn {s u v : Int} (hs : 0 ≤ s) (h : u ≤ v) : s * u ≤ s * v := Int.mul_le_mul_of_nonneg_left h hs

theorem cross_lap' {p q r s a b c d : Int} (e : p * b - q * a = s * c - r * d) (es : p - q = s - r) (h1 : 0 ≤ p ∧ q ≤ 0) (h2 : 0 < s ∧ r < 0) : min c d ≤ max a b ∧ min a b ≤ max c d := by
  have k1 : p * min a b ≤ p * b := mul_le_nn h1.1 (by omega)
  have k2 : -q * min a b ≤ -q * a := mul_le_nn (by omega) (by omega)
  have k3 : p * b ≤ p * max a b := mul_le_nn h1.1 (by omega)
  have k4 : -q * a ≤ -q * max a b := mul_le_nn (by omega) (by omega)
  have j1 : s * min c d ≤ s * c := mul_le_nn (by omega) (by omega)
  have j2 : -r * min c d ≤ -r * d := mul_le_nn (by omega) (by omega)
  have j3 : s * c ≤ s * max c d := mul_le_nn (by omega) (by omega)
  have j4 : -r * d ≤ -r * max c d := mul_le_nn (by omega) (by omega)
  have A : (p - q) * min a b ≤ (p - q) * max c d := by
    have x1 : (p - q) * min a b = p * min a b + -q * min a b := by grind
    have x2 : (p - q) * max c d = s * max c d + -r * max c d := by rw [es]; grind
    have y1 : -q * a = -(q * a) := by grind
    have y2 : -r * d = -(r * d) := by grind
    omega
  have B : (p - q) * min c d ≤ (p - q) * max a b := by
    have x1 : (p - q) * max a b = p * max a b + -q * max a b := by grind
    have x2 : (p - q) * min c d = s * min c d + -r * min c d := by rw [es]; grind
    have y1 : -q * a = -(q * a) := by grind
    have y2 : -r * d = -(r * d) := by grind
    omega
  exact ⟨Int.le_of_mul_le_mul_left B (by omega), Int.le_of_mul_le_mul_left A (by omega)⟩
/-- a way whose ends lie on both sides of another's line, or on it -/
theorem meet_cross' {a b c d : Pt} (h1 : turnP a b c < 0 ∧ 0 < turnP a b d ∨ 0 < turnP a b c ∧ turnP a b d < 0) (h2 : turnP c d a ≤ 0 ∧ 0 ≤ turnP c d b ∨ 0 ≤ turnP c d a ∧ turnP c d b ≤ 0) : meetM a b c d = true := by
  rw [meetM_iff]
  have eX := crossX a b c d
  have eY := crossY a b c d
  have eS := crossS a b c d
  refine ⟨?_, by omega, by omega⟩
  rcases h2 with h2 | h2
  · have h1' : 0 < turnP a b c ∧ turnP a b d < 0 := by omega
    have x := cross_lap' (p := turnP c d b) (q := turnP c d a) (r := turnP a b d) (s := turnP a b c) (a := b.x) (b := a.x) (c := d.x) (d := c.x) (by omega) (by omega) (by omega) (by omega)
    have y := cross_lap' (p := turnP c d b) (q := turnP c d a) (r := turnP a b d) (s := turnP a b c) (a := b.y) (b := a.y) (c := d.y) (d := c.y) (by omega) (by omega) (by omega) (by omega)
    omega
  · have h1' : turnP a b c < 0 ∧ 0 < turnP a b d := by omega
    exact ⟨cross_lap' eX eS (by omega) (by omega), cross_lap' eY eS (by omega) (by omega)⟩
/-- what a long way meets, one of its two parts meets -/
theorem meet_split {a b c p q : Pt} (h : parV (subP b a) (subP c b)) (hm : meetM a c p q = true) : meetM a b p q = true ∨ meetM b c p q = true := by
  rw [meetM_eq] at hm
  unfold meetR at hm
  simp only [Bool.or_eq_true, Bool.and_eq_true, onB_iff, crossB, decide_eq_true_eq] at hm
  rcases hm with (((k | k) | k) | k) | k
  · exact .inl (meet_on k.1 k.2)
  · exact .inr ((meetM_flip _ _ _ _).1 (meet_on k.1 k.2))
  · rcases on_split h k.1 k.2 with j | j
    · exact .inl ((meetM_sym _ _ _ _).1 (meet_on j.1 j.2))
    · exact .inr ((meetM_sym _ _ _ _).1 (meet_on j.1 j.2))
  · rcases on_split h k.1 k.2 with j | j
    · exact .inl ((meetM_sym _ _ _ _).1 ((meetM_flip _ _ _ _).1 (meet_on j.1 j.2)))
    · exact .inr ((meetM_sym _ _ _ _).1 ((meetM_flip _ _ _ _).1 (meet_on j.1 j.2)))
  · have s1 := turn_long h p
    have s2 := turn_long h q
    have r1 := turn_rest h p
    have r2 := turn_rest h q
    unfold ssg at s1 s2 r1 r2
    obtain ⟨k1, k2⟩ := k
    by_cases hb : turnP p q a ≤ 0 ∧ 0 ≤ turnP p q b ∨ 0 ≤ turnP p q a ∧ turnP p q b ≤ 0
    · exact .inl (meet_cross' (by omega) hb)
    · exact .inr (meet_cross' (by omega) (by omega))
/-- a corner that is straight, and does not fold back, goes on -/
theorem par_of {a b c : Pt} (hz : turnP a b c = 0) (hf : foldB b a c = false) (h1 : a ≠ b) (h2 : b ≠ c) : parV (subP b a) (subP c b) := by
  have hcr : crV (subP b a) (subP c b) = 0 := by rw [← turn_cr2]; exact hz
  have hz' : turnP b a c = 0 := by rw [turn_flip a b c]; omega
  unfold foldB at hf
  rw [decide_eq_true hz', Bool.true_and, decide_eq_false_iff_not] at hf
  have e : doV (subP b a) (subP c b) = -((a.x - b.x) * (c.x - b.x) + (a.y - b.y) * (c.y - b.y)) := by unfold doV subP; grind
  have hu : (subP b a).x ≠ 0 ∨ (subP b a).y ≠ 0 := by
    unfold subP; simp only
    rcases Classical.em (b.x - a.x = 0) with k | k
    · refine .inr fun k2 => h1 ?_
      cases a; cases b; simp only [Pt.mk.injEq] at *; omega
    · exact .inl k
  have hw : (subP c b).x ≠ 0 ∨ (subP c b).y ≠ 0 := by
    unfold subP; simp only
    rcases Classical.em (c.x - b.x = 0) with k | k
    · refine .inr fun k2 => h2 ?_
      cases c; cases b; simp only [Pt.mk.injEq] at *; omega
    · exact .inl k
  generalize subP b a = u at *
  generalize subP c b = v at *
  have hd : doV u v ≠ 0 := by
    intro h0
    have e2 : doV u v * doV u v + crV u v * crV u v = doV u u * doV v v := by unfold doV crV; grind
    rw [h0, hcr] at e2
    have := Int.mul_pos (doV_self hu) (doV_self hw)
    omega
  exact ⟨hcr, by omega⟩

end Go.Bl

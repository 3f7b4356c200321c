/- Contracts of functions that this seat's laws reach, each: what one call returns and what it leaves in memory; no condition beyond each theorem's own hypotheses. -/
import Derived.Test.YtjodjdjfagjiaaaQ3
import Derived.Test.YtjodjdjfagjiaaaQ1
set_option linter.unusedVariables false
set_option linter.unusedSimpArgs false
namespace Go.Proofs.Ytjodjdjfagjiaaa
open Go.RowKit Go.Bl

def turnV (axis : Int) : Nat → V3 → V3
  | 0, v => v
  | k + 1, v => qV axis (turnV axis k v)
theorem turnV_bd {axis : Int} {v : V3} {K : Int} (h : Bd K v) : ∀ k, Bd K (turnV axis k v)
  | 0 => h
  | k + 1 => qV_bd (turnV_bd h k)

/-- the closure's box of v and that of its result, over the world w -/

def VAt (w : World) (g : Nat) (v : V3) : Prop := Cell w g 0 (.int .i64 v.x) ∧ Cell w g 1 (.int .i64 v.y) ∧ Cell w g 2 (.int .i64 v.z)
theorem VAt.gr {w w' : World} {g : Nat} {v : V3} {r : Option Nat} (h : VAt w g v) (hg : w.grownBy w' r) (hr : r ≠ some g) : VAt w' g v := ⟨h.1.gr hg hr, h.2.1.gr hg hr, h.2.2.gr hg hr⟩
theorem VAt.set3 {w : World} {g : Nat} {v : V3} (h : VAt w g v) (u : V3) : VAt (((w.setCell ⟨g, 0, none⟩ (.int .i64 u.x)).setCell ⟨g, 1, none⟩ (.int .i64 u.y)).setCell ⟨g, 2, none⟩ (.int .i64 u.z)) g u :=
  ⟨((h.1.set_ _).set_ne _ (by decide)).set_ne _ (by decide), ((h.2.1.set_ne _ (by decide)).set_ _).set_ne _ (by decide), ((h.2.2.set_ne _ (by decide)).set_ne _ (by decide)).set_ _⟩
theorem gr_setV {w w1 : World} {g : Nat} (h : w.grownBy w1 none) (hg : w.heap.size ≤ g) (a b c : Value) : w.grownBy (((w1.setCell ⟨g, 0, none⟩ a).setCell ⟨g, 1, none⟩ b).setCell ⟨g, 2, none⟩ c) none :=
  gr_set (gr_set (gr_set h (.inr hg) _) (.inr hg) _) (.inr hg) _

def ups (v : V3) (o : Nat) (a : Int) : V3 := if o = 0 then ⟨a, v.y, v.z⟩ else if o = 1 then ⟨v.x, a, v.z⟩ else ⟨v.x, v.y, a⟩
theorem VAt.up {w : World} {g : Nat} {v : V3} (h : VAt w g v) {o : Nat} (a : Int) (ho : o < 3) : VAt (w.setCell ⟨g, o, none⟩ (.int .i64 a)) g (ups v o a) := by
  have : o = 0 ∨ o = 1 ∨ o = 2 := by omega
  obtain ⟨h1, h2, h3⟩ := h
  rcases this with rfl | rfl | rfl
  · exact ⟨h1.set_ _, h2.set_ne _ (by decide), h3.set_ne _ (by decide)⟩
  · exact ⟨h1.set_ne _ (by decide), h2.set_ _, h3.set_ne _ (by decide)⟩
  · exact ⟨h1.set_ne _ (by decide), h2.set_ne _ (by decide), h3.set_ _⟩

set_option maxHeartbeats 1000000 in
set_option maxRecDepth 100000 in
theorem turnClo_any (gq ga n : Nat) (axis : Int) (v : V3) (w : World) (hv : Bd 100000 v) (hn : n ≤ 3) (bq : w.cell? ⟨gq, 0, none⟩ = some (.int .i64 n)) (ba : w.cell? ⟨ga, 0, none⟩ = some (.int .i64 axis)) :
    Calls Try.prog 65 #[.agg #[.int .i64 v.x, .int .i64 v.y, .int .i64 v.z], .pointer (some ⟨gq, 0, none⟩), .pointer (some ⟨ga, 0, none⟩)] w fun e w' =>
      e = .returned (.agg #[.int .i64 (turnV axis n v).x, .int .i64 (turnV axis n v).y, .int .i64 (turnV axis n v).z]) ∧ w.grownBy w' none := by
  have hbq := cell_lt bq
  have hba := cell_lt ba
  simp only at hbq hba
  obtain ⟨W, hW⟩ : ∃ W, W = (w.alloc (.cells #[.int .i64 v.x, .int .i64 v.y, .int .i64 v.z] 49)).alloc (.cells #[.int .i64 0, .int .i64 0, .int .i64 0] 49) := ⟨_, rfl⟩
  have hlt0 : w.heap.size < w.heap.size + 1 := Nat.lt_succ_self _
  have hg0 : w.grownBy W none := by rw [hW]; exact (by repeat (first | exact World.grownBy.refl _ _ | assumption | refine gr_alloc ?_ _ | (apply gr_tail; assumption) | refine gr_drewN ?_ _ | refine gr_drew ?_))
  have v0 : Cell W w.heap.size 0 (.int .i64 v.x) := by rw [hW]; exact ⟨by go_simp, by go_simp⟩
  have v1 : Cell W w.heap.size 1 (.int .i64 v.y) := by rw [hW]; exact ⟨by go_simp, by go_simp⟩
  have v2 : Cell W w.heap.size 2 (.int .i64 v.z) := by rw [hW]; exact ⟨by go_simp, by go_simp⟩
  have r0 : Cell W (w.heap.size + 1) 0 (.int .i64 0) := by rw [hW]; exact ⟨by go_simp, by go_simp⟩
  have r1 : Cell W (w.heap.size + 1) 1 (.int .i64 0) := by rw [hW]; exact ⟨by go_simp, by go_simp⟩
  have r2 : Cell W (w.heap.size + 1) 2 (.int .i64 0) := by rw [hW]; exact ⟨by go_simp, by go_simp⟩
  replace hW := hide hW.symm
  have hlim : n ≤ 3 := hn
  have VV : VAt W w.heap.size v := ⟨v0, v1, v2⟩
  have RR : VAt W (w.heap.size + 1) ⟨0, 0, 0⟩ := ⟨r0, r1, r2⟩
  have bqW := hide (hg0.k bq)
  have baW := hide (hg0.k ba)
  have hbq2 : gq < w.heap.size + 1 := by omega
  have hba2 : ga < w.heap.size + 1 := by omega
  clear v0 v1 v2 r0 r1 r2
  replace VV := hide VV
  replace RR := hide RR
  have hlw := hg0.size
  go_enter Try.func65, Try.ntmps65
  go_wp2_with fail
  rw [hW.out]
  clear hW
  go_loopw [6] (fun i wr => ∃ k : Nat, k ≤ n ∧ i = .int .i64 k ∧ VAt wr w.heap.size (turnV axis k v) ∧ VAt wr (w.heap.size + 1) ⟨0, 0, 0⟩ ∧ w.grownBy wr none ∧ wr.cell? ⟨gq, 0, none⟩ = some (.int .i64 n) ∧ wr.cell? ⟨ga, 0, none⟩ = some (.int .i64 axis)) (fun i _ => n - (intOf i).toNat)
  case atStart => exact ⟨0, by omega, rfl, VV.out, RR.out, hg0, bqW.out, baW.out⟩
  case round =>
    obtain ⟨k, hk, rfl, VV, RR, hg, dq, da⟩ := hrel
    clear hg0 bq ba
    have hbd := turnV_bd (axis := axis) hv k
    by_cases hlt : k < n
    · have hT : Hid (turnV axis (k + 1) v = qV axis (turnV axis k v)) := rfl
      generalize turnV axis k v = u at *
      obtain ⟨⟨x0, y0⟩, ⟨x1, y1⟩, ⟨x2, y2⟩⟩ := id VV
      have hlt1 := cell_lt x0
      have hlt2 := RR.1.lt
      simp only at hlt1
      go_wp2_with fail
      refine (quarter_any u axis _ hbd).mono ?_
      rintro e w1 ⟨rfl, hg1⟩
      have hV1 := VV.gr hg1 (by simp)
      have hR1 := RR.gr hg1 (by simp)
      replace dq := hg1.k dq
      replace da := hg1.k da
      have hg2 := gr_trans hg hg1
      clear x0 y0 x1 y1 x2 y2
      obtain ⟨⟨x0, y0⟩, ⟨x1, y1⟩, ⟨x2, y2⟩⟩ := id hV1
      have hS := hide (hV1.set3 (qV axis u))
      have hgs := fun a b c => gr_set (gr_set (gr_set (World.grownBy.refl w1 (some w.heap.size)) (p := ⟨w.heap.size, 0, none⟩) (.inl rfl) a) (p := ⟨w.heap.size, 1, none⟩) (.inl rfl) b) (p := ⟨w.heap.size, 2, none⟩) (.inl rfl) c
      have hgs := hide hgs
      have hR1 := hide hR1
      clear hV1
      generalize qV axis u = t at *
      go_wp2_with fail
      (go_roundw; (case rel => exact ⟨k + 1, by omega, by go_num, by rw [hT.out]; exact hS.out, hR1.out.gr (hgs.out _ _ _) (by simp), gr_setV hg2 (Nat.le_refl _) _ _ _, gr_cell (hgs.out _ _ _) dq (by simp; omega), gr_cell (hgs.out _ _ _) da (by simp; omega)⟩); (case measure => simp [intOf]; omega))
    · have hkn : k = n := by omega
      subst hkn
      obtain ⟨⟨x0, y0⟩, ⟨x1, y1⟩, ⟨x2, y2⟩⟩ := VV
      obtain ⟨⟨z0, f0⟩, ⟨z1, f1⟩, ⟨z2, f2⟩⟩ := RR
      go_wp2_with fail
      exact bodyPost_ret (v := .agg #[.int .i64 (turnV axis k v).x, .int .i64 (turnV axis k v).y, .int .i64 (turnV axis k v).z]) (by simp [results, Try.results65, go_sem, z0, z1, z2, f0, f1, f2]) rfl ⟨rfl, gr_setV hg (Nat.le_succ _) _ _ _⟩

set_option maxHeartbeats 1000000 in
set_option maxRecDepth 100000 in
theorem turnRef_any (gq ga n : Nat) (axis : Int) (v : V3) (w : World) (hv : Bd 100000 v) (hn : n ≤ 3) (bq : w.cell? ⟨gq, 0, none⟩ = some (.int .i64 n)) (ba : w.cell? ⟨ga, 0, none⟩ = some (.int .i64 axis)) :
    Calls Try.prog 71 #[.agg #[.int .i64 v.x, .int .i64 v.y, .int .i64 v.z], .pointer (some ⟨gq, 0, none⟩), .pointer (some ⟨ga, 0, none⟩)] w fun e w' =>
      e = .returned (.agg #[.int .i64 (turnV axis n v).x, .int .i64 (turnV axis n v).y, .int .i64 (turnV axis n v).z]) ∧ w.grownBy w' none := by
  have hbq := cell_lt bq
  have hba := cell_lt ba
  simp only at hbq hba
  obtain ⟨W, hW⟩ : ∃ W, W = (w.alloc (.cells #[.int .i64 v.x, .int .i64 v.y, .int .i64 v.z] 49)).alloc (.cells #[.int .i64 0, .int .i64 0, .int .i64 0] 49) := ⟨_, rfl⟩
  have hlt0 : w.heap.size < w.heap.size + 1 := Nat.lt_succ_self _
  have hg0 : w.grownBy W none := by rw [hW]; exact (by repeat (first | exact World.grownBy.refl _ _ | assumption | refine gr_alloc ?_ _ | (apply gr_tail; assumption) | refine gr_drewN ?_ _ | refine gr_drew ?_))
  have v0 : Cell W w.heap.size 0 (.int .i64 v.x) := by rw [hW]; exact ⟨by go_simp, by go_simp⟩
  have v1 : Cell W w.heap.size 1 (.int .i64 v.y) := by rw [hW]; exact ⟨by go_simp, by go_simp⟩
  have v2 : Cell W w.heap.size 2 (.int .i64 v.z) := by rw [hW]; exact ⟨by go_simp, by go_simp⟩
  have r0 : Cell W (w.heap.size + 1) 0 (.int .i64 0) := by rw [hW]; exact ⟨by go_simp, by go_simp⟩
  have r1 : Cell W (w.heap.size + 1) 1 (.int .i64 0) := by rw [hW]; exact ⟨by go_simp, by go_simp⟩
  have r2 : Cell W (w.heap.size + 1) 2 (.int .i64 0) := by rw [hW]; exact ⟨by go_simp, by go_simp⟩
  replace hW := hide hW.symm
  have hlim : n ≤ 3 := hn
  have VV : VAt W w.heap.size v := ⟨v0, v1, v2⟩
  have RR : VAt W (w.heap.size + 1) ⟨0, 0, 0⟩ := ⟨r0, r1, r2⟩
  have bqW := hide (hg0.k bq)
  have baW := hide (hg0.k ba)
  have hbq2 : gq < w.heap.size + 1 := by omega
  have hba2 : ga < w.heap.size + 1 := by omega
  clear v0 v1 v2 r0 r1 r2
  replace VV := hide VV
  replace RR := hide RR
  have hlw := hg0.size
  go_enter Try.func71, Try.ntmps71
  go_wp2_with fail
  rw [hW.out]
  clear hW
  go_loopw [6] (fun i wr => ∃ k : Nat, k ≤ n ∧ i = .int .i64 k ∧ VAt wr w.heap.size (turnV axis k v) ∧ VAt wr (w.heap.size + 1) ⟨0, 0, 0⟩ ∧ w.grownBy wr none ∧ wr.cell? ⟨gq, 0, none⟩ = some (.int .i64 n) ∧ wr.cell? ⟨ga, 0, none⟩ = some (.int .i64 axis)) (fun i _ => n - (intOf i).toNat)
  case atStart => exact ⟨0, by omega, rfl, VV.out, RR.out, hg0, bqW.out, baW.out⟩
  case round =>
    obtain ⟨k, hk, rfl, VV, RR, hg, dq, da⟩ := hrel
    clear hg0 bq ba
    have hbd := turnV_bd (axis := axis) hv k
    by_cases hlt : k < n
    · have hT : Hid (turnV axis (k + 1) v = qV axis (turnV axis k v)) := rfl
      generalize turnV axis k v = u at *
      obtain ⟨⟨x0, y0⟩, ⟨x1, y1⟩, ⟨x2, y2⟩⟩ := id VV
      have hlt1 := cell_lt x0
      have hlt2 := RR.1.lt
      simp only at hlt1
      obtain ⟨⟨u1, u2⟩, ⟨u3, u4⟩, u5, u6⟩ := hbd
      have hle := hg.size
      by_cases a0 : axis = 0
      · replace hT := hide (show turnV axis (k + 1) v = ⟨u.x, -u.z, u.y⟩ by rw [hT.out]; unfold qV; rw [if_pos a0])
        subst a0
        go_wp2_with fail
        have hgx := fun (o1 o2 : Nat) (a1 a2 : Value) => gr_set (gr_set (World.grownBy.refl wr (some w.heap.size)) (p := ⟨w.heap.size, o1, none⟩) (.inl rfl) a1) (p := ⟨w.heap.size, o2, none⟩) (.inl rfl) a2
        have hgx := hide hgx
        (go_roundw; (case rel => exact ⟨k + 1, by omega, by go_num, by rw [hT.out]; exact (show VAt _ _ (ups (ups u 1 (-u.z)) 2 (u.y)) from (VV.up (-u.z) (by decide)).up (u.y) (by decide)), RR.gr (hgx.out _ _ _ _) (by simp), gr_row hg (hgx.out _ _ _ _) (fun g e => by injection e; omega), gr_cell (hgx.out _ _ _ _) dq (by simp; omega), gr_cell (hgx.out _ _ _ _) da (by simp; omega)⟩); (case measure => simp [intOf]; omega))
      · by_cases a1 : axis = 1
        · replace hT := hide (show turnV axis (k + 1) v = ⟨u.z, u.y, -u.x⟩ by rw [hT.out]; unfold qV; rw [if_neg a0, if_pos a1])
          subst a1
          go_wp2_with fail
          have hgx := fun (o1 o2 : Nat) (a1 a2 : Value) => gr_set (gr_set (World.grownBy.refl wr (some w.heap.size)) (p := ⟨w.heap.size, o1, none⟩) (.inl rfl) a1) (p := ⟨w.heap.size, o2, none⟩) (.inl rfl) a2
          have hgx := hide hgx
          (go_roundw; (case rel => exact ⟨k + 1, by omega, by go_num, by rw [hT.out]; exact (show VAt _ _ (ups (ups u 2 (-u.x)) 0 (u.z)) from (VV.up (-u.x) (by decide)).up (u.z) (by decide)), RR.gr (hgx.out _ _ _ _) (by simp), gr_row hg (hgx.out _ _ _ _) (fun g e => by injection e; omega), gr_cell (hgx.out _ _ _ _) dq (by simp; omega), gr_cell (hgx.out _ _ _ _) da (by simp; omega)⟩); (case measure => simp [intOf]; omega))
        · replace hT := hide (show turnV axis (k + 1) v = ⟨-u.y, u.x, u.z⟩ by rw [hT.out]; unfold qV; rw [if_neg a0, if_neg a1])
          have hb0 : (axis == 0) = false := beq_eq_false_iff_ne.2 a0
          have hb1 : (axis == 1) = false := beq_eq_false_iff_ne.2 a1
          clear a0 a1
          go_wp2_with fail
          have hgx := fun (o1 o2 : Nat) (a1 a2 : Value) => gr_set (gr_set (World.grownBy.refl wr (some w.heap.size)) (p := ⟨w.heap.size, o1, none⟩) (.inl rfl) a1) (p := ⟨w.heap.size, o2, none⟩) (.inl rfl) a2
          have hgx := hide hgx
          (go_roundw; (case rel => exact ⟨k + 1, by omega, by go_num, by rw [hT.out]; exact (show VAt _ _ (ups (ups u 0 (-u.y)) 1 (u.x)) from (VV.up (-u.y) (by decide)).up (u.x) (by decide)), RR.gr (hgx.out _ _ _ _) (by simp), gr_row hg (hgx.out _ _ _ _) (fun g e => by injection e; omega), gr_cell (hgx.out _ _ _ _) dq (by simp; omega), gr_cell (hgx.out _ _ _ _) da (by simp; omega)⟩); (case measure => simp [intOf]; omega))
    · have hkn : k = n := by omega
      subst hkn
      obtain ⟨⟨x0, y0⟩, ⟨x1, y1⟩, ⟨x2, y2⟩⟩ := VV
      obtain ⟨⟨z0, f0⟩, ⟨z1, f1⟩, ⟨z2, f2⟩⟩ := RR
      go_wp2_with fail
      exact bodyPost_ret (v := .agg #[.int .i64 (turnV axis k v).x, .int .i64 (turnV axis k v).y, .int .i64 (turnV axis k v).z]) (by simp [results, Try.results71, go_sem, z0, z1, z2, f0, f1, f2]) rfl ⟨rfl, gr_setV hg (Nat.le_succ _) _ _ _⟩

def moveV (t v : V3) : V3 := ⟨v.x + t.x, v.y + t.y, v.z + t.z⟩
def clampV (t : V3) : V3 := ⟨clampI t.x, clampI t.y, clampI t.z⟩

set_option maxHeartbeats 1000000 in
set_option maxRecDepth 100000 in
theorem moveClo_any (gb : Nat) (t v : V3) (w : World) (hv : Bd 100000 v) (b0 : w.cell? ⟨gb, 0, none⟩ = some (.int .i64 t.x)) (b1 : w.cell? ⟨gb, 1, none⟩ = some (.int .i64 t.y)) (b2 : w.cell? ⟨gb, 2, none⟩ = some (.int .i64 t.z)) :
    Calls Try.prog 67 #[.agg #[.int .i64 v.x, .int .i64 v.y, .int .i64 v.z], .pointer (some ⟨gb, 0, none⟩)] w fun e w' =>
      e = .returned (.agg #[.int .i64 (moveV (clampV t) v).x, .int .i64 (moveV (clampV t) v).y, .int .i64 (moveV (clampV t) v).z]) ∧ w.grownBy w' none := by
  have hbq := cell_lt b0
  simp only at hbq
  obtain ⟨W, hW⟩ : ∃ W, W = (w.alloc (.cells #[.int .i64 v.x, .int .i64 v.y, .int .i64 v.z] 49)).alloc (.cells #[.int .i64 0, .int .i64 0, .int .i64 0] 49) := ⟨_, rfl⟩
  have hlt0 : w.heap.size < w.heap.size + 1 := Nat.lt_succ_self _
  have hg0 : w.grownBy W none := by rw [hW]; exact (by repeat (first | exact World.grownBy.refl _ _ | assumption | refine gr_alloc ?_ _ | (apply gr_tail; assumption) | refine gr_drewN ?_ _ | refine gr_drew ?_))
  have v0 : Cell W w.heap.size 0 (.int .i64 v.x) := by rw [hW]; exact ⟨by go_simp, by go_simp⟩
  have v1 : Cell W w.heap.size 1 (.int .i64 v.y) := by rw [hW]; exact ⟨by go_simp, by go_simp⟩
  have v2 : Cell W w.heap.size 2 (.int .i64 v.z) := by rw [hW]; exact ⟨by go_simp, by go_simp⟩
  have r0 : Cell W (w.heap.size + 1) 0 (.int .i64 0) := by rw [hW]; exact ⟨by go_simp, by go_simp⟩
  have r1 : Cell W (w.heap.size + 1) 1 (.int .i64 0) := by rw [hW]; exact ⟨by go_simp, by go_simp⟩
  have r2 : Cell W (w.heap.size + 1) 2 (.int .i64 0) := by rw [hW]; exact ⟨by go_simp, by go_simp⟩
  replace hW := hide hW.symm
  have hlw := hg0.size
  replace b0 := hg0.k b0
  replace b1 := hg0.k b1
  replace b2 := hg0.k b2
  obtain ⟨h1, h2, h3⟩ := hv
  have hr : Hid (moveV (clampV t) v = ⟨v.x + clampI t.x, v.y + clampI t.y, v.z + clampI t.z⟩) := rfl
  go_enter Try.func67, Try.ntmps67
  go_wp2_with fail
  rw [hW.out]
  clear hW
  refine wp_region_fix 16 ((fun wx => W.grownBy wx none)) (by kernel_rfl) (by kernel_rfl) (gr_drew (World.grownBy.refl _ _)) ?_
  simp only [List.take_succ_cons, List.take_zero, List.drop_succ_cons, List.drop_zero]
  iterate 4 ((refine fix_b (fun K hK => ?_); apply Exists.intro; refine ⟨fun wx hC K' hK' => ?_, ?_⟩; (focus (replace hK' := hide hK'; (have d0 := hC.k v0.1; have d1 := hC.k v1.1; have d2 := hC.k v2.1; have e0 := hC.k b0; have e1 := hC.k b1; have e2 := hC.k b2); go_wp2_with fail; exact hK'.out _ hC)); go_simp; refine hK _ ?_; clear hK K))
  (refine fix_b (fun K hK => ?_); apply Exists.intro; refine ⟨fun wx hC K' hK' => ?_, ?_⟩; (focus (replace hK' := hide hK'; skip; go_wp2_with fail; (refine (added_any v.x t.x _ h1).mono ?_; rintro e w' ⟨rfl, rfl⟩; go_wp2_with fail; exact hK'.out _ hC))); go_simp; refine hK _ ?_; clear hK K)
  iterate 4 ((refine fix_b (fun K hK => ?_); apply Exists.intro; refine ⟨fun wx hC K' hK' => ?_, ?_⟩; (focus (replace hK' := hide hK'; (have d0 := hC.k v0.1; have d1 := hC.k v1.1; have d2 := hC.k v2.1; have e0 := hC.k b0; have e1 := hC.k b1; have e2 := hC.k b2); go_wp2_with fail; exact hK'.out _ hC)); go_simp; refine hK _ ?_; clear hK K))
  (refine fix_b (fun K hK => ?_); apply Exists.intro; refine ⟨fun wx hC K' hK' => ?_, ?_⟩; (focus (replace hK' := hide hK'; skip; go_wp2_with fail; (refine (added_any v.y t.y _ h2).mono ?_; rintro e w' ⟨rfl, rfl⟩; go_wp2_with fail; exact hK'.out _ hC))); go_simp; refine hK _ ?_; clear hK K)
  iterate 4 ((refine fix_b (fun K hK => ?_); apply Exists.intro; refine ⟨fun wx hC K' hK' => ?_, ?_⟩; (focus (replace hK' := hide hK'; (have d0 := hC.k v0.1; have d1 := hC.k v1.1; have d2 := hC.k v2.1; have e0 := hC.k b0; have e1 := hC.k b1; have e2 := hC.k b2); go_wp2_with fail; exact hK'.out _ hC)); go_simp; refine hK _ ?_; clear hK K))
  (refine fix_b (fun K hK => ?_); apply Exists.intro; refine ⟨fun wx hC K' hK' => ?_, ?_⟩; (focus (replace hK' := hide hK'; skip; go_wp2_with fail; (refine (added_any v.z t.z _ h3).mono ?_; rintro e w' ⟨rfl, rfl⟩; go_wp2_with fail; exact hK'.out _ hC))); go_simp; refine hK _ ?_; clear hK K)
  (refine fix_b (fun K hK => ?_); apply Exists.intro; refine ⟨fun wx hC K' hK' => ?_, ?_⟩; (focus (replace hK' := hide hK'; skip; go_wp2_with fail; exact hK'.out _ hC)); go_simp; refine hK _ ?_; clear hK K)
  refine fix_nil ?_
  intro wz hC
  obtain ⟨z0, f0⟩ := r0.gr hC (by simp)
  obtain ⟨z1, f1⟩ := r1.gr hC (by simp)
  obtain ⟨z2, f2⟩ := r2.gr hC (by simp)
  have hg2 := gr_trans hg0 hC
  go_wp2_with fail
  exact bodyPost_ret (v := .agg #[.int .i64 (v.x + clampI t.x), .int .i64 (v.y + clampI t.y), .int .i64 (v.z + clampI t.z)]) (by simp [results, Try.results67, go_sem, z0, z1, z2, f0, f1, f2]) rfl ⟨rfl, gr_setV hg2 (Nat.le_succ _) _ _ _⟩

set_option maxHeartbeats 1000000 in
set_option maxRecDepth 100000 in
theorem moveRef_any (gb : Nat) (t v : V3) (w : World) (hv : Bd 100000 v) (ht : Bd 300000 t) (b0 : w.cell? ⟨gb, 0, none⟩ = some (.int .i64 t.x)) (b1 : w.cell? ⟨gb, 1, none⟩ = some (.int .i64 t.y)) (b2 : w.cell? ⟨gb, 2, none⟩ = some (.int .i64 t.z)) :
    Calls Try.prog 72 #[.agg #[.int .i64 v.x, .int .i64 v.y, .int .i64 v.z], .pointer (some ⟨gb, 0, none⟩)] w fun e w' =>
      e = .returned (.agg #[.int .i64 (moveV t v).x, .int .i64 (moveV t v).y, .int .i64 (moveV t v).z]) ∧ w.grownBy w' none := by
  have hbq := cell_lt b0
  simp only at hbq
  have hbq2 : gb < w.heap.size + 1 := by omega
  obtain ⟨⟨h1, h2⟩, ⟨h3, h4⟩, h5, h6⟩ := hv
  obtain ⟨⟨t1, t2⟩, ⟨t3, t4⟩, t5, t6⟩ := ht
  have hr : Hid (moveV t v = ⟨v.x + t.x, v.y + t.y, v.z + t.z⟩) := rfl
  go_enter Try.func72, Try.ntmps72
  go_wp2_with fail
  have hgs := gr_alloc (gr_alloc (r := none) (World.grownBy.refl w none) (.cells #[.int .i64 v.x, .int .i64 v.y, .int .i64 v.z] 49)) (.cells #[.int .i64 (v.x + t.x), .int .i64 (v.y + t.y), .int .i64 (v.z + t.z)] 49)
  exact bodyPost_ret (v := .agg #[.int .i64 (v.x + t.x), .int .i64 (v.y + t.y), .int .i64 (v.z + t.z)]) (by simp [results, Try.results72, go_sem]) rfl ⟨by rw [hr.out], hgs⟩

def mirV (axis : Int) (v : V3) : V3 := if axis = 0 then ⟨-v.x, v.y, v.z⟩ else if axis = 1 then ⟨v.x, -v.y, v.z⟩ else ⟨v.x, v.y, -v.z⟩

set_option maxHeartbeats 1000000 in
theorem mirClo_any (ga : Nat) (axis : Int) (v : V3) (w : World) (hv : Bd 100000 v) (ba : w.cell? ⟨ga, 0, none⟩ = some (.int .i64 axis)) :
    Calls Try.prog 69 #[.agg #[.int .i64 v.x, .int .i64 v.y, .int .i64 v.z], .pointer (some ⟨ga, 0, none⟩)] w fun e w' =>
      e = .returned (.agg #[.int .i64 (mirV axis v).x, .int .i64 (mirV axis v).y, .int .i64 (mirV axis v).z]) ∧ w.grownBy w' none := by
  have hbq := cell_lt ba
  simp only at hbq
  have hbq2 : ga < w.heap.size + 1 := by omega
  obtain ⟨⟨h1, h2⟩, ⟨h3, h4⟩, h5, h6⟩ := hv
  by_cases a0 : axis = 0
  · have hq : Hid (mirV axis v = ⟨-v.x, v.y, v.z⟩) := by rw [Hid]; unfold mirV; rw [if_pos a0]
    subst a0
    go_enter Try.func69, Try.ntmps69
    go_wp2_with fail
    have hgs := gr_alloc (gr_alloc (r := none) (World.grownBy.refl w none) (.cells #[.int .i64 ((⟨-v.x, v.y, v.z⟩ : V3)).x, .int .i64 ((⟨-v.x, v.y, v.z⟩ : V3)).y, .int .i64 ((⟨-v.x, v.y, v.z⟩ : V3)).z] 49)) (.cells #[.int .i64 ((⟨-v.x, v.y, v.z⟩ : V3)).x, .int .i64 ((⟨-v.x, v.y, v.z⟩ : V3)).y, .int .i64 ((⟨-v.x, v.y, v.z⟩ : V3)).z] 49)
    exact bodyPost_ret (v := .agg #[.int .i64 ((⟨-v.x, v.y, v.z⟩ : V3)).x, .int .i64 ((⟨-v.x, v.y, v.z⟩ : V3)).y, .int .i64 ((⟨-v.x, v.y, v.z⟩ : V3)).z]) (by simp [results, Try.results69, go_sem]) rfl ⟨by rw [hq.out], hgs⟩
  · by_cases a1 : axis = 1
    · have hq : Hid (mirV axis v = ⟨v.x, -v.y, v.z⟩) := by rw [Hid]; unfold mirV; rw [if_neg a0, if_pos a1]
      subst a1
      go_enter Try.func69, Try.ntmps69
      go_wp2_with fail
      have hgs := gr_alloc (gr_alloc (r := none) (World.grownBy.refl w none) (.cells #[.int .i64 ((⟨v.x, -v.y, v.z⟩ : V3)).x, .int .i64 ((⟨v.x, -v.y, v.z⟩ : V3)).y, .int .i64 ((⟨v.x, -v.y, v.z⟩ : V3)).z] 49)) (.cells #[.int .i64 ((⟨v.x, -v.y, v.z⟩ : V3)).x, .int .i64 ((⟨v.x, -v.y, v.z⟩ : V3)).y, .int .i64 ((⟨v.x, -v.y, v.z⟩ : V3)).z] 49)
      exact bodyPost_ret (v := .agg #[.int .i64 ((⟨v.x, -v.y, v.z⟩ : V3)).x, .int .i64 ((⟨v.x, -v.y, v.z⟩ : V3)).y, .int .i64 ((⟨v.x, -v.y, v.z⟩ : V3)).z]) (by simp [results, Try.results69, go_sem]) rfl ⟨by rw [hq.out], hgs⟩
    · have hq : Hid (mirV axis v = ⟨v.x, v.y, -v.z⟩) := by rw [Hid]; unfold mirV; rw [if_neg a0, if_neg a1]
      have hb0 : (axis == 0) = false := beq_eq_false_iff_ne.2 a0
      have hb1 : (axis == 1) = false := beq_eq_false_iff_ne.2 a1
      clear a0 a1
      go_enter Try.func69, Try.ntmps69
      go_wp2_with fail
      have hgs := gr_alloc (gr_alloc (r := none) (World.grownBy.refl w none) (.cells #[.int .i64 ((⟨v.x, v.y, -v.z⟩ : V3)).x, .int .i64 ((⟨v.x, v.y, -v.z⟩ : V3)).y, .int .i64 ((⟨v.x, v.y, -v.z⟩ : V3)).z] 49)) (.cells #[.int .i64 ((⟨v.x, v.y, -v.z⟩ : V3)).x, .int .i64 ((⟨v.x, v.y, -v.z⟩ : V3)).y, .int .i64 ((⟨v.x, v.y, -v.z⟩ : V3)).z] 49)
      exact bodyPost_ret (v := .agg #[.int .i64 ((⟨v.x, v.y, -v.z⟩ : V3)).x, .int .i64 ((⟨v.x, v.y, -v.z⟩ : V3)).y, .int .i64 ((⟨v.x, v.y, -v.z⟩ : V3)).z]) (by simp [results, Try.results69, go_sem]) rfl ⟨by rw [hq.out], hgs⟩

set_option maxHeartbeats 1000000 in
theorem mirRef_any (ga : Nat) (axis : Int) (v : V3) (w : World) (hv : Bd 100000 v) (ba : w.cell? ⟨ga, 0, none⟩ = some (.int .i64 axis)) :
    Calls Try.prog 74 #[.agg #[.int .i64 v.x, .int .i64 v.y, .int .i64 v.z], .pointer (some ⟨ga, 0, none⟩)] w fun e w' =>
      e = .returned (.agg #[.int .i64 (mirV axis v).x, .int .i64 (mirV axis v).y, .int .i64 (mirV axis v).z]) ∧ w.grownBy w' none := by
  have hbq := cell_lt ba
  simp only at hbq
  have hbq2 : ga < w.heap.size + 1 := by omega
  obtain ⟨⟨h1, h2⟩, ⟨h3, h4⟩, h5, h6⟩ := hv
  by_cases a0 : axis = 0
  · have hq : Hid (mirV axis v = ⟨-v.x, v.y, v.z⟩) := by rw [Hid]; unfold mirV; rw [if_pos a0]
    subst a0
    go_enter Try.func74, Try.ntmps74
    go_wp2_with fail
    have hgs := gr_alloc (gr_alloc (r := none) (World.grownBy.refl w none) (.cells #[.int .i64 ((⟨-v.x, v.y, v.z⟩ : V3)).x, .int .i64 ((⟨-v.x, v.y, v.z⟩ : V3)).y, .int .i64 ((⟨-v.x, v.y, v.z⟩ : V3)).z] 49)) (.cells #[.int .i64 ((⟨-v.x, v.y, v.z⟩ : V3)).x, .int .i64 ((⟨-v.x, v.y, v.z⟩ : V3)).y, .int .i64 ((⟨-v.x, v.y, v.z⟩ : V3)).z] 49)
    exact bodyPost_ret (v := .agg #[.int .i64 ((⟨-v.x, v.y, v.z⟩ : V3)).x, .int .i64 ((⟨-v.x, v.y, v.z⟩ : V3)).y, .int .i64 ((⟨-v.x, v.y, v.z⟩ : V3)).z]) (by simp [results, Try.results74, go_sem]) rfl ⟨by rw [hq.out], hgs⟩
  · by_cases a1 : axis = 1
    · have hq : Hid (mirV axis v = ⟨v.x, -v.y, v.z⟩) := by rw [Hid]; unfold mirV; rw [if_neg a0, if_pos a1]
      subst a1
      go_enter Try.func74, Try.ntmps74
      go_wp2_with fail
      have hgs := gr_alloc (gr_alloc (r := none) (World.grownBy.refl w none) (.cells #[.int .i64 ((⟨v.x, -v.y, v.z⟩ : V3)).x, .int .i64 ((⟨v.x, -v.y, v.z⟩ : V3)).y, .int .i64 ((⟨v.x, -v.y, v.z⟩ : V3)).z] 49)) (.cells #[.int .i64 ((⟨v.x, -v.y, v.z⟩ : V3)).x, .int .i64 ((⟨v.x, -v.y, v.z⟩ : V3)).y, .int .i64 ((⟨v.x, -v.y, v.z⟩ : V3)).z] 49)
      exact bodyPost_ret (v := .agg #[.int .i64 ((⟨v.x, -v.y, v.z⟩ : V3)).x, .int .i64 ((⟨v.x, -v.y, v.z⟩ : V3)).y, .int .i64 ((⟨v.x, -v.y, v.z⟩ : V3)).z]) (by simp [results, Try.results74, go_sem]) rfl ⟨by rw [hq.out], hgs⟩
    · have hq : Hid (mirV axis v = ⟨v.x, v.y, -v.z⟩) := by rw [Hid]; unfold mirV; rw [if_neg a0, if_neg a1]
      have hb0 : (axis == 0) = false := beq_eq_false_iff_ne.2 a0
      have hb1 : (axis == 1) = false := beq_eq_false_iff_ne.2 a1
      clear a0 a1
      go_enter Try.func74, Try.ntmps74
      go_wp2_with fail
      have hgs := gr_alloc (gr_alloc (r := none) (World.grownBy.refl w none) (.cells #[.int .i64 ((⟨v.x, v.y, -v.z⟩ : V3)).x, .int .i64 ((⟨v.x, v.y, -v.z⟩ : V3)).y, .int .i64 ((⟨v.x, v.y, -v.z⟩ : V3)).z] 49)) (.cells #[.int .i64 ((⟨v.x, v.y, -v.z⟩ : V3)).x, .int .i64 ((⟨v.x, v.y, -v.z⟩ : V3)).y, .int .i64 ((⟨v.x, v.y, -v.z⟩ : V3)).z] 49)
      exact bodyPost_ret (v := .agg #[.int .i64 ((⟨v.x, v.y, -v.z⟩ : V3)).x, .int .i64 ((⟨v.x, v.y, -v.z⟩ : V3)).y, .int .i64 ((⟨v.x, v.y, -v.z⟩ : V3)).z]) (by simp [results, Try.results74, go_sem]) rfl ⟨by rw [hq.out], hgs⟩

end Go.Proofs.Ytjodjdjfagjiaaa

namespace Go.Proofs.Ytjodjdjfagjiaaa
open Go.RowKit Go.Bl

def VOne (lo2 : Nat) (u : V3) : Value → World → Prop := fun v w => ∃ g : Nat, v = .slice (some ⟨g, 0, none⟩) 1 1 ∧ Sl w lo2 (some ⟨g, 0, none⟩) [u]
theorem VOne.stab {lo2 : Nat} {u : V3} {p : Nat → Prop} {v : Value} {w w' : World} (h : VOne lo2 u v w) (hw : Wrt p w w') (hp : ∀ g, p g → g < lo2) : VOne lo2 u v w' := let ⟨g, h1, h2⟩ := h; ⟨g, h1, h2.wrt hw hp⟩
def VMp (lo n1 : Nat) (l : List V3) (u : V3) : Value → World → Prop := fun v w => ∃ (A : Option Addr) (c : Nat), v = .slice A (n1 + 1) c ∧ Own w lo 49 A c (l ++ [u])
theorem VMp.stab {lo n1 : Nat} {l : List V3} {u : V3} {q : Nat → Prop} {v : Value} {w w' : World} (h : VMp lo n1 l u v w) (hw : Wrt q w w') (hq : ∀ g, q g → g < lo) : VMp lo n1 l u v w' := let ⟨A, c, h1, h2⟩ := h; ⟨A, c, h1, h2.wrt hw hq⟩
/-- while a vector is appended to the box's slice -/
def MpI (gm gv lo lo2 n1 cq : Nat) (Aq : Option Addr) (lq : List V3) (vq uq : V3) (bv : Value) (W0 Wb : World) (m : Nat → Bool) (_ : Nat) (w : World) : Prop :=
  W0.grownBy w none ∧ lo2 ≤ w.heap.size ∧ VAt w gv vq ∧ (m 6 = false → Own w lo 49 Aq cq lq) ∧ (m 8 = false → Cell w gm 0 (.slice Aq n1 cq)) ∧ Cell w gm 1 bv ∧ Wb.grownBy w (some gm) ∧
    (m 8 = true → ∃ (A : Option Addr) (c : Nat), Cell w gm 0 (.slice A (n1 + 1) c) ∧ Own w lo 49 A c (lq ++ [uq]))
def MpOk (gm gv lo lo2 : Nat) (Aq : Option Addr) (W0 Wb : World) : Prop := W0.heap.size ≤ gm ∧ gm < lo ∧ lo ≤ gv ∧ gv < lo2 ∧ Wb.heap.size ≤ lo ∧ gm < lo2 ∧ ∀ g, blk Aq = some g → g < lo2 ∧ g ≠ gv
section
variable {gm gv lo lo2 n1 cq k : Nat} {Aq : Option Addr} {lq : List V3} {vq uq : V3} {bv : Value} {W0 Wb w w' : World} {m : Nat → Bool}
theorem MpI.same (h : MpI gm gv lo lo2 n1 cq Aq lq vq uq bv W0 Wb m k w) {j : Nat} (h6 : (6 == j) = false) (h8 : (8 == j) = false) : MpI gm gv lo lo2 n1 cq Aq lq vq uq bv W0 Wb (setm m j) k w := by
  unfold MpI
  rw [setm_ne h6, setm_ne h8]
  exact h
theorem MpI.pure (h : MpI gm gv lo lo2 n1 cq Aq lq vq uq bv W0 Wb m k w) (hg : w.grownBy w' none) : MpI gm gv lo lo2 n1 cq Aq lq vq uq bv W0 Wb m k w' := by
  obtain ⟨h1, h2, h3, h4, h5, h6, h7, h8⟩ := h
  exact ⟨gr_trans h1 hg, Nat.le_trans h2 hg.size, h3.gr hg (by simp), fun h => (h4 h).pure hg, fun h => (h5 h).gr hg (by simp), h6.gr hg (by simp), gr_step h7 hg, fun h => let ⟨A, c, a, b⟩ := h8 h; ⟨A, c, a.gr hg (by simp), b.pure hg⟩⟩
theorem MpI.app (h : MpI gm gv lo lo2 n1 cq Aq lq vq uq bv W0 Wb m k w) (hq : MpOk gm gv lo lo2 Aq W0 Wb) (m6 : m 6 = false) (m8 : m 8 = false) {A5 : Option Addr} (hG : Grew Aq A5 w w') (ho : Own w lo 49 Aq cq lq) : MpI gm gv lo lo2 n1 cq Aq lq vq uq bv W0 Wb (setm m 6) k w' := by
  obtain ⟨h1, h2, h3, h4, h5, h6, h7, h8⟩ := h
  obtain ⟨p1, p2, p3, p4, p5, p6, p7⟩ := hq
  have hne : ∀ g, blk Aq = some g → lo ≤ g ∧ g ≠ gv := fun g e => ⟨(ho.blk_lt e).1, (p7 g e).2⟩
  refine ⟨gr_row h1 hG.1 (fun g e => by have := hne g e; omega), Nat.le_trans h2 hG.1.size, h3.gr hG.1 (fun e => (hne _ e).2 rfl), ?_, ?_, h6.gr hG.1 (fun e => by have := hne _ e; omega), gr_row h7 hG.1 (fun g e => by have := hne g e; omega), ?_⟩
  · intro h; rw [setm_eq] at h; cases h
  · intro h; exact (h5 m8).gr hG.1 (fun e => by have := hne _ e; omega)
  · intro h; rw [setm_ne (by decide), m8] at h; cases h
theorem MpI.fin (h : MpI gm gv lo lo2 n1 cq Aq lq vq uq bv W0 Wb m k w) (hq : MpOk gm gv lo lo2 Aq W0 Wb) {v0 : Value} (c : Cell w gm 0 v0) {A : Option Addr} {d : Nat} (ho : Own w lo 49 A d (lq ++ [uq])) : MpI gm gv lo lo2 n1 cq Aq lq vq uq bv W0 Wb (setm m 8) k (w.setCell ⟨gm, 0, none⟩ (.slice A (n1 + 1) d)) := by
  obtain ⟨h1, h2, h3, h4, h5, h6, h7, h8⟩ := h
  obtain ⟨p1, p2, p3, p4, p5, p6, p7⟩ := hq
  have hg := gr_set (World.grownBy.refl w (some gm)) (p := ⟨gm, 0, none⟩) (.inl rfl) (.slice A (n1 + 1) d)
  have hne : ∀ {B : Option Addr} {e : TypeId} {c : Nat} {l : List V3}, Own w lo e B c l → ∀ g, blk B = some g → some gm ≠ some g := fun h g e1 e2 => by have := (h.blk_lt e1).1; injection e2; omega
  refine ⟨gr_row h1 hg (fun g e => by injection e; omega), by rw [heap_set]; exact h2, h3.gr hg (fun e => by injection e; omega), ?_, ?_, h6.set_ne _ (by decide), gr_trans h7 hg, ?_⟩
  · intro h; rw [setm_ne (by decide)] at h; exact (h4 h).ne hg (hne (h4 h))
  · intro h; rw [setm_eq] at h; cases h
  · intro _; exact ⟨A, d, c.set_ _, ho.ne hg (hne ho)⟩
end

set_option maxHeartbeats 4000000 in
set_option maxRecDepth 100000 in
theorem mapTurn_any (t : V3 → V3) (gq ga : Nat) (A : Option Addr) (c : Nat) (vs : List V3) (B : Option Addr) (d : Nat) (fs : List Fc) (w : World) (hl : Sl w 0 A vs) (hfs : Sl w 0 B fs) (hvl : vs.length ≤ 1000) (hfl : fs.length ≤ 1000)
    (hcl : Hid (∀ v ∈ vs, ∀ wx, w.grownBy wx none → Calls Try.prog 65 #[.agg #[.int .i64 v.x, .int .i64 v.y, .int .i64 v.z], .pointer (some ⟨gq, 0, none⟩), .pointer (some ⟨ga, 0, none⟩)] wx fun e w' => e = .returned (.agg #[.int .i64 (t v).x, .int .i64 (t v).y, .int .i64 (t v).z]) ∧ wx.grownBy w' none)) :
    Calls Try.prog 64 #[.agg #[.slice A vs.length c, .slice B fs.length d], .func (.func 65) #[] #[.pointer (some ⟨gq, 0, none⟩), .pointer (some ⟨ga, 0, none⟩)]] w fun e w' =>
      ∃ A' c' B' d', e = .returned (.agg #[.slice A' vs.length c', .slice B' fs.length d']) ∧ Own w' w.heap.size 49 A' c' (vs.map t) ∧ Own w' w.heap.size 67 B' d' fs ∧ (∀ g, blk A' = some g → blk B' ≠ some g) ∧ w.grownBy w' none := by
  have hm := hl.1
  unfold maxLen at hm
  obtain ⟨W, hW⟩ : ∃ W, W = (w.alloc (.cells #[.slice A vs.length c, .slice B fs.length d] 29)).alloc (.cells #[.slice none 0 0, .slice none 0 0] 29) := ⟨_, rfl⟩
  have hlt0 : w.heap.size < w.heap.size + 1 := Nat.lt_succ_self _
  have hWs : W.heap.size = w.heap.size + 1 + 1 := by rw [hW]; simp
  have hg0 : w.grownBy W none := by rw [hW]; exact (by repeat (first | exact World.grownBy.refl _ _ | assumption | refine gr_alloc ?_ _ | (apply gr_tail; assumption) | refine gr_drewN ?_ _ | refine gr_drew ?_))
  have b0 : W.cell? ⟨w.heap.size, 0, none⟩ = some (.slice A vs.length c) := by rw [hW]; go_simp
  have b1 : W.cell? ⟨w.heap.size, 1, none⟩ = some (.slice B fs.length d) := by rw [hW]; go_simp
  have q0 : Cell W (w.heap.size + 1) 0 (.slice none 0 0) := by rw [hW]; exact ⟨by go_simp, by go_simp⟩
  have q1 : Cell W (w.heap.size + 1) 1 (.slice none 0 0) := by rw [hW]; exact ⟨by go_simp, by go_simp⟩
  replace hW := hide hW.symm
  replace hWs := hide hWs
  go_enter Try.func64, Try.ntmps64
  go_wp2_with fail
  rw [hW.out]
  refine (cloneFc_any B d fs W (hfs.pure hg0) (by omega)).mono ?_
  rintro e w1 ⟨B', d', rfl, hB, hg1⟩
  replace b0 := hg1.k b0
  replace q0 := hide (q0.gr hg1 (by simp))
  replace q1 := hide (q1.gr hg1 (by simp))
  have hg2 := gr_trans hg0 hg1
  have hlt1 : w.heap.size + 1 < w1.heap.size := q0.out.lt
  have hlw1 : w.heap.size < w1.heap.size := by omega
  have hlw2 : w.heap.size < w1.heap.size + 1 := by omega
  clear hW hg0
  go_wp2_with fail
  obtain ⟨Wb, hWb⟩ : ∃ Wb, Wb = w1.alloc (.cells #[.slice none 0 0, .slice B' fs.length d'] 29) := ⟨_, rfl⟩
  have hgb : w1.grownBy Wb none := by rw [hWb]; exact gr_alloc (World.grownBy.refl _ _) _
  have m0 : Cell Wb w1.heap.size 0 (.slice none 0 0) := by rw [hWb]; exact Cell.new w1 [.slice none 0 0, .slice B' fs.length d'] 29 0 _ rfl _ rfl
  have m1 : Cell Wb w1.heap.size 1 (.slice B' fs.length d') := by rw [hWb]; exact Cell.new w1 [.slice none 0 0, .slice B' fs.length d'] 29 1 _ rfl _ rfl
  have hWbs : Wb.heap.size = w1.heap.size + 1 := by rw [hWb]; simp
  rw [← hWb]
  clear hWb
  have hg3 := gr_trans hg2 hgb
  replace q0 := hide (q0.out.gr hgb (by simp))
  replace q1 := hide (q1.out.gr hgb (by simp))
  have hBlt := hide (fun g e => (hB.blk_lt (g := g) e))
  replace hB := hB.pure hgb
  have hlw := hg2.size
  go_loopw [15] (fun i wr => ∃ (k : Nat) (Aq : Option Addr) (cq : Nat), k ≤ vs.length ∧ i = .int .i64 k ∧ Own wr Wb.heap.size 49 Aq cq ((vs.take k).map t) ∧ Cell wr w1.heap.size 0 (.slice Aq k cq) ∧ Cell wr w1.heap.size 1 (.slice B' fs.length d') ∧ Wb.grownBy wr (some w1.heap.size)) (fun i _ => vs.length - (intOf i).toNat)
  case atStart => exact ⟨0, none, 0, by omega, rfl, Own.nil _ _ _, m0, m1, World.grownBy.refl _ _⟩
  case round =>
    obtain ⟨n1, Aq, cq, hk, rfl, hown, c0, c1, hg⟩ := hrel
    clear m0 m1
    by_cases hlt : n1 < vs.length
    · have hgw : w.grownBy wr none := gr_row hg3 hg (fun g e => by injection e; omega)
      obtain ⟨g, o, rfl, -, hbg, hcc⟩ := (hl.pure hgw).v3 (by omega)
      obtain ⟨v0, v1, v2⟩ := hcc n1 hlt
      clear hcc
      have hcl1 := fun wx hx => hcl.out vs[n1] (List.getElem_mem hlt) wx hx
      have hls : (vs.take (n1 + 1)).map t = (vs.take n1).map t ++ [t vs[n1]] := by rw [take_snoc hlt, List.map_append]; rfl
      have hq1 : ((vs.take n1).map t).length = n1 := by rw [List.length_map, List.length_take]; omega
      have hn1 : n1 ≤ 1000 := by omega
      generalize vs[n1] = vq at *
      generalize t vq = uq at *
      replace hls := hide hls
      generalize (vs.take n1).map t = lq at *
      have hclo := hide hcl1
      clear hcl1
      replace c0 := hide c0
      replace c1 := hide c1
      replace hq1 := hide hq1
      go_upto_region 5 with fail
      have hal := gr_alloc (r := none) (World.grownBy.refl wr none) (.cells #[.int .i64 vq.x, .int .i64 vq.y, .int .i64 vq.z] 49)
      have hV : VAt (wr.alloc (.cells #[.int .i64 vq.x, .int .i64 vq.y, .int .i64 vq.z] 49)) wr.heap.size vq := ⟨Cell.new wr [.int .i64 vq.x, .int .i64 vq.y, .int .i64 vq.z] 49 0 _ rfl _ rfl, Cell.new wr [.int .i64 vq.x, .int .i64 vq.y, .int .i64 vq.z] 49 1 _ rfl _ rfl, Cell.new wr [.int .i64 vq.x, .int .i64 vq.y, .int .i64 vq.z] 49 2 _ rfl _ rfl⟩
      have hqA0 : ∀ g, blk Aq = some g → g < wr.heap.size := fun g e => (hown.blk_lt e).2
      have hlo2 : wr.heap.size + 1 ≤ (wr.alloc (.cells #[.int .i64 vq.x, .int .i64 vq.y, .int .i64 vq.z] 49)).heap.size := by simp
      have hszb := hg.size
      replace hown := hown.pure hal
      replace c0 := c0.out.gr hal (by simp)
      replace c1 := c1.out.gr hal (by simp)
      replace hg := gr_step hg hal
      replace hgw := gr_trans hgw hal
      generalize (wr.alloc (.cells #[.int .i64 vq.x, .int .i64 vq.y, .int .i64 vq.z] 49)) = wv at *
      clear hal v0 v1 v2 hbg
      generalize hgv : wr.heap.size = gv at *
      generalize hgm : w1.heap.size = gm at *
      obtain ⟨lo, hlo⟩ : ∃ lo, lo = Wb.heap.size := ⟨_, rfl⟩
      obtain ⟨lo2, hlo2e⟩ : ∃ lo2, lo2 = gv + 1 := ⟨_, rfl⟩
      obtain ⟨bv, hbv⟩ : ∃ bv, bv = Value.slice B' fs.length d' := ⟨_, rfl⟩
      have hq : MpOk gm gv lo lo2 Aq w Wb := ⟨by omega, by omega, by omega, by omega, by omega, by omega, fun g e => by have := hqA0 g e; omega⟩
      have hqA : ∀ g, blk Aq = some g → g < lo2 := fun g e => by have := hqA0 g e; omega
      have hgml : gm < lo := by omega
      have hgml2 : gm < lo2 := by omega
      have hlll : lo ≤ wv.heap.size := by omega
      have hlll2 : lo ≤ lo2 := by omega
      have hI0 : ∀ m : Nat → Bool, m 8 = false → MpI gm gv lo lo2 n1 cq Aq lq vq uq bv w Wb m 0 wv.drew := fun m hm => by
        have hd := gr_drew (World.grownBy.refl wv none)
        exact ⟨gr_trans hgw hd, by show lo2 ≤ wv.heap.size; omega, hV.gr hd (by simp), fun _ => by rw [hlo]; exact hown.pure hd, fun _ => c0.gr hd (by simp), by rw [hbv]; exact c1.gr hd (by simp), gr_step hg hd, fun h => by rw [hm] at h; cases h⟩
      replace hI0 := hide hI0
      replace hq := hide hq
      replace hqA := hide hqA
      replace hq1 := hq1.out
      clear hown c0 c1 hg hV hqA0 hgw
      replace hq := hq.out
      replace hqA := hqA.out
      replace hlo := hide hlo
      replace hlo2e := hide hlo2e
      replace hbv := hide hbv
      replace hgv := hide hgv
      replace hgm := hide hgm
      refine wp_region_minvF (MpI gm gv lo lo2 n1 cq Aq lq vq uq bv w Wb) (fun m => Wrt (fun g => g = gm ∨ (m 6 = false ∧ lo ≤ g ∧ g < lo2))) [VIs (.pointer (some ⟨gm, 0, none⟩)), VIs (.slice Aq n1 cq), VIs (.func (.func 65) #[] #[.pointer (some ⟨gq, 0, none⟩), .pointer (some ⟨ga, 0, none⟩)]), VIs (.agg #[.int .i64 vq.x, .int .i64 vq.y, .int .i64 vq.z]), VIs (.agg #[.int .i64 uq.x, .int .i64 uq.y, .int .i64 uq.z]), VOne lo2 uq, VMp lo n1 lq uq, VIs (.pointer (some ⟨gm, 0, none⟩)), (fun _ _ => True)] [0, 0, 0, 0, 0, 0, 0, 0, 0] (by kernel_rfl) (by kernel_rfl) (by intro vs; simp only [putAll, Act.put, List.setIfInBounds_toArray, List.set_cons_zero, List.set_cons_succ, Nat.reduceAdd]; exact rfl) ?iv0 ?iv1 rfl ?iv2 ?iv3
      case iv1 => exact Stab.ok ⟨fun m v w w' _ _ h => h, fun m v w w' _ _ h => h, fun m v w w' _ _ h => h, fun m v w w' _ _ h => h, fun m v w w' _ _ h => h, fun m v w w' _ hw h => h.stab hw (fun g h => by rcases h with h | ⟨_, h1, h2⟩ <;> omega), fun m v w w' hm hw h => h.stab hw (fun g h => by rcases h with h | ⟨h, _⟩ <;> first | omega | (rw [show m 6 = true from hm] at h; cases h)), fun m v w w' _ _ h => h, fun m v w w' _ _ h => h, trivial⟩
      case iv2 =>
        refine MOpsF.op (fun vs wx m k hmj hcl hI hk hf K hK => ?_) ?_
        · clear hf hcl
          replace hK := hide hK
          replace hI := hide hI
          go_wp2_with fail
          replace hK := hK.out (.pointer (some ⟨gm, 0, none⟩))
          simp only [Act.put, List.setIfInBounds_toArray, List.set_cons_zero, List.set_cons_succ, Nat.add_zero] at hK
          exact hK _ ((hI.out.same (by decide) (by decide))) (Wrt.pure (World.grownBy.refl _ _)) (rfl)
        refine MOpsF.op (fun vs wx m k hmj hcl hI hk hf K hK => ?_) ?_
        · have e0 : vs 0 = .pointer (some ⟨gm, 0, none⟩) := hf 0 (by decide) (by kernel_rfl)
          clear hf
          have h8 : m 8 = false := by
            cases hq : m 8 with
            | false => rfl
            | true => exact absurd (hcl 8 1 (by decide) (by decide) hq (by kernel_rfl)) (by rw [show m 1 = false from hmj]; simp)
          have c := (hI.2.2.2.2.1 h8).1
          clear hcl h8
          replace hK := hide hK
          replace hI := hide hI
          rw [e0]
          replace e0 := hide e0
          go_wp2_with fail
          replace hK := hK.out (.slice Aq n1 cq)
          simp only [Act.put, List.setIfInBounds_toArray, List.set_cons_zero, List.set_cons_succ, e0.out, Nat.add_zero] at hK
          exact hK _ ((hI.out.same (by decide) (by decide))) (Wrt.pure (World.grownBy.refl _ _)) (rfl)
        refine MOpsF.op (fun vs wx m k hmj hcl hI hk hf K hK => ?_) ?_
        · clear hf hcl
          replace hK := hide hK
          replace hI := hide hI
          go_wp2_with fail
          replace hK := hK.out (.func (.func 65) #[] #[.pointer (some ⟨gq, 0, none⟩), .pointer (some ⟨ga, 0, none⟩)])
          simp only [Act.put, List.setIfInBounds_toArray, List.set_cons_zero, List.set_cons_succ, Nat.add_zero] at hK
          exact hK _ ((hI.out.same (by decide) (by decide))) (Wrt.pure (World.grownBy.refl _ _)) (rfl)
        refine MOpsF.op (fun vs wx m k hmj hcl hI hk hf K hK => ?_) ?_
        · clear hf hcl
          have hVV := hI.2.2.1
          obtain ⟨⟨z0, -⟩, ⟨z1, -⟩, ⟨z2, -⟩⟩ := hVV
          replace hK := hide hK
          replace hI := hide hI
          go_wp2_with fail
          replace hK := hK.out (.agg #[.int .i64 vq.x, .int .i64 vq.y, .int .i64 vq.z])
          simp only [Act.put, List.setIfInBounds_toArray, List.set_cons_zero, List.set_cons_succ, Nat.add_zero] at hK
          exact hK _ ((hI.out.same (by decide) (by decide))) (Wrt.pure (World.grownBy.refl _ _)) (rfl)
        refine MOpsF.op (fun vs wx m k hmj hcl hI hk hf K hK => ?_) ?_
        · have e2 : vs 2 = .func (.func 65) #[] #[.pointer (some ⟨gq, 0, none⟩), .pointer (some ⟨ga, 0, none⟩)] := hf 2 (by decide) (by kernel_rfl)
          have e3 : vs 3 = .agg #[.int .i64 vq.x, .int .i64 vq.y, .int .i64 vq.z] := hf 3 (by decide) (by kernel_rfl)
          clear hf hcl
          have hCL := hide (hclo.out wx hI.1)
          replace hK := hide hK
          replace hI := hide hI
          rw [e2, e3]
          replace e2 := hide e2
          replace e3 := hide e3
          go_wp2_with fail
          go_at_call 65
          refine hCL.out.mono ?_
          rintro e wy ⟨rfl, hgy⟩
          go_wp2_with fail
          replace hK := hK.out (.agg #[.int .i64 uq.x, .int .i64 uq.y, .int .i64 uq.z])
          simp only [Act.put, List.setIfInBounds_toArray, List.set_cons_zero, List.set_cons_succ, e2.out, e3.out, Nat.add_zero] at hK
          exact hK _ (((hI.out.same (by decide) (by decide)).pure hgy)) (Wrt.pure hgy) (rfl)
        refine MOpsF.op (fun vs wx m k hmj hcl hI hk hf K hK => ?_) ?_
        · have e4 : vs 4 = .agg #[.int .i64 uq.x, .int .i64 uq.y, .int .i64 uq.z] := hf 4 (by decide) (by kernel_rfl)
          clear hf hcl
          replace hK := hide hK
          replace hI := hide hI
          rw [e4]
          replace e4 := hide e4
          go_wp2_with fail
          replace hK := hK.out (.slice (some ⟨wx.heap.size, 0, none⟩) 1 1)
          simp only [Act.put, List.setIfInBounds_toArray, List.set_cons_zero, List.set_cons_succ, e4.out, Nat.add_zero] at hK
          exact hK _ (((hI.out.same (by decide) (by decide)).pure (gr_alloc (World.grownBy.refl _ _) _))) (Wrt.pure (gr_alloc (World.grownBy.refl _ _) _)) (⟨wx.heap.size, rfl, sl_oneAt _ _ _ _ _ _ rfl hI.out.2.1 rfl⟩)
        refine MOpsF.op (fun vs wx m k hmj hcl hI hk hf K hK => ?_) ?_
        · have e1 : vs 1 = .slice Aq n1 cq := hf 1 (by decide) (by kernel_rfl)
          obtain ⟨g5, e5, hsl⟩ := hf 5 (by decide) (by kernel_rfl)
          clear hf
          have h8 : m 8 = false := by
            cases hq : m 8 with
            | false => rfl
            | true => exact absurd (hcl 8 6 (by decide) (by decide) hq (by kernel_rfl)) (by rw [show m 6 = false from hmj]; simp)
          have hown := hI.2.2.2.1 hmj
          obtain ⟨i0, hi, hz, h1, h2⟩ := info_parts info_v3
          replace hK := hide hK
          replace hI := hide hI
          rw [e1, e5]
          replace e1 := hide e1
          replace e5 := hide e5
          refine wp_pushAt (α := V3) _ (.tmp 20) (.tmp 24) _ rfl lo 49 i0 _ 24 Try.underlying26 hi hz h1 h2 rfl _ _ _ lq rfl ?_ hown lo2 ⟨g5, 0, none⟩ 1 1 [uq] rfl ?_ hsl ?_ ?_ ?_ ?_
          · exact hq1.symm
          · rfl
          · simp; omega
          · simp [maxLen]; omega
          · have := hI.out.2.1; omega
          intro A5 c5 w5 hown5 hG5
          simp only [Act.put, List.setIfInBounds_toArray, List.set_cons_zero, List.set_cons_succ]
          replace hK := hK.out (.slice A5 (lq ++ [uq]).length c5)
          simp only [Act.put, List.setIfInBounds_toArray, List.set_cons_zero, List.set_cons_succ, e1.out, e5.out, Nat.add_zero] at hK
          exact hK _ ((hI.out.app hq (show m 6 = false from hmj) h8 hG5 hown)) (⟨_, hG5.1, fun g e => .inr ⟨hmj, (hown.blk_lt e).1, hqA g e⟩⟩) (⟨A5, c5, by rw [List.length_append, hq1]; rfl, hown5⟩)
        refine MOpsF.op (fun vs wx m k hmj hcl hI hk hf K hK => ?_) ?_
        · clear hf hcl
          replace hK := hide hK
          replace hI := hide hI
          go_wp2_with fail
          replace hK := hK.out (.pointer (some ⟨gm, 0, none⟩))
          simp only [Act.put, List.setIfInBounds_toArray, List.set_cons_zero, List.set_cons_succ, Nat.add_zero] at hK
          exact hK _ ((hI.out.same (by decide) (by decide))) (Wrt.pure (World.grownBy.refl _ _)) (rfl)
        refine MOpsF.op (fun vs wx m k hmj hcl hI hk hf K hK => ?_) ?_
        · have e7 : vs 7 = .pointer (some ⟨gm, 0, none⟩) := hf 7 (by decide) (by kernel_rfl)
          obtain ⟨A6, c6, e6, ho6⟩ := hf 6 (by decide) (by kernel_rfl)
          clear hf hcl
          have c := hI.2.2.2.2.1 hmj
          obtain ⟨c, fz⟩ := c
          have hgs := gr_set (World.grownBy.refl wx (some gm)) (p := ⟨gm, 0, none⟩) (.inl rfl) (.slice A6 (n1 + 1) c6)
          replace hgs := hide hgs
          replace ho6 := hide ho6
          replace hK := hide hK
          replace hI := hide hI
          rw [e7, e6]
          replace e7 := hide e7
          replace e6 := hide e6
          go_wp2_with fail
          replace hK := hK.out (undef)
          simp only [Act.put, List.setIfInBounds_toArray, List.set_cons_zero, List.set_cons_succ, e7.out, e6.out, Nat.add_zero] at hK
          exact hK _ ((hI.out.fin hq ⟨c, fz⟩ ho6.out)) (Wrt.one hgs.out (.inl rfl)) (trivial)
        exact MOpsF.done
      case iv0 => exact fun m hm => hI0.out m (hm 8 (by decide))
      case iv3 =>
        intro vs' w9 m hm' hI hf
        have h8 := hm' 8 (by decide)
        obtain ⟨-, -, -, -, -, k6, k7, k8⟩ := hI
        obtain ⟨A2, c2, k0, kO⟩ := k8 h8
        clear hf hm' h8 hI0 hq hqA k8
        rw [hlo.out] at kO
        rw [hbv.out] at k6
        obtain rfl := hgm.out
        obtain rfl := hgv.out
        go_wp2_with fail
        (go_roundw; (case rel => exact ⟨n1 + 1, A2, c2, by omega, by go_num, by rw [hls.out]; exact kO, k0, k6, k7⟩); (case measure => simp [intOf]; omega))
    · have hkn : n1 = vs.length := by omega
      subst hkn
      rw [List.take_length] at hown
      have hgw : w.grownBy wr none := gr_row hg3 hg (fun g e => by injection e; omega)
      have hB2 := hB.ne hg (fun g e1 e2 => by have := hBlt.out g e1; injection e2; omega)
      obtain ⟨x0, y0⟩ := q0.out.gr hg (fun e => by injection e; omega)
      obtain ⟨x1, y1⟩ := q1.out.gr hg (fun e => by injection e; omega)
      obtain ⟨c0, -⟩ := c0
      obtain ⟨c1, -⟩ := c1
      have hltb : w1.heap.size < wr.heap.size := cell_lt c0
      clear hg hcl
      go_wp2_with fail
      have hgs := fun (v1 v2 : Value) => gr_set (gr_set (World.grownBy.refl wr (some (w.heap.size + 1))) (p := ⟨w.heap.size + 1, 0, none⟩) (.inl rfl) v1) (p := ⟨w.heap.size + 1, 1, none⟩) (.inl rfl) v2
      have hWs' := hWs.out
      refine bodyPost_ret (v := .agg #[.slice Aq vs.length cq, .slice B' fs.length d']) (by simp [results, Try.results64, go_sem, x0, x1, y0, y1]) rfl ⟨Aq, cq, B', d', rfl, ?_, ?_, ?_, gr_row hgw (hgs _ _) (fun g e => by injection e; omega)⟩
      · exact (hown.ne (hgs _ _) (fun g e1 e2 => by have := (hown.blk_lt e1).1; injection e2; omega)).lower (by omega)
      · exact (hB2.ne (hgs _ _) (fun g e1 e2 => by have := (hB2.blk_lt e1).1; injection e2; omega)).lower (by omega)
      · intro g e1 e2
        have := (hown.blk_lt e1).1
        have := hBlt.out g e2
        omega

set_option maxHeartbeats 4000000 in
set_option maxRecDepth 100000 in
theorem mapMove_any (t : V3 → V3) (gq : Nat) (A : Option Addr) (c : Nat) (vs : List V3) (B : Option Addr) (d : Nat) (fs : List Fc) (w : World) (hl : Sl w 0 A vs) (hfs : Sl w 0 B fs) (hvl : vs.length ≤ 1000) (hfl : fs.length ≤ 1000)
    (hcl : Hid (∀ v ∈ vs, ∀ wx, w.grownBy wx none → Calls Try.prog 67 #[.agg #[.int .i64 v.x, .int .i64 v.y, .int .i64 v.z], .pointer (some ⟨gq, 0, none⟩)] wx fun e w' => e = .returned (.agg #[.int .i64 (t v).x, .int .i64 (t v).y, .int .i64 (t v).z]) ∧ wx.grownBy w' none)) :
    Calls Try.prog 64 #[.agg #[.slice A vs.length c, .slice B fs.length d], .func (.func 67) #[] #[.pointer (some ⟨gq, 0, none⟩)]] w fun e w' =>
      ∃ A' c' B' d', e = .returned (.agg #[.slice A' vs.length c', .slice B' fs.length d']) ∧ Own w' w.heap.size 49 A' c' (vs.map t) ∧ Own w' w.heap.size 67 B' d' fs ∧ (∀ g, blk A' = some g → blk B' ≠ some g) ∧ w.grownBy w' none := by
  have hm := hl.1
  unfold maxLen at hm
  obtain ⟨W, hW⟩ : ∃ W, W = (w.alloc (.cells #[.slice A vs.length c, .slice B fs.length d] 29)).alloc (.cells #[.slice none 0 0, .slice none 0 0] 29) := ⟨_, rfl⟩
  have hlt0 : w.heap.size < w.heap.size + 1 := Nat.lt_succ_self _
  have hWs : W.heap.size = w.heap.size + 1 + 1 := by rw [hW]; simp
  have hg0 : w.grownBy W none := by rw [hW]; exact (by repeat (first | exact World.grownBy.refl _ _ | assumption | refine gr_alloc ?_ _ | (apply gr_tail; assumption) | refine gr_drewN ?_ _ | refine gr_drew ?_))
  have b0 : W.cell? ⟨w.heap.size, 0, none⟩ = some (.slice A vs.length c) := by rw [hW]; go_simp
  have b1 : W.cell? ⟨w.heap.size, 1, none⟩ = some (.slice B fs.length d) := by rw [hW]; go_simp
  have q0 : Cell W (w.heap.size + 1) 0 (.slice none 0 0) := by rw [hW]; exact ⟨by go_simp, by go_simp⟩
  have q1 : Cell W (w.heap.size + 1) 1 (.slice none 0 0) := by rw [hW]; exact ⟨by go_simp, by go_simp⟩
  replace hW := hide hW.symm
  replace hWs := hide hWs
  go_enter Try.func64, Try.ntmps64
  go_wp2_with fail
  rw [hW.out]
  refine (cloneFc_any B d fs W (hfs.pure hg0) (by omega)).mono ?_
  rintro e w1 ⟨B', d', rfl, hB, hg1⟩
  replace b0 := hg1.k b0
  replace q0 := hide (q0.gr hg1 (by simp))
  replace q1 := hide (q1.gr hg1 (by simp))
  have hg2 := gr_trans hg0 hg1
  have hlt1 : w.heap.size + 1 < w1.heap.size := q0.out.lt
  have hlw1 : w.heap.size < w1.heap.size := by omega
  have hlw2 : w.heap.size < w1.heap.size + 1 := by omega
  clear hW hg0
  go_wp2_with fail
  obtain ⟨Wb, hWb⟩ : ∃ Wb, Wb = w1.alloc (.cells #[.slice none 0 0, .slice B' fs.length d'] 29) := ⟨_, rfl⟩
  have hgb : w1.grownBy Wb none := by rw [hWb]; exact gr_alloc (World.grownBy.refl _ _) _
  have m0 : Cell Wb w1.heap.size 0 (.slice none 0 0) := by rw [hWb]; exact Cell.new w1 [.slice none 0 0, .slice B' fs.length d'] 29 0 _ rfl _ rfl
  have m1 : Cell Wb w1.heap.size 1 (.slice B' fs.length d') := by rw [hWb]; exact Cell.new w1 [.slice none 0 0, .slice B' fs.length d'] 29 1 _ rfl _ rfl
  have hWbs : Wb.heap.size = w1.heap.size + 1 := by rw [hWb]; simp
  rw [← hWb]
  clear hWb
  have hg3 := gr_trans hg2 hgb
  replace q0 := hide (q0.out.gr hgb (by simp))
  replace q1 := hide (q1.out.gr hgb (by simp))
  have hBlt := hide (fun g e => (hB.blk_lt (g := g) e))
  replace hB := hB.pure hgb
  have hlw := hg2.size
  go_loopw [15] (fun i wr => ∃ (k : Nat) (Aq : Option Addr) (cq : Nat), k ≤ vs.length ∧ i = .int .i64 k ∧ Own wr Wb.heap.size 49 Aq cq ((vs.take k).map t) ∧ Cell wr w1.heap.size 0 (.slice Aq k cq) ∧ Cell wr w1.heap.size 1 (.slice B' fs.length d') ∧ Wb.grownBy wr (some w1.heap.size)) (fun i _ => vs.length - (intOf i).toNat)
  case atStart => exact ⟨0, none, 0, by omega, rfl, Own.nil _ _ _, m0, m1, World.grownBy.refl _ _⟩
  case round =>
    obtain ⟨n1, Aq, cq, hk, rfl, hown, c0, c1, hg⟩ := hrel
    clear m0 m1
    by_cases hlt : n1 < vs.length
    · have hgw : w.grownBy wr none := gr_row hg3 hg (fun g e => by injection e; omega)
      obtain ⟨g, o, rfl, -, hbg, hcc⟩ := (hl.pure hgw).v3 (by omega)
      obtain ⟨v0, v1, v2⟩ := hcc n1 hlt
      clear hcc
      have hcl1 := fun wx hx => hcl.out vs[n1] (List.getElem_mem hlt) wx hx
      have hls : (vs.take (n1 + 1)).map t = (vs.take n1).map t ++ [t vs[n1]] := by rw [take_snoc hlt, List.map_append]; rfl
      have hq1 : ((vs.take n1).map t).length = n1 := by rw [List.length_map, List.length_take]; omega
      have hn1 : n1 ≤ 1000 := by omega
      generalize vs[n1] = vq at *
      generalize t vq = uq at *
      replace hls := hide hls
      generalize (vs.take n1).map t = lq at *
      have hclo := hide hcl1
      clear hcl1
      replace c0 := hide c0
      replace c1 := hide c1
      replace hq1 := hide hq1
      go_upto_region 5 with fail
      have hal := gr_alloc (r := none) (World.grownBy.refl wr none) (.cells #[.int .i64 vq.x, .int .i64 vq.y, .int .i64 vq.z] 49)
      have hV : VAt (wr.alloc (.cells #[.int .i64 vq.x, .int .i64 vq.y, .int .i64 vq.z] 49)) wr.heap.size vq := ⟨Cell.new wr [.int .i64 vq.x, .int .i64 vq.y, .int .i64 vq.z] 49 0 _ rfl _ rfl, Cell.new wr [.int .i64 vq.x, .int .i64 vq.y, .int .i64 vq.z] 49 1 _ rfl _ rfl, Cell.new wr [.int .i64 vq.x, .int .i64 vq.y, .int .i64 vq.z] 49 2 _ rfl _ rfl⟩
      have hqA0 : ∀ g, blk Aq = some g → g < wr.heap.size := fun g e => (hown.blk_lt e).2
      have hlo2 : wr.heap.size + 1 ≤ (wr.alloc (.cells #[.int .i64 vq.x, .int .i64 vq.y, .int .i64 vq.z] 49)).heap.size := by simp
      have hszb := hg.size
      replace hown := hown.pure hal
      replace c0 := c0.out.gr hal (by simp)
      replace c1 := c1.out.gr hal (by simp)
      replace hg := gr_step hg hal
      replace hgw := gr_trans hgw hal
      generalize (wr.alloc (.cells #[.int .i64 vq.x, .int .i64 vq.y, .int .i64 vq.z] 49)) = wv at *
      clear hal v0 v1 v2 hbg
      generalize hgv : wr.heap.size = gv at *
      generalize hgm : w1.heap.size = gm at *
      obtain ⟨lo, hlo⟩ : ∃ lo, lo = Wb.heap.size := ⟨_, rfl⟩
      obtain ⟨lo2, hlo2e⟩ : ∃ lo2, lo2 = gv + 1 := ⟨_, rfl⟩
      obtain ⟨bv, hbv⟩ : ∃ bv, bv = Value.slice B' fs.length d' := ⟨_, rfl⟩
      have hq : MpOk gm gv lo lo2 Aq w Wb := ⟨by omega, by omega, by omega, by omega, by omega, by omega, fun g e => by have := hqA0 g e; omega⟩
      have hqA : ∀ g, blk Aq = some g → g < lo2 := fun g e => by have := hqA0 g e; omega
      have hgml : gm < lo := by omega
      have hgml2 : gm < lo2 := by omega
      have hlll : lo ≤ wv.heap.size := by omega
      have hlll2 : lo ≤ lo2 := by omega
      have hI0 : ∀ m : Nat → Bool, m 8 = false → MpI gm gv lo lo2 n1 cq Aq lq vq uq bv w Wb m 0 wv.drew := fun m hm => by
        have hd := gr_drew (World.grownBy.refl wv none)
        exact ⟨gr_trans hgw hd, by show lo2 ≤ wv.heap.size; omega, hV.gr hd (by simp), fun _ => by rw [hlo]; exact hown.pure hd, fun _ => c0.gr hd (by simp), by rw [hbv]; exact c1.gr hd (by simp), gr_step hg hd, fun h => by rw [hm] at h; cases h⟩
      replace hI0 := hide hI0
      replace hq := hide hq
      replace hqA := hide hqA
      replace hq1 := hq1.out
      clear hown c0 c1 hg hV hqA0 hgw
      replace hq := hq.out
      replace hqA := hqA.out
      replace hlo := hide hlo
      replace hlo2e := hide hlo2e
      replace hbv := hide hbv
      replace hgv := hide hgv
      replace hgm := hide hgm
      refine wp_region_minvF (MpI gm gv lo lo2 n1 cq Aq lq vq uq bv w Wb) (fun m => Wrt (fun g => g = gm ∨ (m 6 = false ∧ lo ≤ g ∧ g < lo2))) [VIs (.pointer (some ⟨gm, 0, none⟩)), VIs (.slice Aq n1 cq), VIs (.func (.func 67) #[] #[.pointer (some ⟨gq, 0, none⟩)]), VIs (.agg #[.int .i64 vq.x, .int .i64 vq.y, .int .i64 vq.z]), VIs (.agg #[.int .i64 uq.x, .int .i64 uq.y, .int .i64 uq.z]), VOne lo2 uq, VMp lo n1 lq uq, VIs (.pointer (some ⟨gm, 0, none⟩)), (fun _ _ => True)] [0, 0, 0, 0, 0, 0, 0, 0, 0] (by kernel_rfl) (by kernel_rfl) (by intro vs; simp only [putAll, Act.put, List.setIfInBounds_toArray, List.set_cons_zero, List.set_cons_succ, Nat.reduceAdd]; exact rfl) ?iv0 ?iv1 rfl ?iv2 ?iv3
      case iv1 => exact Stab.ok ⟨fun m v w w' _ _ h => h, fun m v w w' _ _ h => h, fun m v w w' _ _ h => h, fun m v w w' _ _ h => h, fun m v w w' _ _ h => h, fun m v w w' _ hw h => h.stab hw (fun g h => by rcases h with h | ⟨_, h1, h2⟩ <;> omega), fun m v w w' hm hw h => h.stab hw (fun g h => by rcases h with h | ⟨h, _⟩ <;> first | omega | (rw [show m 6 = true from hm] at h; cases h)), fun m v w w' _ _ h => h, fun m v w w' _ _ h => h, trivial⟩
      case iv2 =>
        refine MOpsF.op (fun vs wx m k hmj hcl hI hk hf K hK => ?_) ?_
        · clear hf hcl
          replace hK := hide hK
          replace hI := hide hI
          go_wp2_with fail
          replace hK := hK.out (.pointer (some ⟨gm, 0, none⟩))
          simp only [Act.put, List.setIfInBounds_toArray, List.set_cons_zero, List.set_cons_succ, Nat.add_zero] at hK
          exact hK _ ((hI.out.same (by decide) (by decide))) (Wrt.pure (World.grownBy.refl _ _)) (rfl)
        refine MOpsF.op (fun vs wx m k hmj hcl hI hk hf K hK => ?_) ?_
        · have e0 : vs 0 = .pointer (some ⟨gm, 0, none⟩) := hf 0 (by decide) (by kernel_rfl)
          clear hf
          have h8 : m 8 = false := by
            cases hq : m 8 with
            | false => rfl
            | true => exact absurd (hcl 8 1 (by decide) (by decide) hq (by kernel_rfl)) (by rw [show m 1 = false from hmj]; simp)
          have c := (hI.2.2.2.2.1 h8).1
          clear hcl h8
          replace hK := hide hK
          replace hI := hide hI
          rw [e0]
          replace e0 := hide e0
          go_wp2_with fail
          replace hK := hK.out (.slice Aq n1 cq)
          simp only [Act.put, List.setIfInBounds_toArray, List.set_cons_zero, List.set_cons_succ, e0.out, Nat.add_zero] at hK
          exact hK _ ((hI.out.same (by decide) (by decide))) (Wrt.pure (World.grownBy.refl _ _)) (rfl)
        refine MOpsF.op (fun vs wx m k hmj hcl hI hk hf K hK => ?_) ?_
        · clear hf hcl
          replace hK := hide hK
          replace hI := hide hI
          go_wp2_with fail
          replace hK := hK.out (.func (.func 67) #[] #[.pointer (some ⟨gq, 0, none⟩)])
          simp only [Act.put, List.setIfInBounds_toArray, List.set_cons_zero, List.set_cons_succ, Nat.add_zero] at hK
          exact hK _ ((hI.out.same (by decide) (by decide))) (Wrt.pure (World.grownBy.refl _ _)) (rfl)
        refine MOpsF.op (fun vs wx m k hmj hcl hI hk hf K hK => ?_) ?_
        · clear hf hcl
          have hVV := hI.2.2.1
          obtain ⟨⟨z0, -⟩, ⟨z1, -⟩, ⟨z2, -⟩⟩ := hVV
          replace hK := hide hK
          replace hI := hide hI
          go_wp2_with fail
          replace hK := hK.out (.agg #[.int .i64 vq.x, .int .i64 vq.y, .int .i64 vq.z])
          simp only [Act.put, List.setIfInBounds_toArray, List.set_cons_zero, List.set_cons_succ, Nat.add_zero] at hK
          exact hK _ ((hI.out.same (by decide) (by decide))) (Wrt.pure (World.grownBy.refl _ _)) (rfl)
        refine MOpsF.op (fun vs wx m k hmj hcl hI hk hf K hK => ?_) ?_
        · have e2 : vs 2 = .func (.func 67) #[] #[.pointer (some ⟨gq, 0, none⟩)] := hf 2 (by decide) (by kernel_rfl)
          have e3 : vs 3 = .agg #[.int .i64 vq.x, .int .i64 vq.y, .int .i64 vq.z] := hf 3 (by decide) (by kernel_rfl)
          clear hf hcl
          have hCL := hide (hclo.out wx hI.1)
          replace hK := hide hK
          replace hI := hide hI
          rw [e2, e3]
          replace e2 := hide e2
          replace e3 := hide e3
          go_wp2_with fail
          go_at_call 67
          refine hCL.out.mono ?_
          rintro e wy ⟨rfl, hgy⟩
          go_wp2_with fail
          replace hK := hK.out (.agg #[.int .i64 uq.x, .int .i64 uq.y, .int .i64 uq.z])
          simp only [Act.put, List.setIfInBounds_toArray, List.set_cons_zero, List.set_cons_succ, e2.out, e3.out, Nat.add_zero] at hK
          exact hK _ (((hI.out.same (by decide) (by decide)).pure hgy)) (Wrt.pure hgy) (rfl)
        refine MOpsF.op (fun vs wx m k hmj hcl hI hk hf K hK => ?_) ?_
        · have e4 : vs 4 = .agg #[.int .i64 uq.x, .int .i64 uq.y, .int .i64 uq.z] := hf 4 (by decide) (by kernel_rfl)
          clear hf hcl
          replace hK := hide hK
          replace hI := hide hI
          rw [e4]
          replace e4 := hide e4
          go_wp2_with fail
          replace hK := hK.out (.slice (some ⟨wx.heap.size, 0, none⟩) 1 1)
          simp only [Act.put, List.setIfInBounds_toArray, List.set_cons_zero, List.set_cons_succ, e4.out, Nat.add_zero] at hK
          exact hK _ (((hI.out.same (by decide) (by decide)).pure (gr_alloc (World.grownBy.refl _ _) _))) (Wrt.pure (gr_alloc (World.grownBy.refl _ _) _)) (⟨wx.heap.size, rfl, sl_oneAt _ _ _ _ _ _ rfl hI.out.2.1 rfl⟩)
        refine MOpsF.op (fun vs wx m k hmj hcl hI hk hf K hK => ?_) ?_
        · have e1 : vs 1 = .slice Aq n1 cq := hf 1 (by decide) (by kernel_rfl)
          obtain ⟨g5, e5, hsl⟩ := hf 5 (by decide) (by kernel_rfl)
          clear hf
          have h8 : m 8 = false := by
            cases hq : m 8 with
            | false => rfl
            | true => exact absurd (hcl 8 6 (by decide) (by decide) hq (by kernel_rfl)) (by rw [show m 6 = false from hmj]; simp)
          have hown := hI.2.2.2.1 hmj
          obtain ⟨i0, hi, hz, h1, h2⟩ := info_parts info_v3
          replace hK := hide hK
          replace hI := hide hI
          rw [e1, e5]
          replace e1 := hide e1
          replace e5 := hide e5
          refine wp_pushAt (α := V3) _ (.tmp 20) (.tmp 24) _ rfl lo 49 i0 _ 24 Try.underlying26 hi hz h1 h2 rfl _ _ _ lq rfl ?_ hown lo2 ⟨g5, 0, none⟩ 1 1 [uq] rfl ?_ hsl ?_ ?_ ?_ ?_
          · exact hq1.symm
          · rfl
          · simp; omega
          · simp [maxLen]; omega
          · have := hI.out.2.1; omega
          intro A5 c5 w5 hown5 hG5
          simp only [Act.put, List.setIfInBounds_toArray, List.set_cons_zero, List.set_cons_succ]
          replace hK := hK.out (.slice A5 (lq ++ [uq]).length c5)
          simp only [Act.put, List.setIfInBounds_toArray, List.set_cons_zero, List.set_cons_succ, e1.out, e5.out, Nat.add_zero] at hK
          exact hK _ ((hI.out.app hq (show m 6 = false from hmj) h8 hG5 hown)) (⟨_, hG5.1, fun g e => .inr ⟨hmj, (hown.blk_lt e).1, hqA g e⟩⟩) (⟨A5, c5, by rw [List.length_append, hq1]; rfl, hown5⟩)
        refine MOpsF.op (fun vs wx m k hmj hcl hI hk hf K hK => ?_) ?_
        · clear hf hcl
          replace hK := hide hK
          replace hI := hide hI
          go_wp2_with fail
          replace hK := hK.out (.pointer (some ⟨gm, 0, none⟩))
          simp only [Act.put, List.setIfInBounds_toArray, List.set_cons_zero, List.set_cons_succ, Nat.add_zero] at hK
          exact hK _ ((hI.out.same (by decide) (by decide))) (Wrt.pure (World.grownBy.refl _ _)) (rfl)
        refine MOpsF.op (fun vs wx m k hmj hcl hI hk hf K hK => ?_) ?_
        · have e7 : vs 7 = .pointer (some ⟨gm, 0, none⟩) := hf 7 (by decide) (by kernel_rfl)
          obtain ⟨A6, c6, e6, ho6⟩ := hf 6 (by decide) (by kernel_rfl)
          clear hf hcl
          have c := hI.2.2.2.2.1 hmj
          obtain ⟨c, fz⟩ := c
          have hgs := gr_set (World.grownBy.refl wx (some gm)) (p := ⟨gm, 0, none⟩) (.inl rfl) (.slice A6 (n1 + 1) c6)
          replace hgs := hide hgs
          replace ho6 := hide ho6
          replace hK := hide hK
          replace hI := hide hI
          rw [e7, e6]
          replace e7 := hide e7
          replace e6 := hide e6
          go_wp2_with fail
          replace hK := hK.out (undef)
          simp only [Act.put, List.setIfInBounds_toArray, List.set_cons_zero, List.set_cons_succ, e7.out, e6.out, Nat.add_zero] at hK
          exact hK _ ((hI.out.fin hq ⟨c, fz⟩ ho6.out)) (Wrt.one hgs.out (.inl rfl)) (trivial)
        exact MOpsF.done
      case iv0 => exact fun m hm => hI0.out m (hm 8 (by decide))
      case iv3 =>
        intro vs' w9 m hm' hI hf
        have h8 := hm' 8 (by decide)
        obtain ⟨-, -, -, -, -, k6, k7, k8⟩ := hI
        obtain ⟨A2, c2, k0, kO⟩ := k8 h8
        clear hf hm' h8 hI0 hq hqA k8
        rw [hlo.out] at kO
        rw [hbv.out] at k6
        obtain rfl := hgm.out
        obtain rfl := hgv.out
        go_wp2_with fail
        (go_roundw; (case rel => exact ⟨n1 + 1, A2, c2, by omega, by go_num, by rw [hls.out]; exact kO, k0, k6, k7⟩); (case measure => simp [intOf]; omega))
    · have hkn : n1 = vs.length := by omega
      subst hkn
      rw [List.take_length] at hown
      have hgw : w.grownBy wr none := gr_row hg3 hg (fun g e => by injection e; omega)
      have hB2 := hB.ne hg (fun g e1 e2 => by have := hBlt.out g e1; injection e2; omega)
      obtain ⟨x0, y0⟩ := q0.out.gr hg (fun e => by injection e; omega)
      obtain ⟨x1, y1⟩ := q1.out.gr hg (fun e => by injection e; omega)
      obtain ⟨c0, -⟩ := c0
      obtain ⟨c1, -⟩ := c1
      have hltb : w1.heap.size < wr.heap.size := cell_lt c0
      clear hg hcl
      go_wp2_with fail
      have hgs := fun (v1 v2 : Value) => gr_set (gr_set (World.grownBy.refl wr (some (w.heap.size + 1))) (p := ⟨w.heap.size + 1, 0, none⟩) (.inl rfl) v1) (p := ⟨w.heap.size + 1, 1, none⟩) (.inl rfl) v2
      have hWs' := hWs.out
      refine bodyPost_ret (v := .agg #[.slice Aq vs.length cq, .slice B' fs.length d']) (by simp [results, Try.results64, go_sem, x0, x1, y0, y1]) rfl ⟨Aq, cq, B', d', rfl, ?_, ?_, ?_, gr_row hgw (hgs _ _) (fun g e => by injection e; omega)⟩
      · exact (hown.ne (hgs _ _) (fun g e1 e2 => by have := (hown.blk_lt e1).1; injection e2; omega)).lower (by omega)
      · exact (hB2.ne (hgs _ _) (fun g e1 e2 => by have := (hB2.blk_lt e1).1; injection e2; omega)).lower (by omega)
      · intro g e1 e2
        have := (hown.blk_lt e1).1
        have := hBlt.out g e2
        omega

set_option maxHeartbeats 4000000 in
set_option maxRecDepth 100000 in
theorem mapMir_any (t : V3 → V3) (gq : Nat) (A : Option Addr) (c : Nat) (vs : List V3) (B : Option Addr) (d : Nat) (fs : List Fc) (w : World) (hl : Sl w 0 A vs) (hfs : Sl w 0 B fs) (hvl : vs.length ≤ 1000) (hfl : fs.length ≤ 1000)
    (hcl : Hid (∀ v ∈ vs, ∀ wx, w.grownBy wx none → Calls Try.prog 69 #[.agg #[.int .i64 v.x, .int .i64 v.y, .int .i64 v.z], .pointer (some ⟨gq, 0, none⟩)] wx fun e w' => e = .returned (.agg #[.int .i64 (t v).x, .int .i64 (t v).y, .int .i64 (t v).z]) ∧ wx.grownBy w' none)) :
    Calls Try.prog 64 #[.agg #[.slice A vs.length c, .slice B fs.length d], .func (.func 69) #[] #[.pointer (some ⟨gq, 0, none⟩)]] w fun e w' =>
      ∃ A' c' B' d', e = .returned (.agg #[.slice A' vs.length c', .slice B' fs.length d']) ∧ Own w' w.heap.size 49 A' c' (vs.map t) ∧ Own w' w.heap.size 67 B' d' fs ∧ (∀ g, blk A' = some g → blk B' ≠ some g) ∧ w.grownBy w' none := by
  have hm := hl.1
  unfold maxLen at hm
  obtain ⟨W, hW⟩ : ∃ W, W = (w.alloc (.cells #[.slice A vs.length c, .slice B fs.length d] 29)).alloc (.cells #[.slice none 0 0, .slice none 0 0] 29) := ⟨_, rfl⟩
  have hlt0 : w.heap.size < w.heap.size + 1 := Nat.lt_succ_self _
  have hWs : W.heap.size = w.heap.size + 1 + 1 := by rw [hW]; simp
  have hg0 : w.grownBy W none := by rw [hW]; exact (by repeat (first | exact World.grownBy.refl _ _ | assumption | refine gr_alloc ?_ _ | (apply gr_tail; assumption) | refine gr_drewN ?_ _ | refine gr_drew ?_))
  have b0 : W.cell? ⟨w.heap.size, 0, none⟩ = some (.slice A vs.length c) := by rw [hW]; go_simp
  have b1 : W.cell? ⟨w.heap.size, 1, none⟩ = some (.slice B fs.length d) := by rw [hW]; go_simp
  have q0 : Cell W (w.heap.size + 1) 0 (.slice none 0 0) := by rw [hW]; exact ⟨by go_simp, by go_simp⟩
  have q1 : Cell W (w.heap.size + 1) 1 (.slice none 0 0) := by rw [hW]; exact ⟨by go_simp, by go_simp⟩
  replace hW := hide hW.symm
  replace hWs := hide hWs
  go_enter Try.func64, Try.ntmps64
  go_wp2_with fail
  rw [hW.out]
  refine (cloneFc_any B d fs W (hfs.pure hg0) (by omega)).mono ?_
  rintro e w1 ⟨B', d', rfl, hB, hg1⟩
  replace b0 := hg1.k b0
  replace q0 := hide (q0.gr hg1 (by simp))
  replace q1 := hide (q1.gr hg1 (by simp))
  have hg2 := gr_trans hg0 hg1
  have hlt1 : w.heap.size + 1 < w1.heap.size := q0.out.lt
  have hlw1 : w.heap.size < w1.heap.size := by omega
  have hlw2 : w.heap.size < w1.heap.size + 1 := by omega
  clear hW hg0
  go_wp2_with fail
  obtain ⟨Wb, hWb⟩ : ∃ Wb, Wb = w1.alloc (.cells #[.slice none 0 0, .slice B' fs.length d'] 29) := ⟨_, rfl⟩
  have hgb : w1.grownBy Wb none := by rw [hWb]; exact gr_alloc (World.grownBy.refl _ _) _
  have m0 : Cell Wb w1.heap.size 0 (.slice none 0 0) := by rw [hWb]; exact Cell.new w1 [.slice none 0 0, .slice B' fs.length d'] 29 0 _ rfl _ rfl
  have m1 : Cell Wb w1.heap.size 1 (.slice B' fs.length d') := by rw [hWb]; exact Cell.new w1 [.slice none 0 0, .slice B' fs.length d'] 29 1 _ rfl _ rfl
  have hWbs : Wb.heap.size = w1.heap.size + 1 := by rw [hWb]; simp
  rw [← hWb]
  clear hWb
  have hg3 := gr_trans hg2 hgb
  replace q0 := hide (q0.out.gr hgb (by simp))
  replace q1 := hide (q1.out.gr hgb (by simp))
  have hBlt := hide (fun g e => (hB.blk_lt (g := g) e))
  replace hB := hB.pure hgb
  have hlw := hg2.size
  go_loopw [15] (fun i wr => ∃ (k : Nat) (Aq : Option Addr) (cq : Nat), k ≤ vs.length ∧ i = .int .i64 k ∧ Own wr Wb.heap.size 49 Aq cq ((vs.take k).map t) ∧ Cell wr w1.heap.size 0 (.slice Aq k cq) ∧ Cell wr w1.heap.size 1 (.slice B' fs.length d') ∧ Wb.grownBy wr (some w1.heap.size)) (fun i _ => vs.length - (intOf i).toNat)
  case atStart => exact ⟨0, none, 0, by omega, rfl, Own.nil _ _ _, m0, m1, World.grownBy.refl _ _⟩
  case round =>
    obtain ⟨n1, Aq, cq, hk, rfl, hown, c0, c1, hg⟩ := hrel
    clear m0 m1
    by_cases hlt : n1 < vs.length
    · have hgw : w.grownBy wr none := gr_row hg3 hg (fun g e => by injection e; omega)
      obtain ⟨g, o, rfl, -, hbg, hcc⟩ := (hl.pure hgw).v3 (by omega)
      obtain ⟨v0, v1, v2⟩ := hcc n1 hlt
      clear hcc
      have hcl1 := fun wx hx => hcl.out vs[n1] (List.getElem_mem hlt) wx hx
      have hls : (vs.take (n1 + 1)).map t = (vs.take n1).map t ++ [t vs[n1]] := by rw [take_snoc hlt, List.map_append]; rfl
      have hq1 : ((vs.take n1).map t).length = n1 := by rw [List.length_map, List.length_take]; omega
      have hn1 : n1 ≤ 1000 := by omega
      generalize vs[n1] = vq at *
      generalize t vq = uq at *
      replace hls := hide hls
      generalize (vs.take n1).map t = lq at *
      have hclo := hide hcl1
      clear hcl1
      replace c0 := hide c0
      replace c1 := hide c1
      replace hq1 := hide hq1
      go_upto_region 5 with fail
      have hal := gr_alloc (r := none) (World.grownBy.refl wr none) (.cells #[.int .i64 vq.x, .int .i64 vq.y, .int .i64 vq.z] 49)
      have hV : VAt (wr.alloc (.cells #[.int .i64 vq.x, .int .i64 vq.y, .int .i64 vq.z] 49)) wr.heap.size vq := ⟨Cell.new wr [.int .i64 vq.x, .int .i64 vq.y, .int .i64 vq.z] 49 0 _ rfl _ rfl, Cell.new wr [.int .i64 vq.x, .int .i64 vq.y, .int .i64 vq.z] 49 1 _ rfl _ rfl, Cell.new wr [.int .i64 vq.x, .int .i64 vq.y, .int .i64 vq.z] 49 2 _ rfl _ rfl⟩
      have hqA0 : ∀ g, blk Aq = some g → g < wr.heap.size := fun g e => (hown.blk_lt e).2
      have hlo2 : wr.heap.size + 1 ≤ (wr.alloc (.cells #[.int .i64 vq.x, .int .i64 vq.y, .int .i64 vq.z] 49)).heap.size := by simp
      have hszb := hg.size
      replace hown := hown.pure hal
      replace c0 := c0.out.gr hal (by simp)
      replace c1 := c1.out.gr hal (by simp)
      replace hg := gr_step hg hal
      replace hgw := gr_trans hgw hal
      generalize (wr.alloc (.cells #[.int .i64 vq.x, .int .i64 vq.y, .int .i64 vq.z] 49)) = wv at *
      clear hal v0 v1 v2 hbg
      generalize hgv : wr.heap.size = gv at *
      generalize hgm : w1.heap.size = gm at *
      obtain ⟨lo, hlo⟩ : ∃ lo, lo = Wb.heap.size := ⟨_, rfl⟩
      obtain ⟨lo2, hlo2e⟩ : ∃ lo2, lo2 = gv + 1 := ⟨_, rfl⟩
      obtain ⟨bv, hbv⟩ : ∃ bv, bv = Value.slice B' fs.length d' := ⟨_, rfl⟩
      have hq : MpOk gm gv lo lo2 Aq w Wb := ⟨by omega, by omega, by omega, by omega, by omega, by omega, fun g e => by have := hqA0 g e; omega⟩
      have hqA : ∀ g, blk Aq = some g → g < lo2 := fun g e => by have := hqA0 g e; omega
      have hgml : gm < lo := by omega
      have hgml2 : gm < lo2 := by omega
      have hlll : lo ≤ wv.heap.size := by omega
      have hlll2 : lo ≤ lo2 := by omega
      have hI0 : ∀ m : Nat → Bool, m 8 = false → MpI gm gv lo lo2 n1 cq Aq lq vq uq bv w Wb m 0 wv.drew := fun m hm => by
        have hd := gr_drew (World.grownBy.refl wv none)
        exact ⟨gr_trans hgw hd, by show lo2 ≤ wv.heap.size; omega, hV.gr hd (by simp), fun _ => by rw [hlo]; exact hown.pure hd, fun _ => c0.gr hd (by simp), by rw [hbv]; exact c1.gr hd (by simp), gr_step hg hd, fun h => by rw [hm] at h; cases h⟩
      replace hI0 := hide hI0
      replace hq := hide hq
      replace hqA := hide hqA
      replace hq1 := hq1.out
      clear hown c0 c1 hg hV hqA0 hgw
      replace hq := hq.out
      replace hqA := hqA.out
      replace hlo := hide hlo
      replace hlo2e := hide hlo2e
      replace hbv := hide hbv
      replace hgv := hide hgv
      replace hgm := hide hgm
      refine wp_region_minvF (MpI gm gv lo lo2 n1 cq Aq lq vq uq bv w Wb) (fun m => Wrt (fun g => g = gm ∨ (m 6 = false ∧ lo ≤ g ∧ g < lo2))) [VIs (.pointer (some ⟨gm, 0, none⟩)), VIs (.slice Aq n1 cq), VIs (.func (.func 69) #[] #[.pointer (some ⟨gq, 0, none⟩)]), VIs (.agg #[.int .i64 vq.x, .int .i64 vq.y, .int .i64 vq.z]), VIs (.agg #[.int .i64 uq.x, .int .i64 uq.y, .int .i64 uq.z]), VOne lo2 uq, VMp lo n1 lq uq, VIs (.pointer (some ⟨gm, 0, none⟩)), (fun _ _ => True)] [0, 0, 0, 0, 0, 0, 0, 0, 0] (by kernel_rfl) (by kernel_rfl) (by intro vs; simp only [putAll, Act.put, List.setIfInBounds_toArray, List.set_cons_zero, List.set_cons_succ, Nat.reduceAdd]; exact rfl) ?iv0 ?iv1 rfl ?iv2 ?iv3
      case iv1 => exact Stab.ok ⟨fun m v w w' _ _ h => h, fun m v w w' _ _ h => h, fun m v w w' _ _ h => h, fun m v w w' _ _ h => h, fun m v w w' _ _ h => h, fun m v w w' _ hw h => h.stab hw (fun g h => by rcases h with h | ⟨_, h1, h2⟩ <;> omega), fun m v w w' hm hw h => h.stab hw (fun g h => by rcases h with h | ⟨h, _⟩ <;> first | omega | (rw [show m 6 = true from hm] at h; cases h)), fun m v w w' _ _ h => h, fun m v w w' _ _ h => h, trivial⟩
      case iv2 =>
        refine MOpsF.op (fun vs wx m k hmj hcl hI hk hf K hK => ?_) ?_
        · clear hf hcl
          replace hK := hide hK
          replace hI := hide hI
          go_wp2_with fail
          replace hK := hK.out (.pointer (some ⟨gm, 0, none⟩))
          simp only [Act.put, List.setIfInBounds_toArray, List.set_cons_zero, List.set_cons_succ, Nat.add_zero] at hK
          exact hK _ ((hI.out.same (by decide) (by decide))) (Wrt.pure (World.grownBy.refl _ _)) (rfl)
        refine MOpsF.op (fun vs wx m k hmj hcl hI hk hf K hK => ?_) ?_
        · have e0 : vs 0 = .pointer (some ⟨gm, 0, none⟩) := hf 0 (by decide) (by kernel_rfl)
          clear hf
          have h8 : m 8 = false := by
            cases hq : m 8 with
            | false => rfl
            | true => exact absurd (hcl 8 1 (by decide) (by decide) hq (by kernel_rfl)) (by rw [show m 1 = false from hmj]; simp)
          have c := (hI.2.2.2.2.1 h8).1
          clear hcl h8
          replace hK := hide hK
          replace hI := hide hI
          rw [e0]
          replace e0 := hide e0
          go_wp2_with fail
          replace hK := hK.out (.slice Aq n1 cq)
          simp only [Act.put, List.setIfInBounds_toArray, List.set_cons_zero, List.set_cons_succ, e0.out, Nat.add_zero] at hK
          exact hK _ ((hI.out.same (by decide) (by decide))) (Wrt.pure (World.grownBy.refl _ _)) (rfl)
        refine MOpsF.op (fun vs wx m k hmj hcl hI hk hf K hK => ?_) ?_
        · clear hf hcl
          replace hK := hide hK
          replace hI := hide hI
          go_wp2_with fail
          replace hK := hK.out (.func (.func 69) #[] #[.pointer (some ⟨gq, 0, none⟩)])
          simp only [Act.put, List.setIfInBounds_toArray, List.set_cons_zero, List.set_cons_succ, Nat.add_zero] at hK
          exact hK _ ((hI.out.same (by decide) (by decide))) (Wrt.pure (World.grownBy.refl _ _)) (rfl)
        refine MOpsF.op (fun vs wx m k hmj hcl hI hk hf K hK => ?_) ?_
        · clear hf hcl
          have hVV := hI.2.2.1
          obtain ⟨⟨z0, -⟩, ⟨z1, -⟩, ⟨z2, -⟩⟩ := hVV
          replace hK := hide hK
          replace hI := hide hI
          go_wp2_with fail
          replace hK := hK.out (.agg #[.int .i64 vq.x, .int .i64 vq.y, .int .i64 vq.z])
          simp only [Act.put, List.setIfInBounds_toArray, List.set_cons_zero, List.set_cons_succ, Nat.add_zero] at hK
          exact hK _ ((hI.out.same (by decide) (by decide))) (Wrt.pure (World.grownBy.refl _ _)) (rfl)
        refine MOpsF.op (fun vs wx m k hmj hcl hI hk hf K hK => ?_) ?_
        · have e2 : vs 2 = .func (.func 69) #[] #[.pointer (some ⟨gq, 0, none⟩)] := hf 2 (by decide) (by kernel_rfl)
          have e3 : vs 3 = .agg #[.int .i64 vq.x, .int .i64 vq.y, .int .i64 vq.z] := hf 3 (by decide) (by kernel_rfl)
          clear hf hcl
          have hCL := hide (hclo.out wx hI.1)
          replace hK := hide hK
          replace hI := hide hI
          rw [e2, e3]
          replace e2 := hide e2
          replace e3 := hide e3
          go_wp2_with fail
          go_at_call 69
          refine hCL.out.mono ?_
          rintro e wy ⟨rfl, hgy⟩
          go_wp2_with fail
          replace hK := hK.out (.agg #[.int .i64 uq.x, .int .i64 uq.y, .int .i64 uq.z])
          simp only [Act.put, List.setIfInBounds_toArray, List.set_cons_zero, List.set_cons_succ, e2.out, e3.out, Nat.add_zero] at hK
          exact hK _ (((hI.out.same (by decide) (by decide)).pure hgy)) (Wrt.pure hgy) (rfl)
        refine MOpsF.op (fun vs wx m k hmj hcl hI hk hf K hK => ?_) ?_
        · have e4 : vs 4 = .agg #[.int .i64 uq.x, .int .i64 uq.y, .int .i64 uq.z] := hf 4 (by decide) (by kernel_rfl)
          clear hf hcl
          replace hK := hide hK
          replace hI := hide hI
          rw [e4]
          replace e4 := hide e4
          go_wp2_with fail
          replace hK := hK.out (.slice (some ⟨wx.heap.size, 0, none⟩) 1 1)
          simp only [Act.put, List.setIfInBounds_toArray, List.set_cons_zero, List.set_cons_succ, e4.out, Nat.add_zero] at hK
          exact hK _ (((hI.out.same (by decide) (by decide)).pure (gr_alloc (World.grownBy.refl _ _) _))) (Wrt.pure (gr_alloc (World.grownBy.refl _ _) _)) (⟨wx.heap.size, rfl, sl_oneAt _ _ _ _ _ _ rfl hI.out.2.1 rfl⟩)
        refine MOpsF.op (fun vs wx m k hmj hcl hI hk hf K hK => ?_) ?_
        · have e1 : vs 1 = .slice Aq n1 cq := hf 1 (by decide) (by kernel_rfl)
          obtain ⟨g5, e5, hsl⟩ := hf 5 (by decide) (by kernel_rfl)
          clear hf
          have h8 : m 8 = false := by
            cases hq : m 8 with
            | false => rfl
            | true => exact absurd (hcl 8 6 (by decide) (by decide) hq (by kernel_rfl)) (by rw [show m 6 = false from hmj]; simp)
          have hown := hI.2.2.2.1 hmj
          obtain ⟨i0, hi, hz, h1, h2⟩ := info_parts info_v3
          replace hK := hide hK
          replace hI := hide hI
          rw [e1, e5]
          replace e1 := hide e1
          replace e5 := hide e5
          refine wp_pushAt (α := V3) _ (.tmp 20) (.tmp 24) _ rfl lo 49 i0 _ 24 Try.underlying26 hi hz h1 h2 rfl _ _ _ lq rfl ?_ hown lo2 ⟨g5, 0, none⟩ 1 1 [uq] rfl ?_ hsl ?_ ?_ ?_ ?_
          · exact hq1.symm
          · rfl
          · simp; omega
          · simp [maxLen]; omega
          · have := hI.out.2.1; omega
          intro A5 c5 w5 hown5 hG5
          simp only [Act.put, List.setIfInBounds_toArray, List.set_cons_zero, List.set_cons_succ]
          replace hK := hK.out (.slice A5 (lq ++ [uq]).length c5)
          simp only [Act.put, List.setIfInBounds_toArray, List.set_cons_zero, List.set_cons_succ, e1.out, e5.out, Nat.add_zero] at hK
          exact hK _ ((hI.out.app hq (show m 6 = false from hmj) h8 hG5 hown)) (⟨_, hG5.1, fun g e => .inr ⟨hmj, (hown.blk_lt e).1, hqA g e⟩⟩) (⟨A5, c5, by rw [List.length_append, hq1]; rfl, hown5⟩)
        refine MOpsF.op (fun vs wx m k hmj hcl hI hk hf K hK => ?_) ?_
        · clear hf hcl
          replace hK := hide hK
          replace hI := hide hI
          go_wp2_with fail
          replace hK := hK.out (.pointer (some ⟨gm, 0, none⟩))
          simp only [Act.put, List.setIfInBounds_toArray, List.set_cons_zero, List.set_cons_succ, Nat.add_zero] at hK
          exact hK _ ((hI.out.same (by decide) (by decide))) (Wrt.pure (World.grownBy.refl _ _)) (rfl)
        refine MOpsF.op (fun vs wx m k hmj hcl hI hk hf K hK => ?_) ?_
        · have e7 : vs 7 = .pointer (some ⟨gm, 0, none⟩) := hf 7 (by decide) (by kernel_rfl)
          obtain ⟨A6, c6, e6, ho6⟩ := hf 6 (by decide) (by kernel_rfl)
          clear hf hcl
          have c := hI.2.2.2.2.1 hmj
          obtain ⟨c, fz⟩ := c
          have hgs := gr_set (World.grownBy.refl wx (some gm)) (p := ⟨gm, 0, none⟩) (.inl rfl) (.slice A6 (n1 + 1) c6)
          replace hgs := hide hgs
          replace ho6 := hide ho6
          replace hK := hide hK
          replace hI := hide hI
          rw [e7, e6]
          replace e7 := hide e7
          replace e6 := hide e6
          go_wp2_with fail
          replace hK := hK.out (undef)
          simp only [Act.put, List.setIfInBounds_toArray, List.set_cons_zero, List.set_cons_succ, e7.out, e6.out, Nat.add_zero] at hK
          exact hK _ ((hI.out.fin hq ⟨c, fz⟩ ho6.out)) (Wrt.one hgs.out (.inl rfl)) (trivial)
        exact MOpsF.done
      case iv0 => exact fun m hm => hI0.out m (hm 8 (by decide))
      case iv3 =>
        intro vs' w9 m hm' hI hf
        have h8 := hm' 8 (by decide)
        obtain ⟨-, -, -, -, -, k6, k7, k8⟩ := hI
        obtain ⟨A2, c2, k0, kO⟩ := k8 h8
        clear hf hm' h8 hI0 hq hqA k8
        rw [hlo.out] at kO
        rw [hbv.out] at k6
        obtain rfl := hgm.out
        obtain rfl := hgv.out
        go_wp2_with fail
        (go_roundw; (case rel => exact ⟨n1 + 1, A2, c2, by omega, by go_num, by rw [hls.out]; exact kO, k0, k6, k7⟩); (case measure => simp [intOf]; omega))
    · have hkn : n1 = vs.length := by omega
      subst hkn
      rw [List.take_length] at hown
      have hgw : w.grownBy wr none := gr_row hg3 hg (fun g e => by injection e; omega)
      have hB2 := hB.ne hg (fun g e1 e2 => by have := hBlt.out g e1; injection e2; omega)
      obtain ⟨x0, y0⟩ := q0.out.gr hg (fun e => by injection e; omega)
      obtain ⟨x1, y1⟩ := q1.out.gr hg (fun e => by injection e; omega)
      obtain ⟨c0, -⟩ := c0
      obtain ⟨c1, -⟩ := c1
      have hltb : w1.heap.size < wr.heap.size := cell_lt c0
      clear hg hcl
      go_wp2_with fail
      have hgs := fun (v1 v2 : Value) => gr_set (gr_set (World.grownBy.refl wr (some (w.heap.size + 1))) (p := ⟨w.heap.size + 1, 0, none⟩) (.inl rfl) v1) (p := ⟨w.heap.size + 1, 1, none⟩) (.inl rfl) v2
      have hWs' := hWs.out
      refine bodyPost_ret (v := .agg #[.slice Aq vs.length cq, .slice B' fs.length d']) (by simp [results, Try.results64, go_sem, x0, x1, y0, y1]) rfl ⟨Aq, cq, B', d', rfl, ?_, ?_, ?_, gr_row hgw (hgs _ _) (fun g e => by injection e; omega)⟩
      · exact (hown.ne (hgs _ _) (fun g e1 e2 => by have := (hown.blk_lt e1).1; injection e2; omega)).lower (by omega)
      · exact (hB2.ne (hgs _ _) (fun g e1 e2 => by have := (hB2.blk_lt e1).1; injection e2; omega)).lower (by omega)
      · intro g e1 e2
        have := (hown.blk_lt e1).1
        have := hBlt.out g e2
        omega

end Go.Proofs.Ytjodjdjfagjiaaa

namespace Go.Proofs.Ytjodjdjfagjiaaa
open Go.RowKit Go.Bl

set_option maxHeartbeats 4000000 in
set_option maxRecDepth 100000 in
theorem madeTurn_any (t : V3 → V3) (gq ga : Nat) (A : Option Addr) (c : Nat) (vs : List V3) (B : Option Addr) (d : Nat) (fs : List Fc) (w : World) (hl : Sl w 0 A vs) (hfs : Sl w 0 B fs) (hvl : vs.length ≤ 1000) (hfl : fs.length ≤ 1000)
    (hcl : Hid (∀ v ∈ vs, ∀ wx, w.grownBy wx none → Calls Try.prog 71 #[.agg #[.int .i64 v.x, .int .i64 v.y, .int .i64 v.z], .pointer (some ⟨gq, 0, none⟩), .pointer (some ⟨ga, 0, none⟩)] wx fun e w' => e = .returned (.agg #[.int .i64 (t v).x, .int .i64 (t v).y, .int .i64 (t v).z]) ∧ wx.grownBy w' none)) :
    Calls Try.prog 70 #[.agg #[.slice A vs.length c, .slice B fs.length d], .func (.func 71) #[] #[.pointer (some ⟨gq, 0, none⟩), .pointer (some ⟨ga, 0, none⟩)]] w (SMeshE w.heap.size (okM ⟨vs.map t, fs⟩) (meshF ⟨vs.map t, fs⟩) w) := by
  have hm := hl.1
  unfold maxLen at hm
  obtain ⟨W, hW⟩ : ∃ W, W = (w.alloc (.cells #[.slice A vs.length c, .slice B fs.length d] 29)).alloc (.cells #[.slice none 0 0, .slice none 0 0] 29) := ⟨_, rfl⟩
  have hlt0 : w.heap.size < w.heap.size + 1 := Nat.lt_succ_self _
  have hWs : W.heap.size = w.heap.size + 1 + 1 := by rw [hW]; simp
  have hg0 : w.grownBy W none := by rw [hW]; exact (by repeat (first | exact World.grownBy.refl _ _ | assumption | refine gr_alloc ?_ _ | (apply gr_tail; assumption) | refine gr_drewN ?_ _ | refine gr_drew ?_))
  have b0 : W.cell? ⟨w.heap.size, 0, none⟩ = some (.slice A vs.length c) := by rw [hW]; go_simp
  have b1 : W.cell? ⟨w.heap.size, 1, none⟩ = some (.slice B fs.length d) := by rw [hW]; go_simp
  have q0 : Cell W (w.heap.size + 1) 0 (.slice none 0 0) := by rw [hW]; exact ⟨by go_simp, by go_simp⟩
  have q1 : Cell W (w.heap.size + 1) 1 (.slice none 0 0) := by rw [hW]; exact ⟨by go_simp, by go_simp⟩
  replace hW := hide hW.symm
  replace hWs := hide hWs
  go_enter Try.func70, Try.ntmps70
  go_wp2_with fail
  rw [hW.out]
  refine (cloneFc_any B d fs W (hfs.pure hg0) (by omega)).mono ?_
  rintro e w1 ⟨B', d', rfl, hB, hg1⟩
  replace b0 := hg1.k b0
  replace q0 := hide (q0.gr hg1 (by simp))
  replace q1 := hide (q1.gr hg1 (by simp))
  have hg2 := gr_trans hg0 hg1
  have hlt1 : w.heap.size + 1 < w1.heap.size := q0.out.lt
  have hlw1 : w.heap.size < w1.heap.size := by omega
  have hlw2 : w.heap.size < w1.heap.size + 1 := by omega
  clear hW hg0
  go_wp2_with fail
  obtain ⟨Wb, hWb⟩ : ∃ Wb, Wb = w1.alloc (.cells #[.slice none 0 0, .slice B' fs.length d'] 29) := ⟨_, rfl⟩
  have hgb : w1.grownBy Wb none := by rw [hWb]; exact gr_alloc (World.grownBy.refl _ _) _
  have m0 : Cell Wb w1.heap.size 0 (.slice none 0 0) := by rw [hWb]; exact Cell.new w1 [.slice none 0 0, .slice B' fs.length d'] 29 0 _ rfl _ rfl
  have m1 : Cell Wb w1.heap.size 1 (.slice B' fs.length d') := by rw [hWb]; exact Cell.new w1 [.slice none 0 0, .slice B' fs.length d'] 29 1 _ rfl _ rfl
  have hWbs : Wb.heap.size = w1.heap.size + 1 := by rw [hWb]; simp
  rw [← hWb]
  clear hWb
  have hg3 := gr_trans hg2 hgb
  replace q0 := hide (q0.out.gr hgb (by simp))
  replace q1 := hide (q1.out.gr hgb (by simp))
  have hBlt := hide (fun g e => (hB.blk_lt (g := g) e))
  replace hB := hB.pure hgb
  have hlw := hg2.size
  go_loopw [16] (fun i wr => ∃ (k : Nat) (Aq : Option Addr) (cq : Nat), k ≤ vs.length ∧ i = .int .i64 k ∧ Own wr Wb.heap.size 49 Aq cq ((vs.take k).map t) ∧ Cell wr w1.heap.size 0 (.slice Aq k cq) ∧ Cell wr w1.heap.size 1 (.slice B' fs.length d') ∧ Wb.grownBy wr (some w1.heap.size)) (fun i _ => vs.length - (intOf i).toNat)
  case atStart => exact ⟨0, none, 0, by omega, rfl, Own.nil _ _ _, m0, m1, World.grownBy.refl _ _⟩
  case round =>
    obtain ⟨n1, Aq, cq, hk, rfl, hown, c0, c1, hg⟩ := hrel
    clear m0 m1
    by_cases hlt : n1 < vs.length
    · have hgw : w.grownBy wr none := gr_row hg3 hg (fun g e => by injection e; omega)
      obtain ⟨g, o, rfl, -, hbg, hcc⟩ := (hl.pure hgw).v3 (by omega)
      obtain ⟨v0, v1, v2⟩ := hcc n1 hlt
      clear hcc
      have hcl1 := fun wx hx => hcl.out vs[n1] (List.getElem_mem hlt) wx hx
      have hls : (vs.take (n1 + 1)).map t = (vs.take n1).map t ++ [t vs[n1]] := by rw [take_snoc hlt, List.map_append]; rfl
      have hq1 : ((vs.take n1).map t).length = n1 := by rw [List.length_map, List.length_take]; omega
      have hn1 : n1 ≤ 1000 := by omega
      generalize vs[n1] = vq at *
      generalize t vq = uq at *
      replace hls := hide hls
      generalize (vs.take n1).map t = lq at *
      have hclo := hide hcl1
      clear hcl1
      replace c0 := hide c0
      replace c1 := hide c1
      replace hq1 := hide hq1
      go_upto_region 5 with fail
      have hal := gr_alloc (r := none) (World.grownBy.refl wr none) (.cells #[.int .i64 vq.x, .int .i64 vq.y, .int .i64 vq.z] 49)
      have hV : VAt (wr.alloc (.cells #[.int .i64 vq.x, .int .i64 vq.y, .int .i64 vq.z] 49)) wr.heap.size vq := ⟨Cell.new wr [.int .i64 vq.x, .int .i64 vq.y, .int .i64 vq.z] 49 0 _ rfl _ rfl, Cell.new wr [.int .i64 vq.x, .int .i64 vq.y, .int .i64 vq.z] 49 1 _ rfl _ rfl, Cell.new wr [.int .i64 vq.x, .int .i64 vq.y, .int .i64 vq.z] 49 2 _ rfl _ rfl⟩
      have hqA0 : ∀ g, blk Aq = some g → g < wr.heap.size := fun g e => (hown.blk_lt e).2
      have hlo2 : wr.heap.size + 1 ≤ (wr.alloc (.cells #[.int .i64 vq.x, .int .i64 vq.y, .int .i64 vq.z] 49)).heap.size := by simp
      have hszb := hg.size
      replace hown := hown.pure hal
      replace c0 := c0.out.gr hal (by simp)
      replace c1 := c1.out.gr hal (by simp)
      replace hg := gr_step hg hal
      replace hgw := gr_trans hgw hal
      generalize (wr.alloc (.cells #[.int .i64 vq.x, .int .i64 vq.y, .int .i64 vq.z] 49)) = wv at *
      clear hal v0 v1 v2 hbg
      generalize hgv : wr.heap.size = gv at *
      generalize hgm : w1.heap.size = gm at *
      obtain ⟨lo, hlo⟩ : ∃ lo, lo = Wb.heap.size := ⟨_, rfl⟩
      obtain ⟨lo2, hlo2e⟩ : ∃ lo2, lo2 = gv + 1 := ⟨_, rfl⟩
      obtain ⟨bv, hbv⟩ : ∃ bv, bv = Value.slice B' fs.length d' := ⟨_, rfl⟩
      have hq : MpOk gm gv lo lo2 Aq w Wb := ⟨by omega, by omega, by omega, by omega, by omega, by omega, fun g e => by have := hqA0 g e; omega⟩
      have hqA : ∀ g, blk Aq = some g → g < lo2 := fun g e => by have := hqA0 g e; omega
      have hgml : gm < lo := by omega
      have hgml2 : gm < lo2 := by omega
      have hlll : lo ≤ wv.heap.size := by omega
      have hlll2 : lo ≤ lo2 := by omega
      have hI0 : ∀ m : Nat → Bool, m 8 = false → MpI gm gv lo lo2 n1 cq Aq lq vq uq bv w Wb m 0 wv.drew := fun m hm => by
        have hd := gr_drew (World.grownBy.refl wv none)
        exact ⟨gr_trans hgw hd, by show lo2 ≤ wv.heap.size; omega, hV.gr hd (by simp), fun _ => by rw [hlo]; exact hown.pure hd, fun _ => c0.gr hd (by simp), by rw [hbv]; exact c1.gr hd (by simp), gr_step hg hd, fun h => by rw [hm] at h; cases h⟩
      replace hI0 := hide hI0
      replace hq := hide hq
      replace hqA := hide hqA
      replace hq1 := hq1.out
      clear hown c0 c1 hg hV hqA0 hgw
      replace hq := hq.out
      replace hqA := hqA.out
      replace hlo := hide hlo
      replace hlo2e := hide hlo2e
      replace hbv := hide hbv
      replace hgv := hide hgv
      replace hgm := hide hgm
      refine wp_region_minvF (MpI gm gv lo lo2 n1 cq Aq lq vq uq bv w Wb) (fun m => Wrt (fun g => g = gm ∨ (m 6 = false ∧ lo ≤ g ∧ g < lo2))) [VIs (.pointer (some ⟨gm, 0, none⟩)), VIs (.slice Aq n1 cq), VIs (.func (.func 71) #[] #[.pointer (some ⟨gq, 0, none⟩), .pointer (some ⟨ga, 0, none⟩)]), VIs (.agg #[.int .i64 vq.x, .int .i64 vq.y, .int .i64 vq.z]), VIs (.agg #[.int .i64 uq.x, .int .i64 uq.y, .int .i64 uq.z]), VOne lo2 uq, VMp lo n1 lq uq, VIs (.pointer (some ⟨gm, 0, none⟩)), (fun _ _ => True)] [0, 0, 0, 0, 0, 0, 0, 0, 0] (by kernel_rfl) (by kernel_rfl) (by intro vs; simp only [putAll, Act.put, List.setIfInBounds_toArray, List.set_cons_zero, List.set_cons_succ, Nat.reduceAdd]; exact rfl) ?iv0 ?iv1 rfl ?iv2 ?iv3
      case iv1 => exact Stab.ok ⟨fun m v w w' _ _ h => h, fun m v w w' _ _ h => h, fun m v w w' _ _ h => h, fun m v w w' _ _ h => h, fun m v w w' _ _ h => h, fun m v w w' _ hw h => h.stab hw (fun g h => by rcases h with h | ⟨_, h1, h2⟩ <;> omega), fun m v w w' hm hw h => h.stab hw (fun g h => by rcases h with h | ⟨h, _⟩ <;> first | omega | (rw [show m 6 = true from hm] at h; cases h)), fun m v w w' _ _ h => h, fun m v w w' _ _ h => h, trivial⟩
      case iv2 =>
        refine MOpsF.op (fun vs wx m k hmj hcl hI hk hf K hK => ?_) ?_
        · clear hf hcl
          replace hK := hide hK
          replace hI := hide hI
          go_wp2_with fail
          replace hK := hK.out (.pointer (some ⟨gm, 0, none⟩))
          simp only [Act.put, List.setIfInBounds_toArray, List.set_cons_zero, List.set_cons_succ, Nat.add_zero] at hK
          exact hK _ ((hI.out.same (by decide) (by decide))) (Wrt.pure (World.grownBy.refl _ _)) (rfl)
        refine MOpsF.op (fun vs wx m k hmj hcl hI hk hf K hK => ?_) ?_
        · have e0 : vs 0 = .pointer (some ⟨gm, 0, none⟩) := hf 0 (by decide) (by kernel_rfl)
          clear hf
          have h8 : m 8 = false := by
            cases hq : m 8 with
            | false => rfl
            | true => exact absurd (hcl 8 1 (by decide) (by decide) hq (by kernel_rfl)) (by rw [show m 1 = false from hmj]; simp)
          have c := (hI.2.2.2.2.1 h8).1
          clear hcl h8
          replace hK := hide hK
          replace hI := hide hI
          rw [e0]
          replace e0 := hide e0
          go_wp2_with fail
          replace hK := hK.out (.slice Aq n1 cq)
          simp only [Act.put, List.setIfInBounds_toArray, List.set_cons_zero, List.set_cons_succ, e0.out, Nat.add_zero] at hK
          exact hK _ ((hI.out.same (by decide) (by decide))) (Wrt.pure (World.grownBy.refl _ _)) (rfl)
        refine MOpsF.op (fun vs wx m k hmj hcl hI hk hf K hK => ?_) ?_
        · clear hf hcl
          replace hK := hide hK
          replace hI := hide hI
          go_wp2_with fail
          replace hK := hK.out (.func (.func 71) #[] #[.pointer (some ⟨gq, 0, none⟩), .pointer (some ⟨ga, 0, none⟩)])
          simp only [Act.put, List.setIfInBounds_toArray, List.set_cons_zero, List.set_cons_succ, Nat.add_zero] at hK
          exact hK _ ((hI.out.same (by decide) (by decide))) (Wrt.pure (World.grownBy.refl _ _)) (rfl)
        refine MOpsF.op (fun vs wx m k hmj hcl hI hk hf K hK => ?_) ?_
        · clear hf hcl
          have hVV := hI.2.2.1
          obtain ⟨⟨z0, -⟩, ⟨z1, -⟩, ⟨z2, -⟩⟩ := hVV
          replace hK := hide hK
          replace hI := hide hI
          go_wp2_with fail
          replace hK := hK.out (.agg #[.int .i64 vq.x, .int .i64 vq.y, .int .i64 vq.z])
          simp only [Act.put, List.setIfInBounds_toArray, List.set_cons_zero, List.set_cons_succ, Nat.add_zero] at hK
          exact hK _ ((hI.out.same (by decide) (by decide))) (Wrt.pure (World.grownBy.refl _ _)) (rfl)
        refine MOpsF.op (fun vs wx m k hmj hcl hI hk hf K hK => ?_) ?_
        · have e2 : vs 2 = .func (.func 71) #[] #[.pointer (some ⟨gq, 0, none⟩), .pointer (some ⟨ga, 0, none⟩)] := hf 2 (by decide) (by kernel_rfl)
          have e3 : vs 3 = .agg #[.int .i64 vq.x, .int .i64 vq.y, .int .i64 vq.z] := hf 3 (by decide) (by kernel_rfl)
          clear hf hcl
          have hCL := hide (hclo.out wx hI.1)
          replace hK := hide hK
          replace hI := hide hI
          rw [e2, e3]
          replace e2 := hide e2
          replace e3 := hide e3
          go_wp2_with fail
          go_at_call 71
          refine hCL.out.mono ?_
          rintro e wy ⟨rfl, hgy⟩
          go_wp2_with fail
          replace hK := hK.out (.agg #[.int .i64 uq.x, .int .i64 uq.y, .int .i64 uq.z])
          simp only [Act.put, List.setIfInBounds_toArray, List.set_cons_zero, List.set_cons_succ, e2.out, e3.out, Nat.add_zero] at hK
          exact hK _ (((hI.out.same (by decide) (by decide)).pure hgy)) (Wrt.pure hgy) (rfl)
        refine MOpsF.op (fun vs wx m k hmj hcl hI hk hf K hK => ?_) ?_
        · have e4 : vs 4 = .agg #[.int .i64 uq.x, .int .i64 uq.y, .int .i64 uq.z] := hf 4 (by decide) (by kernel_rfl)
          clear hf hcl
          replace hK := hide hK
          replace hI := hide hI
          rw [e4]
          replace e4 := hide e4
          go_wp2_with fail
          replace hK := hK.out (.slice (some ⟨wx.heap.size, 0, none⟩) 1 1)
          simp only [Act.put, List.setIfInBounds_toArray, List.set_cons_zero, List.set_cons_succ, e4.out, Nat.add_zero] at hK
          exact hK _ (((hI.out.same (by decide) (by decide)).pure (gr_alloc (World.grownBy.refl _ _) _))) (Wrt.pure (gr_alloc (World.grownBy.refl _ _) _)) (⟨wx.heap.size, rfl, sl_oneAt _ _ _ _ _ _ rfl hI.out.2.1 rfl⟩)
        refine MOpsF.op (fun vs wx m k hmj hcl hI hk hf K hK => ?_) ?_
        · have e1 : vs 1 = .slice Aq n1 cq := hf 1 (by decide) (by kernel_rfl)
          obtain ⟨g5, e5, hsl⟩ := hf 5 (by decide) (by kernel_rfl)
          clear hf
          have h8 : m 8 = false := by
            cases hq : m 8 with
            | false => rfl
            | true => exact absurd (hcl 8 6 (by decide) (by decide) hq (by kernel_rfl)) (by rw [show m 6 = false from hmj]; simp)
          have hown := hI.2.2.2.1 hmj
          obtain ⟨i0, hi, hz, h1, h2⟩ := info_parts info_v3
          replace hK := hide hK
          replace hI := hide hI
          rw [e1, e5]
          replace e1 := hide e1
          replace e5 := hide e5
          refine wp_pushAt (α := V3) _ (.tmp 21) (.tmp 25) _ rfl lo 49 i0 _ 24 Try.underlying26 hi hz h1 h2 rfl _ _ _ lq rfl ?_ hown lo2 ⟨g5, 0, none⟩ 1 1 [uq] rfl ?_ hsl ?_ ?_ ?_ ?_
          · exact hq1.symm
          · rfl
          · simp; omega
          · simp [maxLen]; omega
          · have := hI.out.2.1; omega
          intro A5 c5 w5 hown5 hG5
          simp only [Act.put, List.setIfInBounds_toArray, List.set_cons_zero, List.set_cons_succ]
          replace hK := hK.out (.slice A5 (lq ++ [uq]).length c5)
          simp only [Act.put, List.setIfInBounds_toArray, List.set_cons_zero, List.set_cons_succ, e1.out, e5.out, Nat.add_zero] at hK
          exact hK _ ((hI.out.app hq (show m 6 = false from hmj) h8 hG5 hown)) (⟨_, hG5.1, fun g e => .inr ⟨hmj, (hown.blk_lt e).1, hqA g e⟩⟩) (⟨A5, c5, by rw [List.length_append, hq1]; rfl, hown5⟩)
        refine MOpsF.op (fun vs wx m k hmj hcl hI hk hf K hK => ?_) ?_
        · clear hf hcl
          replace hK := hide hK
          replace hI := hide hI
          go_wp2_with fail
          replace hK := hK.out (.pointer (some ⟨gm, 0, none⟩))
          simp only [Act.put, List.setIfInBounds_toArray, List.set_cons_zero, List.set_cons_succ, Nat.add_zero] at hK
          exact hK _ ((hI.out.same (by decide) (by decide))) (Wrt.pure (World.grownBy.refl _ _)) (rfl)
        refine MOpsF.op (fun vs wx m k hmj hcl hI hk hf K hK => ?_) ?_
        · have e7 : vs 7 = .pointer (some ⟨gm, 0, none⟩) := hf 7 (by decide) (by kernel_rfl)
          obtain ⟨A6, c6, e6, ho6⟩ := hf 6 (by decide) (by kernel_rfl)
          clear hf hcl
          have c := hI.2.2.2.2.1 hmj
          obtain ⟨c, fz⟩ := c
          have hgs := gr_set (World.grownBy.refl wx (some gm)) (p := ⟨gm, 0, none⟩) (.inl rfl) (.slice A6 (n1 + 1) c6)
          replace hgs := hide hgs
          replace ho6 := hide ho6
          replace hK := hide hK
          replace hI := hide hI
          rw [e7, e6]
          replace e7 := hide e7
          replace e6 := hide e6
          go_wp2_with fail
          replace hK := hK.out (undef)
          simp only [Act.put, List.setIfInBounds_toArray, List.set_cons_zero, List.set_cons_succ, e7.out, e6.out, Nat.add_zero] at hK
          exact hK _ ((hI.out.fin hq ⟨c, fz⟩ ho6.out)) (Wrt.one hgs.out (.inl rfl)) (trivial)
        exact MOpsF.done
      case iv0 => exact fun m hm => hI0.out m (hm 8 (by decide))
      case iv3 =>
        intro vs' w9 m hm' hI hf
        have h8 := hm' 8 (by decide)
        obtain ⟨-, -, -, -, -, k6, k7, k8⟩ := hI
        obtain ⟨A2, c2, k0, kO⟩ := k8 h8
        clear hf hm' h8 hI0 hq hqA k8
        rw [hlo.out] at kO
        rw [hbv.out] at k6
        obtain rfl := hgm.out
        obtain rfl := hgv.out
        go_wp2_with fail
        (go_roundw; (case rel => exact ⟨n1 + 1, A2, c2, by omega, by go_num, by rw [hls.out]; exact kO, k0, k6, k7⟩); (case measure => simp [intOf]; omega))
    · have hkn : n1 = vs.length := by omega
      subst hkn
      rw [List.take_length] at hown
      have hgw : w.grownBy wr none := gr_row hg3 hg (fun g e => by injection e; omega)
      have hB2 := hB.ne hg (fun g e1 e2 => by have := hBlt.out g e1; injection e2; omega)
      obtain ⟨x0, y0⟩ := q0.out.gr hg (fun e => by injection e; omega)
      obtain ⟨x1, y1⟩ := q1.out.gr hg (fun e => by injection e; omega)
      obtain ⟨c0, -⟩ := c0
      obtain ⟨c1, -⟩ := c1
      have hltb : w1.heap.size < wr.heap.size := cell_lt c0
      clear hg hcl
      have hlm : (vs.map t).length = vs.length := List.length_map _
      have hR := right_any Aq cq (vs.map t) B' d' fs wr W.heap.size (hown.sl.mono (show W.heap.size ≤ _ by have := hWs.out; omega)) hB2.sl
      rw [hlm] at hR
      replace hR := hide hR
      have hX0 := hide (show Cell wr (w.heap.size + 1) 0 (.slice none 0 0) from ⟨x0, y0⟩)
      have hX1 := hide (show Cell wr (w.heap.size + 1) 1 (.slice none 0 0) from ⟨x1, y1⟩)
      clear x0 y0 x1 y1
      go_wp2_with fail
      refine hR.out.mono ?_
      rintro e w9 ⟨A9, c9, B9, d9, rfl, s1, s2, g9⟩
      obtain ⟨x0, y0⟩ := hX0.out.gr g9 (by simp)
      obtain ⟨x1, y1⟩ := hX1.out.gr g9 (by simp)
      clear hR
      go_wp2_with fail
      have hk := fun (v1 v2 : Value) => gr_set (gr_set (gr_trans hgw g9) (p := ⟨w.heap.size + 1, 0, none⟩) (.inr (Nat.le_succ _)) v1) (p := ⟨w.heap.size + 1, 1, none⟩) (.inr (Nat.le_succ _)) v2
      have hgs := fun (v1 v2 : Value) => gr_set (gr_set (World.grownBy.refl w9 (some (w.heap.size + 1))) (p := ⟨w.heap.size + 1, 0, none⟩) (.inl rfl) v1) (p := ⟨w.heap.size + 1, 1, none⟩) (.inl rfl) v2
      refine bodyPost_ret (v := .tuple #[.agg #[.slice A9 (okM ⟨vs.map t, fs⟩).vs.length c9, .slice B9 (okM ⟨vs.map t, fs⟩).fs.length d9], .int .i64 (meshF ⟨vs.map t, fs⟩)]) (by simp [results, Try.results70, go_sem, x0, x1, y0, y1]) rfl ⟨A9, c9, B9, d9, rfl, ?_, ?_, hk _ _⟩
      · exact (s1.gr (hgs _ _) (fun g e => by injection e; have := hWs.out; omega)).mono (by have := hWs.out; omega)
      · exact (s2.gr (hgs _ _) (fun g e => by injection e; have := hWs.out; omega)).mono (by have := hWs.out; omega)

set_option maxHeartbeats 4000000 in
set_option maxRecDepth 100000 in
theorem madeMove_any (t : V3 → V3) (gq : Nat) (A : Option Addr) (c : Nat) (vs : List V3) (B : Option Addr) (d : Nat) (fs : List Fc) (w : World) (hl : Sl w 0 A vs) (hfs : Sl w 0 B fs) (hvl : vs.length ≤ 1000) (hfl : fs.length ≤ 1000)
    (hcl : Hid (∀ v ∈ vs, ∀ wx, w.grownBy wx none → Calls Try.prog 72 #[.agg #[.int .i64 v.x, .int .i64 v.y, .int .i64 v.z], .pointer (some ⟨gq, 0, none⟩)] wx fun e w' => e = .returned (.agg #[.int .i64 (t v).x, .int .i64 (t v).y, .int .i64 (t v).z]) ∧ wx.grownBy w' none)) :
    Calls Try.prog 70 #[.agg #[.slice A vs.length c, .slice B fs.length d], .func (.func 72) #[] #[.pointer (some ⟨gq, 0, none⟩)]] w (SMeshE w.heap.size (okM ⟨vs.map t, fs⟩) (meshF ⟨vs.map t, fs⟩) w) := by
  have hm := hl.1
  unfold maxLen at hm
  obtain ⟨W, hW⟩ : ∃ W, W = (w.alloc (.cells #[.slice A vs.length c, .slice B fs.length d] 29)).alloc (.cells #[.slice none 0 0, .slice none 0 0] 29) := ⟨_, rfl⟩
  have hlt0 : w.heap.size < w.heap.size + 1 := Nat.lt_succ_self _
  have hWs : W.heap.size = w.heap.size + 1 + 1 := by rw [hW]; simp
  have hg0 : w.grownBy W none := by rw [hW]; exact (by repeat (first | exact World.grownBy.refl _ _ | assumption | refine gr_alloc ?_ _ | (apply gr_tail; assumption) | refine gr_drewN ?_ _ | refine gr_drew ?_))
  have b0 : W.cell? ⟨w.heap.size, 0, none⟩ = some (.slice A vs.length c) := by rw [hW]; go_simp
  have b1 : W.cell? ⟨w.heap.size, 1, none⟩ = some (.slice B fs.length d) := by rw [hW]; go_simp
  have q0 : Cell W (w.heap.size + 1) 0 (.slice none 0 0) := by rw [hW]; exact ⟨by go_simp, by go_simp⟩
  have q1 : Cell W (w.heap.size + 1) 1 (.slice none 0 0) := by rw [hW]; exact ⟨by go_simp, by go_simp⟩
  replace hW := hide hW.symm
  replace hWs := hide hWs
  go_enter Try.func70, Try.ntmps70
  go_wp2_with fail
  rw [hW.out]
  refine (cloneFc_any B d fs W (hfs.pure hg0) (by omega)).mono ?_
  rintro e w1 ⟨B', d', rfl, hB, hg1⟩
  replace b0 := hg1.k b0
  replace q0 := hide (q0.gr hg1 (by simp))
  replace q1 := hide (q1.gr hg1 (by simp))
  have hg2 := gr_trans hg0 hg1
  have hlt1 : w.heap.size + 1 < w1.heap.size := q0.out.lt
  have hlw1 : w.heap.size < w1.heap.size := by omega
  have hlw2 : w.heap.size < w1.heap.size + 1 := by omega
  clear hW hg0
  go_wp2_with fail
  obtain ⟨Wb, hWb⟩ : ∃ Wb, Wb = w1.alloc (.cells #[.slice none 0 0, .slice B' fs.length d'] 29) := ⟨_, rfl⟩
  have hgb : w1.grownBy Wb none := by rw [hWb]; exact gr_alloc (World.grownBy.refl _ _) _
  have m0 : Cell Wb w1.heap.size 0 (.slice none 0 0) := by rw [hWb]; exact Cell.new w1 [.slice none 0 0, .slice B' fs.length d'] 29 0 _ rfl _ rfl
  have m1 : Cell Wb w1.heap.size 1 (.slice B' fs.length d') := by rw [hWb]; exact Cell.new w1 [.slice none 0 0, .slice B' fs.length d'] 29 1 _ rfl _ rfl
  have hWbs : Wb.heap.size = w1.heap.size + 1 := by rw [hWb]; simp
  rw [← hWb]
  clear hWb
  have hg3 := gr_trans hg2 hgb
  replace q0 := hide (q0.out.gr hgb (by simp))
  replace q1 := hide (q1.out.gr hgb (by simp))
  have hBlt := hide (fun g e => (hB.blk_lt (g := g) e))
  replace hB := hB.pure hgb
  have hlw := hg2.size
  go_loopw [16] (fun i wr => ∃ (k : Nat) (Aq : Option Addr) (cq : Nat), k ≤ vs.length ∧ i = .int .i64 k ∧ Own wr Wb.heap.size 49 Aq cq ((vs.take k).map t) ∧ Cell wr w1.heap.size 0 (.slice Aq k cq) ∧ Cell wr w1.heap.size 1 (.slice B' fs.length d') ∧ Wb.grownBy wr (some w1.heap.size)) (fun i _ => vs.length - (intOf i).toNat)
  case atStart => exact ⟨0, none, 0, by omega, rfl, Own.nil _ _ _, m0, m1, World.grownBy.refl _ _⟩
  case round =>
    obtain ⟨n1, Aq, cq, hk, rfl, hown, c0, c1, hg⟩ := hrel
    clear m0 m1
    by_cases hlt : n1 < vs.length
    · have hgw : w.grownBy wr none := gr_row hg3 hg (fun g e => by injection e; omega)
      obtain ⟨g, o, rfl, -, hbg, hcc⟩ := (hl.pure hgw).v3 (by omega)
      obtain ⟨v0, v1, v2⟩ := hcc n1 hlt
      clear hcc
      have hcl1 := fun wx hx => hcl.out vs[n1] (List.getElem_mem hlt) wx hx
      have hls : (vs.take (n1 + 1)).map t = (vs.take n1).map t ++ [t vs[n1]] := by rw [take_snoc hlt, List.map_append]; rfl
      have hq1 : ((vs.take n1).map t).length = n1 := by rw [List.length_map, List.length_take]; omega
      have hn1 : n1 ≤ 1000 := by omega
      generalize vs[n1] = vq at *
      generalize t vq = uq at *
      replace hls := hide hls
      generalize (vs.take n1).map t = lq at *
      have hclo := hide hcl1
      clear hcl1
      replace c0 := hide c0
      replace c1 := hide c1
      replace hq1 := hide hq1
      go_upto_region 5 with fail
      have hal := gr_alloc (r := none) (World.grownBy.refl wr none) (.cells #[.int .i64 vq.x, .int .i64 vq.y, .int .i64 vq.z] 49)
      have hV : VAt (wr.alloc (.cells #[.int .i64 vq.x, .int .i64 vq.y, .int .i64 vq.z] 49)) wr.heap.size vq := ⟨Cell.new wr [.int .i64 vq.x, .int .i64 vq.y, .int .i64 vq.z] 49 0 _ rfl _ rfl, Cell.new wr [.int .i64 vq.x, .int .i64 vq.y, .int .i64 vq.z] 49 1 _ rfl _ rfl, Cell.new wr [.int .i64 vq.x, .int .i64 vq.y, .int .i64 vq.z] 49 2 _ rfl _ rfl⟩
      have hqA0 : ∀ g, blk Aq = some g → g < wr.heap.size := fun g e => (hown.blk_lt e).2
      have hlo2 : wr.heap.size + 1 ≤ (wr.alloc (.cells #[.int .i64 vq.x, .int .i64 vq.y, .int .i64 vq.z] 49)).heap.size := by simp
      have hszb := hg.size
      replace hown := hown.pure hal
      replace c0 := c0.out.gr hal (by simp)
      replace c1 := c1.out.gr hal (by simp)
      replace hg := gr_step hg hal
      replace hgw := gr_trans hgw hal
      generalize (wr.alloc (.cells #[.int .i64 vq.x, .int .i64 vq.y, .int .i64 vq.z] 49)) = wv at *
      clear hal v0 v1 v2 hbg
      generalize hgv : wr.heap.size = gv at *
      generalize hgm : w1.heap.size = gm at *
      obtain ⟨lo, hlo⟩ : ∃ lo, lo = Wb.heap.size := ⟨_, rfl⟩
      obtain ⟨lo2, hlo2e⟩ : ∃ lo2, lo2 = gv + 1 := ⟨_, rfl⟩
      obtain ⟨bv, hbv⟩ : ∃ bv, bv = Value.slice B' fs.length d' := ⟨_, rfl⟩
      have hq : MpOk gm gv lo lo2 Aq w Wb := ⟨by omega, by omega, by omega, by omega, by omega, by omega, fun g e => by have := hqA0 g e; omega⟩
      have hqA : ∀ g, blk Aq = some g → g < lo2 := fun g e => by have := hqA0 g e; omega
      have hgml : gm < lo := by omega
      have hgml2 : gm < lo2 := by omega
      have hlll : lo ≤ wv.heap.size := by omega
      have hlll2 : lo ≤ lo2 := by omega
      have hI0 : ∀ m : Nat → Bool, m 8 = false → MpI gm gv lo lo2 n1 cq Aq lq vq uq bv w Wb m 0 wv.drew := fun m hm => by
        have hd := gr_drew (World.grownBy.refl wv none)
        exact ⟨gr_trans hgw hd, by show lo2 ≤ wv.heap.size; omega, hV.gr hd (by simp), fun _ => by rw [hlo]; exact hown.pure hd, fun _ => c0.gr hd (by simp), by rw [hbv]; exact c1.gr hd (by simp), gr_step hg hd, fun h => by rw [hm] at h; cases h⟩
      replace hI0 := hide hI0
      replace hq := hide hq
      replace hqA := hide hqA
      replace hq1 := hq1.out
      clear hown c0 c1 hg hV hqA0 hgw
      replace hq := hq.out
      replace hqA := hqA.out
      replace hlo := hide hlo
      replace hlo2e := hide hlo2e
      replace hbv := hide hbv
      replace hgv := hide hgv
      replace hgm := hide hgm
      refine wp_region_minvF (MpI gm gv lo lo2 n1 cq Aq lq vq uq bv w Wb) (fun m => Wrt (fun g => g = gm ∨ (m 6 = false ∧ lo ≤ g ∧ g < lo2))) [VIs (.pointer (some ⟨gm, 0, none⟩)), VIs (.slice Aq n1 cq), VIs (.func (.func 72) #[] #[.pointer (some ⟨gq, 0, none⟩)]), VIs (.agg #[.int .i64 vq.x, .int .i64 vq.y, .int .i64 vq.z]), VIs (.agg #[.int .i64 uq.x, .int .i64 uq.y, .int .i64 uq.z]), VOne lo2 uq, VMp lo n1 lq uq, VIs (.pointer (some ⟨gm, 0, none⟩)), (fun _ _ => True)] [0, 0, 0, 0, 0, 0, 0, 0, 0] (by kernel_rfl) (by kernel_rfl) (by intro vs; simp only [putAll, Act.put, List.setIfInBounds_toArray, List.set_cons_zero, List.set_cons_succ, Nat.reduceAdd]; exact rfl) ?iv0 ?iv1 rfl ?iv2 ?iv3
      case iv1 => exact Stab.ok ⟨fun m v w w' _ _ h => h, fun m v w w' _ _ h => h, fun m v w w' _ _ h => h, fun m v w w' _ _ h => h, fun m v w w' _ _ h => h, fun m v w w' _ hw h => h.stab hw (fun g h => by rcases h with h | ⟨_, h1, h2⟩ <;> omega), fun m v w w' hm hw h => h.stab hw (fun g h => by rcases h with h | ⟨h, _⟩ <;> first | omega | (rw [show m 6 = true from hm] at h; cases h)), fun m v w w' _ _ h => h, fun m v w w' _ _ h => h, trivial⟩
      case iv2 =>
        refine MOpsF.op (fun vs wx m k hmj hcl hI hk hf K hK => ?_) ?_
        · clear hf hcl
          replace hK := hide hK
          replace hI := hide hI
          go_wp2_with fail
          replace hK := hK.out (.pointer (some ⟨gm, 0, none⟩))
          simp only [Act.put, List.setIfInBounds_toArray, List.set_cons_zero, List.set_cons_succ, Nat.add_zero] at hK
          exact hK _ ((hI.out.same (by decide) (by decide))) (Wrt.pure (World.grownBy.refl _ _)) (rfl)
        refine MOpsF.op (fun vs wx m k hmj hcl hI hk hf K hK => ?_) ?_
        · have e0 : vs 0 = .pointer (some ⟨gm, 0, none⟩) := hf 0 (by decide) (by kernel_rfl)
          clear hf
          have h8 : m 8 = false := by
            cases hq : m 8 with
            | false => rfl
            | true => exact absurd (hcl 8 1 (by decide) (by decide) hq (by kernel_rfl)) (by rw [show m 1 = false from hmj]; simp)
          have c := (hI.2.2.2.2.1 h8).1
          clear hcl h8
          replace hK := hide hK
          replace hI := hide hI
          rw [e0]
          replace e0 := hide e0
          go_wp2_with fail
          replace hK := hK.out (.slice Aq n1 cq)
          simp only [Act.put, List.setIfInBounds_toArray, List.set_cons_zero, List.set_cons_succ, e0.out, Nat.add_zero] at hK
          exact hK _ ((hI.out.same (by decide) (by decide))) (Wrt.pure (World.grownBy.refl _ _)) (rfl)
        refine MOpsF.op (fun vs wx m k hmj hcl hI hk hf K hK => ?_) ?_
        · clear hf hcl
          replace hK := hide hK
          replace hI := hide hI
          go_wp2_with fail
          replace hK := hK.out (.func (.func 72) #[] #[.pointer (some ⟨gq, 0, none⟩)])
          simp only [Act.put, List.setIfInBounds_toArray, List.set_cons_zero, List.set_cons_succ, Nat.add_zero] at hK
          exact hK _ ((hI.out.same (by decide) (by decide))) (Wrt.pure (World.grownBy.refl _ _)) (rfl)
        refine MOpsF.op (fun vs wx m k hmj hcl hI hk hf K hK => ?_) ?_
        · clear hf hcl
          have hVV := hI.2.2.1
          obtain ⟨⟨z0, -⟩, ⟨z1, -⟩, ⟨z2, -⟩⟩ := hVV
          replace hK := hide hK
          replace hI := hide hI
          go_wp2_with fail
          replace hK := hK.out (.agg #[.int .i64 vq.x, .int .i64 vq.y, .int .i64 vq.z])
          simp only [Act.put, List.setIfInBounds_toArray, List.set_cons_zero, List.set_cons_succ, Nat.add_zero] at hK
          exact hK _ ((hI.out.same (by decide) (by decide))) (Wrt.pure (World.grownBy.refl _ _)) (rfl)
        refine MOpsF.op (fun vs wx m k hmj hcl hI hk hf K hK => ?_) ?_
        · have e2 : vs 2 = .func (.func 72) #[] #[.pointer (some ⟨gq, 0, none⟩)] := hf 2 (by decide) (by kernel_rfl)
          have e3 : vs 3 = .agg #[.int .i64 vq.x, .int .i64 vq.y, .int .i64 vq.z] := hf 3 (by decide) (by kernel_rfl)
          clear hf hcl
          have hCL := hide (hclo.out wx hI.1)
          replace hK := hide hK
          replace hI := hide hI
          rw [e2, e3]
          replace e2 := hide e2
          replace e3 := hide e3
          go_wp2_with fail
          go_at_call 72
          refine hCL.out.mono ?_
          rintro e wy ⟨rfl, hgy⟩
          go_wp2_with fail
          replace hK := hK.out (.agg #[.int .i64 uq.x, .int .i64 uq.y, .int .i64 uq.z])
          simp only [Act.put, List.setIfInBounds_toArray, List.set_cons_zero, List.set_cons_succ, e2.out, e3.out, Nat.add_zero] at hK
          exact hK _ (((hI.out.same (by decide) (by decide)).pure hgy)) (Wrt.pure hgy) (rfl)
        refine MOpsF.op (fun vs wx m k hmj hcl hI hk hf K hK => ?_) ?_
        · have e4 : vs 4 = .agg #[.int .i64 uq.x, .int .i64 uq.y, .int .i64 uq.z] := hf 4 (by decide) (by kernel_rfl)
          clear hf hcl
          replace hK := hide hK
          replace hI := hide hI
          rw [e4]
          replace e4 := hide e4
          go_wp2_with fail
          replace hK := hK.out (.slice (some ⟨wx.heap.size, 0, none⟩) 1 1)
          simp only [Act.put, List.setIfInBounds_toArray, List.set_cons_zero, List.set_cons_succ, e4.out, Nat.add_zero] at hK
          exact hK _ (((hI.out.same (by decide) (by decide)).pure (gr_alloc (World.grownBy.refl _ _) _))) (Wrt.pure (gr_alloc (World.grownBy.refl _ _) _)) (⟨wx.heap.size, rfl, sl_oneAt _ _ _ _ _ _ rfl hI.out.2.1 rfl⟩)
        refine MOpsF.op (fun vs wx m k hmj hcl hI hk hf K hK => ?_) ?_
        · have e1 : vs 1 = .slice Aq n1 cq := hf 1 (by decide) (by kernel_rfl)
          obtain ⟨g5, e5, hsl⟩ := hf 5 (by decide) (by kernel_rfl)
          clear hf
          have h8 : m 8 = false := by
            cases hq : m 8 with
            | false => rfl
            | true => exact absurd (hcl 8 6 (by decide) (by decide) hq (by kernel_rfl)) (by rw [show m 6 = false from hmj]; simp)
          have hown := hI.2.2.2.1 hmj
          obtain ⟨i0, hi, hz, h1, h2⟩ := info_parts info_v3
          replace hK := hide hK
          replace hI := hide hI
          rw [e1, e5]
          replace e1 := hide e1
          replace e5 := hide e5
          refine wp_pushAt (α := V3) _ (.tmp 21) (.tmp 25) _ rfl lo 49 i0 _ 24 Try.underlying26 hi hz h1 h2 rfl _ _ _ lq rfl ?_ hown lo2 ⟨g5, 0, none⟩ 1 1 [uq] rfl ?_ hsl ?_ ?_ ?_ ?_
          · exact hq1.symm
          · rfl
          · simp; omega
          · simp [maxLen]; omega
          · have := hI.out.2.1; omega
          intro A5 c5 w5 hown5 hG5
          simp only [Act.put, List.setIfInBounds_toArray, List.set_cons_zero, List.set_cons_succ]
          replace hK := hK.out (.slice A5 (lq ++ [uq]).length c5)
          simp only [Act.put, List.setIfInBounds_toArray, List.set_cons_zero, List.set_cons_succ, e1.out, e5.out, Nat.add_zero] at hK
          exact hK _ ((hI.out.app hq (show m 6 = false from hmj) h8 hG5 hown)) (⟨_, hG5.1, fun g e => .inr ⟨hmj, (hown.blk_lt e).1, hqA g e⟩⟩) (⟨A5, c5, by rw [List.length_append, hq1]; rfl, hown5⟩)
        refine MOpsF.op (fun vs wx m k hmj hcl hI hk hf K hK => ?_) ?_
        · clear hf hcl
          replace hK := hide hK
          replace hI := hide hI
          go_wp2_with fail
          replace hK := hK.out (.pointer (some ⟨gm, 0, none⟩))
          simp only [Act.put, List.setIfInBounds_toArray, List.set_cons_zero, List.set_cons_succ, Nat.add_zero] at hK
          exact hK _ ((hI.out.same (by decide) (by decide))) (Wrt.pure (World.grownBy.refl _ _)) (rfl)
        refine MOpsF.op (fun vs wx m k hmj hcl hI hk hf K hK => ?_) ?_
        · have e7 : vs 7 = .pointer (some ⟨gm, 0, none⟩) := hf 7 (by decide) (by kernel_rfl)
          obtain ⟨A6, c6, e6, ho6⟩ := hf 6 (by decide) (by kernel_rfl)
          clear hf hcl
          have c := hI.2.2.2.2.1 hmj
          obtain ⟨c, fz⟩ := c
          have hgs := gr_set (World.grownBy.refl wx (some gm)) (p := ⟨gm, 0, none⟩) (.inl rfl) (.slice A6 (n1 + 1) c6)
          replace hgs := hide hgs
          replace ho6 := hide ho6
          replace hK := hide hK
          replace hI := hide hI
          rw [e7, e6]
          replace e7 := hide e7
          replace e6 := hide e6
          go_wp2_with fail
          replace hK := hK.out (undef)
          simp only [Act.put, List.setIfInBounds_toArray, List.set_cons_zero, List.set_cons_succ, e7.out, e6.out, Nat.add_zero] at hK
          exact hK _ ((hI.out.fin hq ⟨c, fz⟩ ho6.out)) (Wrt.one hgs.out (.inl rfl)) (trivial)
        exact MOpsF.done
      case iv0 => exact fun m hm => hI0.out m (hm 8 (by decide))
      case iv3 =>
        intro vs' w9 m hm' hI hf
        have h8 := hm' 8 (by decide)
        obtain ⟨-, -, -, -, -, k6, k7, k8⟩ := hI
        obtain ⟨A2, c2, k0, kO⟩ := k8 h8
        clear hf hm' h8 hI0 hq hqA k8
        rw [hlo.out] at kO
        rw [hbv.out] at k6
        obtain rfl := hgm.out
        obtain rfl := hgv.out
        go_wp2_with fail
        (go_roundw; (case rel => exact ⟨n1 + 1, A2, c2, by omega, by go_num, by rw [hls.out]; exact kO, k0, k6, k7⟩); (case measure => simp [intOf]; omega))
    · have hkn : n1 = vs.length := by omega
      subst hkn
      rw [List.take_length] at hown
      have hgw : w.grownBy wr none := gr_row hg3 hg (fun g e => by injection e; omega)
      have hB2 := hB.ne hg (fun g e1 e2 => by have := hBlt.out g e1; injection e2; omega)
      obtain ⟨x0, y0⟩ := q0.out.gr hg (fun e => by injection e; omega)
      obtain ⟨x1, y1⟩ := q1.out.gr hg (fun e => by injection e; omega)
      obtain ⟨c0, -⟩ := c0
      obtain ⟨c1, -⟩ := c1
      have hltb : w1.heap.size < wr.heap.size := cell_lt c0
      clear hg hcl
      have hlm : (vs.map t).length = vs.length := List.length_map _
      have hR := right_any Aq cq (vs.map t) B' d' fs wr W.heap.size (hown.sl.mono (show W.heap.size ≤ _ by have := hWs.out; omega)) hB2.sl
      rw [hlm] at hR
      replace hR := hide hR
      have hX0 := hide (show Cell wr (w.heap.size + 1) 0 (.slice none 0 0) from ⟨x0, y0⟩)
      have hX1 := hide (show Cell wr (w.heap.size + 1) 1 (.slice none 0 0) from ⟨x1, y1⟩)
      clear x0 y0 x1 y1
      go_wp2_with fail
      refine hR.out.mono ?_
      rintro e w9 ⟨A9, c9, B9, d9, rfl, s1, s2, g9⟩
      obtain ⟨x0, y0⟩ := hX0.out.gr g9 (by simp)
      obtain ⟨x1, y1⟩ := hX1.out.gr g9 (by simp)
      clear hR
      go_wp2_with fail
      have hk := fun (v1 v2 : Value) => gr_set (gr_set (gr_trans hgw g9) (p := ⟨w.heap.size + 1, 0, none⟩) (.inr (Nat.le_succ _)) v1) (p := ⟨w.heap.size + 1, 1, none⟩) (.inr (Nat.le_succ _)) v2
      have hgs := fun (v1 v2 : Value) => gr_set (gr_set (World.grownBy.refl w9 (some (w.heap.size + 1))) (p := ⟨w.heap.size + 1, 0, none⟩) (.inl rfl) v1) (p := ⟨w.heap.size + 1, 1, none⟩) (.inl rfl) v2
      refine bodyPost_ret (v := .tuple #[.agg #[.slice A9 (okM ⟨vs.map t, fs⟩).vs.length c9, .slice B9 (okM ⟨vs.map t, fs⟩).fs.length d9], .int .i64 (meshF ⟨vs.map t, fs⟩)]) (by simp [results, Try.results70, go_sem, x0, x1, y0, y1]) rfl ⟨A9, c9, B9, d9, rfl, ?_, ?_, hk _ _⟩
      · exact (s1.gr (hgs _ _) (fun g e => by injection e; have := hWs.out; omega)).mono (by have := hWs.out; omega)
      · exact (s2.gr (hgs _ _) (fun g e => by injection e; have := hWs.out; omega)).mono (by have := hWs.out; omega)

set_option maxHeartbeats 4000000 in
set_option maxRecDepth 100000 in
theorem madeMir_any (t : V3 → V3) (gq : Nat) (A : Option Addr) (c : Nat) (vs : List V3) (B : Option Addr) (d : Nat) (fs : List Fc) (w : World) (hl : Sl w 0 A vs) (hfs : Sl w 0 B fs) (hvl : vs.length ≤ 1000) (hfl : fs.length ≤ 1000)
    (hcl : Hid (∀ v ∈ vs, ∀ wx, w.grownBy wx none → Calls Try.prog 74 #[.agg #[.int .i64 v.x, .int .i64 v.y, .int .i64 v.z], .pointer (some ⟨gq, 0, none⟩)] wx fun e w' => e = .returned (.agg #[.int .i64 (t v).x, .int .i64 (t v).y, .int .i64 (t v).z]) ∧ wx.grownBy w' none)) :
    Calls Try.prog 70 #[.agg #[.slice A vs.length c, .slice B fs.length d], .func (.func 74) #[] #[.pointer (some ⟨gq, 0, none⟩)]] w (SMeshE w.heap.size (okM ⟨vs.map t, fs⟩) (meshF ⟨vs.map t, fs⟩) w) := by
  have hm := hl.1
  unfold maxLen at hm
  obtain ⟨W, hW⟩ : ∃ W, W = (w.alloc (.cells #[.slice A vs.length c, .slice B fs.length d] 29)).alloc (.cells #[.slice none 0 0, .slice none 0 0] 29) := ⟨_, rfl⟩
  have hlt0 : w.heap.size < w.heap.size + 1 := Nat.lt_succ_self _
  have hWs : W.heap.size = w.heap.size + 1 + 1 := by rw [hW]; simp
  have hg0 : w.grownBy W none := by rw [hW]; exact (by repeat (first | exact World.grownBy.refl _ _ | assumption | refine gr_alloc ?_ _ | (apply gr_tail; assumption) | refine gr_drewN ?_ _ | refine gr_drew ?_))
  have b0 : W.cell? ⟨w.heap.size, 0, none⟩ = some (.slice A vs.length c) := by rw [hW]; go_simp
  have b1 : W.cell? ⟨w.heap.size, 1, none⟩ = some (.slice B fs.length d) := by rw [hW]; go_simp
  have q0 : Cell W (w.heap.size + 1) 0 (.slice none 0 0) := by rw [hW]; exact ⟨by go_simp, by go_simp⟩
  have q1 : Cell W (w.heap.size + 1) 1 (.slice none 0 0) := by rw [hW]; exact ⟨by go_simp, by go_simp⟩
  replace hW := hide hW.symm
  replace hWs := hide hWs
  go_enter Try.func70, Try.ntmps70
  go_wp2_with fail
  rw [hW.out]
  refine (cloneFc_any B d fs W (hfs.pure hg0) (by omega)).mono ?_
  rintro e w1 ⟨B', d', rfl, hB, hg1⟩
  replace b0 := hg1.k b0
  replace q0 := hide (q0.gr hg1 (by simp))
  replace q1 := hide (q1.gr hg1 (by simp))
  have hg2 := gr_trans hg0 hg1
  have hlt1 : w.heap.size + 1 < w1.heap.size := q0.out.lt
  have hlw1 : w.heap.size < w1.heap.size := by omega
  have hlw2 : w.heap.size < w1.heap.size + 1 := by omega
  clear hW hg0
  go_wp2_with fail
  obtain ⟨Wb, hWb⟩ : ∃ Wb, Wb = w1.alloc (.cells #[.slice none 0 0, .slice B' fs.length d'] 29) := ⟨_, rfl⟩
  have hgb : w1.grownBy Wb none := by rw [hWb]; exact gr_alloc (World.grownBy.refl _ _) _
  have m0 : Cell Wb w1.heap.size 0 (.slice none 0 0) := by rw [hWb]; exact Cell.new w1 [.slice none 0 0, .slice B' fs.length d'] 29 0 _ rfl _ rfl
  have m1 : Cell Wb w1.heap.size 1 (.slice B' fs.length d') := by rw [hWb]; exact Cell.new w1 [.slice none 0 0, .slice B' fs.length d'] 29 1 _ rfl _ rfl
  have hWbs : Wb.heap.size = w1.heap.size + 1 := by rw [hWb]; simp
  rw [← hWb]
  clear hWb
  have hg3 := gr_trans hg2 hgb
  replace q0 := hide (q0.out.gr hgb (by simp))
  replace q1 := hide (q1.out.gr hgb (by simp))
  have hBlt := hide (fun g e => (hB.blk_lt (g := g) e))
  replace hB := hB.pure hgb
  have hlw := hg2.size
  go_loopw [16] (fun i wr => ∃ (k : Nat) (Aq : Option Addr) (cq : Nat), k ≤ vs.length ∧ i = .int .i64 k ∧ Own wr Wb.heap.size 49 Aq cq ((vs.take k).map t) ∧ Cell wr w1.heap.size 0 (.slice Aq k cq) ∧ Cell wr w1.heap.size 1 (.slice B' fs.length d') ∧ Wb.grownBy wr (some w1.heap.size)) (fun i _ => vs.length - (intOf i).toNat)
  case atStart => exact ⟨0, none, 0, by omega, rfl, Own.nil _ _ _, m0, m1, World.grownBy.refl _ _⟩
  case round =>
    obtain ⟨n1, Aq, cq, hk, rfl, hown, c0, c1, hg⟩ := hrel
    clear m0 m1
    by_cases hlt : n1 < vs.length
    · have hgw : w.grownBy wr none := gr_row hg3 hg (fun g e => by injection e; omega)
      obtain ⟨g, o, rfl, -, hbg, hcc⟩ := (hl.pure hgw).v3 (by omega)
      obtain ⟨v0, v1, v2⟩ := hcc n1 hlt
      clear hcc
      have hcl1 := fun wx hx => hcl.out vs[n1] (List.getElem_mem hlt) wx hx
      have hls : (vs.take (n1 + 1)).map t = (vs.take n1).map t ++ [t vs[n1]] := by rw [take_snoc hlt, List.map_append]; rfl
      have hq1 : ((vs.take n1).map t).length = n1 := by rw [List.length_map, List.length_take]; omega
      have hn1 : n1 ≤ 1000 := by omega
      generalize vs[n1] = vq at *
      generalize t vq = uq at *
      replace hls := hide hls
      generalize (vs.take n1).map t = lq at *
      have hclo := hide hcl1
      clear hcl1
      replace c0 := hide c0
      replace c1 := hide c1
      replace hq1 := hide hq1
      go_upto_region 5 with fail
      have hal := gr_alloc (r := none) (World.grownBy.refl wr none) (.cells #[.int .i64 vq.x, .int .i64 vq.y, .int .i64 vq.z] 49)
      have hV : VAt (wr.alloc (.cells #[.int .i64 vq.x, .int .i64 vq.y, .int .i64 vq.z] 49)) wr.heap.size vq := ⟨Cell.new wr [.int .i64 vq.x, .int .i64 vq.y, .int .i64 vq.z] 49 0 _ rfl _ rfl, Cell.new wr [.int .i64 vq.x, .int .i64 vq.y, .int .i64 vq.z] 49 1 _ rfl _ rfl, Cell.new wr [.int .i64 vq.x, .int .i64 vq.y, .int .i64 vq.z] 49 2 _ rfl _ rfl⟩
      have hqA0 : ∀ g, blk Aq = some g → g < wr.heap.size := fun g e => (hown.blk_lt e).2
      have hlo2 : wr.heap.size + 1 ≤ (wr.alloc (.cells #[.int .i64 vq.x, .int .i64 vq.y, .int .i64 vq.z] 49)).heap.size := by simp
      have hszb := hg.size
      replace hown := hown.pure hal
      replace c0 := c0.out.gr hal (by simp)
      replace c1 := c1.out.gr hal (by simp)
      replace hg := gr_step hg hal
      replace hgw := gr_trans hgw hal
      generalize (wr.alloc (.cells #[.int .i64 vq.x, .int .i64 vq.y, .int .i64 vq.z] 49)) = wv at *
      clear hal v0 v1 v2 hbg
      generalize hgv : wr.heap.size = gv at *
      generalize hgm : w1.heap.size = gm at *
      obtain ⟨lo, hlo⟩ : ∃ lo, lo = Wb.heap.size := ⟨_, rfl⟩
      obtain ⟨lo2, hlo2e⟩ : ∃ lo2, lo2 = gv + 1 := ⟨_, rfl⟩
      obtain ⟨bv, hbv⟩ : ∃ bv, bv = Value.slice B' fs.length d' := ⟨_, rfl⟩
      have hq : MpOk gm gv lo lo2 Aq w Wb := ⟨by omega, by omega, by omega, by omega, by omega, by omega, fun g e => by have := hqA0 g e; omega⟩
      have hqA : ∀ g, blk Aq = some g → g < lo2 := fun g e => by have := hqA0 g e; omega
      have hgml : gm < lo := by omega
      have hgml2 : gm < lo2 := by omega
      have hlll : lo ≤ wv.heap.size := by omega
      have hlll2 : lo ≤ lo2 := by omega
      have hI0 : ∀ m : Nat → Bool, m 8 = false → MpI gm gv lo lo2 n1 cq Aq lq vq uq bv w Wb m 0 wv.drew := fun m hm => by
        have hd := gr_drew (World.grownBy.refl wv none)
        exact ⟨gr_trans hgw hd, by show lo2 ≤ wv.heap.size; omega, hV.gr hd (by simp), fun _ => by rw [hlo]; exact hown.pure hd, fun _ => c0.gr hd (by simp), by rw [hbv]; exact c1.gr hd (by simp), gr_step hg hd, fun h => by rw [hm] at h; cases h⟩
      replace hI0 := hide hI0
      replace hq := hide hq
      replace hqA := hide hqA
      replace hq1 := hq1.out
      clear hown c0 c1 hg hV hqA0 hgw
      replace hq := hq.out
      replace hqA := hqA.out
      replace hlo := hide hlo
      replace hlo2e := hide hlo2e
      replace hbv := hide hbv
      replace hgv := hide hgv
      replace hgm := hide hgm
      refine wp_region_minvF (MpI gm gv lo lo2 n1 cq Aq lq vq uq bv w Wb) (fun m => Wrt (fun g => g = gm ∨ (m 6 = false ∧ lo ≤ g ∧ g < lo2))) [VIs (.pointer (some ⟨gm, 0, none⟩)), VIs (.slice Aq n1 cq), VIs (.func (.func 74) #[] #[.pointer (some ⟨gq, 0, none⟩)]), VIs (.agg #[.int .i64 vq.x, .int .i64 vq.y, .int .i64 vq.z]), VIs (.agg #[.int .i64 uq.x, .int .i64 uq.y, .int .i64 uq.z]), VOne lo2 uq, VMp lo n1 lq uq, VIs (.pointer (some ⟨gm, 0, none⟩)), (fun _ _ => True)] [0, 0, 0, 0, 0, 0, 0, 0, 0] (by kernel_rfl) (by kernel_rfl) (by intro vs; simp only [putAll, Act.put, List.setIfInBounds_toArray, List.set_cons_zero, List.set_cons_succ, Nat.reduceAdd]; exact rfl) ?iv0 ?iv1 rfl ?iv2 ?iv3
      case iv1 => exact Stab.ok ⟨fun m v w w' _ _ h => h, fun m v w w' _ _ h => h, fun m v w w' _ _ h => h, fun m v w w' _ _ h => h, fun m v w w' _ _ h => h, fun m v w w' _ hw h => h.stab hw (fun g h => by rcases h with h | ⟨_, h1, h2⟩ <;> omega), fun m v w w' hm hw h => h.stab hw (fun g h => by rcases h with h | ⟨h, _⟩ <;> first | omega | (rw [show m 6 = true from hm] at h; cases h)), fun m v w w' _ _ h => h, fun m v w w' _ _ h => h, trivial⟩
      case iv2 =>
        refine MOpsF.op (fun vs wx m k hmj hcl hI hk hf K hK => ?_) ?_
        · clear hf hcl
          replace hK := hide hK
          replace hI := hide hI
          go_wp2_with fail
          replace hK := hK.out (.pointer (some ⟨gm, 0, none⟩))
          simp only [Act.put, List.setIfInBounds_toArray, List.set_cons_zero, List.set_cons_succ, Nat.add_zero] at hK
          exact hK _ ((hI.out.same (by decide) (by decide))) (Wrt.pure (World.grownBy.refl _ _)) (rfl)
        refine MOpsF.op (fun vs wx m k hmj hcl hI hk hf K hK => ?_) ?_
        · have e0 : vs 0 = .pointer (some ⟨gm, 0, none⟩) := hf 0 (by decide) (by kernel_rfl)
          clear hf
          have h8 : m 8 = false := by
            cases hq : m 8 with
            | false => rfl
            | true => exact absurd (hcl 8 1 (by decide) (by decide) hq (by kernel_rfl)) (by rw [show m 1 = false from hmj]; simp)
          have c := (hI.2.2.2.2.1 h8).1
          clear hcl h8
          replace hK := hide hK
          replace hI := hide hI
          rw [e0]
          replace e0 := hide e0
          go_wp2_with fail
          replace hK := hK.out (.slice Aq n1 cq)
          simp only [Act.put, List.setIfInBounds_toArray, List.set_cons_zero, List.set_cons_succ, e0.out, Nat.add_zero] at hK
          exact hK _ ((hI.out.same (by decide) (by decide))) (Wrt.pure (World.grownBy.refl _ _)) (rfl)
        refine MOpsF.op (fun vs wx m k hmj hcl hI hk hf K hK => ?_) ?_
        · clear hf hcl
          replace hK := hide hK
          replace hI := hide hI
          go_wp2_with fail
          replace hK := hK.out (.func (.func 74) #[] #[.pointer (some ⟨gq, 0, none⟩)])
          simp only [Act.put, List.setIfInBounds_toArray, List.set_cons_zero, List.set_cons_succ, Nat.add_zero] at hK
          exact hK _ ((hI.out.same (by decide) (by decide))) (Wrt.pure (World.grownBy.refl _ _)) (rfl)
        refine MOpsF.op (fun vs wx m k hmj hcl hI hk hf K hK => ?_) ?_
        · clear hf hcl
          have hVV := hI.2.2.1
          obtain ⟨⟨z0, -⟩, ⟨z1, -⟩, ⟨z2, -⟩⟩ := hVV
          replace hK := hide hK
          replace hI := hide hI
          go_wp2_with fail
          replace hK := hK.out (.agg #[.int .i64 vq.x, .int .i64 vq.y, .int .i64 vq.z])
          simp only [Act.put, List.setIfInBounds_toArray, List.set_cons_zero, List.set_cons_succ, Nat.add_zero] at hK
          exact hK _ ((hI.out.same (by decide) (by decide))) (Wrt.pure (World.grownBy.refl _ _)) (rfl)
        refine MOpsF.op (fun vs wx m k hmj hcl hI hk hf K hK => ?_) ?_
        · have e2 : vs 2 = .func (.func 74) #[] #[.pointer (some ⟨gq, 0, none⟩)] := hf 2 (by decide) (by kernel_rfl)
          have e3 : vs 3 = .agg #[.int .i64 vq.x, .int .i64 vq.y, .int .i64 vq.z] := hf 3 (by decide) (by kernel_rfl)
          clear hf hcl
          have hCL := hide (hclo.out wx hI.1)
          replace hK := hide hK
          replace hI := hide hI
          rw [e2, e3]
          replace e2 := hide e2
          replace e3 := hide e3
          go_wp2_with fail
          go_at_call 74
          refine hCL.out.mono ?_
          rintro e wy ⟨rfl, hgy⟩
          go_wp2_with fail
          replace hK := hK.out (.agg #[.int .i64 uq.x, .int .i64 uq.y, .int .i64 uq.z])
          simp only [Act.put, List.setIfInBounds_toArray, List.set_cons_zero, List.set_cons_succ, e2.out, e3.out, Nat.add_zero] at hK
          exact hK _ (((hI.out.same (by decide) (by decide)).pure hgy)) (Wrt.pure hgy) (rfl)
        refine MOpsF.op (fun vs wx m k hmj hcl hI hk hf K hK => ?_) ?_
        · have e4 : vs 4 = .agg #[.int .i64 uq.x, .int .i64 uq.y, .int .i64 uq.z] := hf 4 (by decide) (by kernel_rfl)
          clear hf hcl
          replace hK := hide hK
          replace hI := hide hI
          rw [e4]
          replace e4 := hide e4
          go_wp2_with fail
          replace hK := hK.out (.slice (some ⟨wx.heap.size, 0, none⟩) 1 1)
          simp only [Act.put, List.setIfInBounds_toArray, List.set_cons_zero, List.set_cons_succ, e4.out, Nat.add_zero] at hK
          exact hK _ (((hI.out.same (by decide) (by decide)).pure (gr_alloc (World.grownBy.refl _ _) _))) (Wrt.pure (gr_alloc (World.grownBy.refl _ _) _)) (⟨wx.heap.size, rfl, sl_oneAt _ _ _ _ _ _ rfl hI.out.2.1 rfl⟩)
        refine MOpsF.op (fun vs wx m k hmj hcl hI hk hf K hK => ?_) ?_
        · have e1 : vs 1 = .slice Aq n1 cq := hf 1 (by decide) (by kernel_rfl)
          obtain ⟨g5, e5, hsl⟩ := hf 5 (by decide) (by kernel_rfl)
          clear hf
          have h8 : m 8 = false := by
            cases hq : m 8 with
            | false => rfl
            | true => exact absurd (hcl 8 6 (by decide) (by decide) hq (by kernel_rfl)) (by rw [show m 6 = false from hmj]; simp)
          have hown := hI.2.2.2.1 hmj
          obtain ⟨i0, hi, hz, h1, h2⟩ := info_parts info_v3
          replace hK := hide hK
          replace hI := hide hI
          rw [e1, e5]
          replace e1 := hide e1
          replace e5 := hide e5
          refine wp_pushAt (α := V3) _ (.tmp 21) (.tmp 25) _ rfl lo 49 i0 _ 24 Try.underlying26 hi hz h1 h2 rfl _ _ _ lq rfl ?_ hown lo2 ⟨g5, 0, none⟩ 1 1 [uq] rfl ?_ hsl ?_ ?_ ?_ ?_
          · exact hq1.symm
          · rfl
          · simp; omega
          · simp [maxLen]; omega
          · have := hI.out.2.1; omega
          intro A5 c5 w5 hown5 hG5
          simp only [Act.put, List.setIfInBounds_toArray, List.set_cons_zero, List.set_cons_succ]
          replace hK := hK.out (.slice A5 (lq ++ [uq]).length c5)
          simp only [Act.put, List.setIfInBounds_toArray, List.set_cons_zero, List.set_cons_succ, e1.out, e5.out, Nat.add_zero] at hK
          exact hK _ ((hI.out.app hq (show m 6 = false from hmj) h8 hG5 hown)) (⟨_, hG5.1, fun g e => .inr ⟨hmj, (hown.blk_lt e).1, hqA g e⟩⟩) (⟨A5, c5, by rw [List.length_append, hq1]; rfl, hown5⟩)
        refine MOpsF.op (fun vs wx m k hmj hcl hI hk hf K hK => ?_) ?_
        · clear hf hcl
          replace hK := hide hK
          replace hI := hide hI
          go_wp2_with fail
          replace hK := hK.out (.pointer (some ⟨gm, 0, none⟩))
          simp only [Act.put, List.setIfInBounds_toArray, List.set_cons_zero, List.set_cons_succ, Nat.add_zero] at hK
          exact hK _ ((hI.out.same (by decide) (by decide))) (Wrt.pure (World.grownBy.refl _ _)) (rfl)
        refine MOpsF.op (fun vs wx m k hmj hcl hI hk hf K hK => ?_) ?_
        · have e7 : vs 7 = .pointer (some ⟨gm, 0, none⟩) := hf 7 (by decide) (by kernel_rfl)
          obtain ⟨A6, c6, e6, ho6⟩ := hf 6 (by decide) (by kernel_rfl)
          clear hf hcl
          have c := hI.2.2.2.2.1 hmj
          obtain ⟨c, fz⟩ := c
          have hgs := gr_set (World.grownBy.refl wx (some gm)) (p := ⟨gm, 0, none⟩) (.inl rfl) (.slice A6 (n1 + 1) c6)
          replace hgs := hide hgs
          replace ho6 := hide ho6
          replace hK := hide hK
          replace hI := hide hI
          rw [e7, e6]
          replace e7 := hide e7
          replace e6 := hide e6
          go_wp2_with fail
          replace hK := hK.out (undef)
          simp only [Act.put, List.setIfInBounds_toArray, List.set_cons_zero, List.set_cons_succ, e7.out, e6.out, Nat.add_zero] at hK
          exact hK _ ((hI.out.fin hq ⟨c, fz⟩ ho6.out)) (Wrt.one hgs.out (.inl rfl)) (trivial)
        exact MOpsF.done
      case iv0 => exact fun m hm => hI0.out m (hm 8 (by decide))
      case iv3 =>
        intro vs' w9 m hm' hI hf
        have h8 := hm' 8 (by decide)
        obtain ⟨-, -, -, -, -, k6, k7, k8⟩ := hI
        obtain ⟨A2, c2, k0, kO⟩ := k8 h8
        clear hf hm' h8 hI0 hq hqA k8
        rw [hlo.out] at kO
        rw [hbv.out] at k6
        obtain rfl := hgm.out
        obtain rfl := hgv.out
        go_wp2_with fail
        (go_roundw; (case rel => exact ⟨n1 + 1, A2, c2, by omega, by go_num, by rw [hls.out]; exact kO, k0, k6, k7⟩); (case measure => simp [intOf]; omega))
    · have hkn : n1 = vs.length := by omega
      subst hkn
      rw [List.take_length] at hown
      have hgw : w.grownBy wr none := gr_row hg3 hg (fun g e => by injection e; omega)
      have hB2 := hB.ne hg (fun g e1 e2 => by have := hBlt.out g e1; injection e2; omega)
      obtain ⟨x0, y0⟩ := q0.out.gr hg (fun e => by injection e; omega)
      obtain ⟨x1, y1⟩ := q1.out.gr hg (fun e => by injection e; omega)
      obtain ⟨c0, -⟩ := c0
      obtain ⟨c1, -⟩ := c1
      have hltb : w1.heap.size < wr.heap.size := cell_lt c0
      clear hg hcl
      have hlm : (vs.map t).length = vs.length := List.length_map _
      have hR := right_any Aq cq (vs.map t) B' d' fs wr W.heap.size (hown.sl.mono (show W.heap.size ≤ _ by have := hWs.out; omega)) hB2.sl
      rw [hlm] at hR
      replace hR := hide hR
      have hX0 := hide (show Cell wr (w.heap.size + 1) 0 (.slice none 0 0) from ⟨x0, y0⟩)
      have hX1 := hide (show Cell wr (w.heap.size + 1) 1 (.slice none 0 0) from ⟨x1, y1⟩)
      clear x0 y0 x1 y1
      go_wp2_with fail
      refine hR.out.mono ?_
      rintro e w9 ⟨A9, c9, B9, d9, rfl, s1, s2, g9⟩
      obtain ⟨x0, y0⟩ := hX0.out.gr g9 (by simp)
      obtain ⟨x1, y1⟩ := hX1.out.gr g9 (by simp)
      clear hR
      go_wp2_with fail
      have hk := fun (v1 v2 : Value) => gr_set (gr_set (gr_trans hgw g9) (p := ⟨w.heap.size + 1, 0, none⟩) (.inr (Nat.le_succ _)) v1) (p := ⟨w.heap.size + 1, 1, none⟩) (.inr (Nat.le_succ _)) v2
      have hgs := fun (v1 v2 : Value) => gr_set (gr_set (World.grownBy.refl w9 (some (w.heap.size + 1))) (p := ⟨w.heap.size + 1, 0, none⟩) (.inl rfl) v1) (p := ⟨w.heap.size + 1, 1, none⟩) (.inl rfl) v2
      refine bodyPost_ret (v := .tuple #[.agg #[.slice A9 (okM ⟨vs.map t, fs⟩).vs.length c9, .slice B9 (okM ⟨vs.map t, fs⟩).fs.length d9], .int .i64 (meshF ⟨vs.map t, fs⟩)]) (by simp [results, Try.results70, go_sem, x0, x1, y0, y1]) rfl ⟨A9, c9, B9, d9, rfl, ?_, ?_, hk _ _⟩
      · exact (s1.gr (hgs _ _) (fun g e => by injection e; have := hWs.out; omega)).mono (by have := hWs.out; omega)
      · exact (s2.gr (hgs _ _) (fun g e => by injection e; have := hWs.out; omega)).mono (by have := hWs.out; omega)

end Go.Proofs.Ytjodjdjfagjiaaa

namespace Go.Proofs.Ytjodjdjfagjiaaa
open Go.RowKit Go.Bl

theorem right_bd {vs : List V3} {fs : List Fc} (h : meshF ⟨vs, fs⟩ = 0) : (∀ v ∈ vs, Bd 100000 v) ∧ vs.length ≤ 1000 ∧ fs.length ≤ 1000 ∧ fs ≠ [] ∧ vs ≠ [] := by
  by_cases h1 : fs = []
  · rw [meshF_none h1] at h; cases h
  by_cases h2 : 1000 < vs.length ∨ 1000 < fs.length
  · rw [meshF_large h1 h2] at h; cases h
  cases h3 : vs.any farV with
  | true => rw [meshF_far h1 h2 h3] at h; cases h
  | false =>
    by_cases h4 : facesF vs fs = 0
    · refine ⟨fun v hv => farV_no (by have := List.any_eq_false.1 h3 v hv; simpa using this), by omega, by omega, h1, ?_⟩
      rintro rfl
      obtain ⟨f, r, rfl⟩ := List.exists_cons_of_ne_nil h1
      have := faceF_in (facesF_mem h4 f (List.mem_cons_self ..))
      simp only [inF, inI, List.length_nil, Bool.and_eq_true, decide_eq_true_eq] at this
      omega
    · rw [meshF_face h1 h2 h3 h4] at h; exact absurd h h4

def turnR (m : MeshV) (axis q : Int) : MeshV × Int :=
  if meshF m = 0 then (if outB axis 0 2 = true then (⟨[], []⟩, 4) else if outB q 0 3 = true then (⟨[], []⟩, 1) else (okM ⟨m.vs.map (turnV axis q.toNat), m.fs⟩, meshF ⟨m.vs.map (turnV axis q.toNat), m.fs⟩)) else (⟨[], []⟩, meshF m)

set_option maxHeartbeats 1000000 in
set_option maxRecDepth 100000 in
theorem turned_any (A : Option Addr) (c : Nat) (vs : List V3) (B : Option Addr) (d : Nat) (fs : List Fc) (axis q : Int) (w : World) (hl : Sl w 0 A vs) (hfs : Sl w 0 B fs) :
    Calls Try.prog 19 #[.agg #[.slice A vs.length c, .slice B fs.length d], .int .i64 axis, .int .i64 q] w (SMeshE w.heap.size (turnR ⟨vs, fs⟩ axis q).1 (turnR ⟨vs, fs⟩ axis q).2 w) := by
  have hmf : ∀ (fn : Fn) (first cap : Array Value) (w : World), (Instr.makeFunc fn first cap).run Try.prog w = .ok (.func fn first cap) w := fun _ _ _ _ => rfl
  obtain ⟨W, hW⟩ : ∃ W, W = (((w.alloc (.cells #[.slice A vs.length c, .slice B fs.length d] 29)).alloc (.cells #[.int .i64 axis] 3)).alloc (.cells #[.int .i64 q] 3)).alloc (.cells #[.slice none 0 0, .slice none 0 0] 29) := ⟨_, rfl⟩
  have hlt0 : w.heap.size < w.heap.size + 1 := Nat.lt_succ_self _
  have hlt1 : w.heap.size < w.heap.size + 1 + 1 := by omega
  have hlt2 : w.heap.size < w.heap.size + 1 + 1 + 1 := by omega
  have hlt3 : w.heap.size + 1 < w.heap.size + 1 + 1 + 1 := by omega
  have hWs : W.heap.size = w.heap.size + 1 + 1 + 1 + 1 := by rw [hW]; simp
  have hg0 : w.grownBy W none := by rw [hW]; exact (by repeat (first | exact World.grownBy.refl _ _ | assumption | refine gr_alloc ?_ _ | (apply gr_tail; assumption) | refine gr_drewN ?_ _ | refine gr_drew ?_))
  have b0 : W.cell? ⟨w.heap.size, 0, none⟩ = some (.slice A vs.length c) := by rw [hW]; go_simp
  have b1 : W.cell? ⟨w.heap.size, 1, none⟩ = some (.slice B fs.length d) := by rw [hW]; go_simp
  have ba : W.cell? ⟨w.heap.size + 1, 0, none⟩ = some (.int .i64 axis) := by rw [hW]; go_simp
  have bq : W.cell? ⟨w.heap.size + 1 + 1, 0, none⟩ = some (.int .i64 q) := by rw [hW]; go_simp
  have q0 : Cell W (w.heap.size + 1 + 1 + 1) 0 (.slice none 0 0) := by rw [hW]; exact ⟨by go_simp, by go_simp⟩
  have q1 : Cell W (w.heap.size + 1 + 1 + 1) 1 (.slice none 0 0) := by rw [hW]; exact ⟨by go_simp, by go_simp⟩
  replace hW := hide hW.symm
  replace hWs := hide hWs
  have hlW := hl.pure hg0
  have hfW := hfs.pure hg0
  have hCM := checkMesh_any A c vs B d fs W hlW hfW
  by_cases hM : meshF ⟨vs, fs⟩ = 0
  · rw [hM] at hCM
    replace hCM := hide hCM
    cases hax : outB axis 0 2 with
    | true =>
      rw [show turnR ⟨vs, fs⟩ axis q = (⟨[], []⟩, 4) by unfold turnR; rw [if_pos hM, if_pos hax]]
      replace hax := hide hax
      clear hM
      go_enter Try.func19, Try.ntmps19
      go_wp2_with fail
      rw [hW.out]
      refine hCM.out.mono ?_
      rintro e w1 ⟨rfl, hg1⟩
      replace ba := hg1.k ba
      obtain ⟨x0, y0⟩ := q0.gr hg1 (by simp)
      obtain ⟨x1, y1⟩ := q1.gr hg1 (by simp)
      have hg2 := gr_trans hg0 hg1
      go_wp2_with fail
      refine (isAxis_any _ _).mono ?_
      rintro e w2 ⟨rfl, rfl⟩
      rw [hax.out]
      go_wp2_with fail
      have hk := fun (v1 v2 : Value) => gr_set (gr_set hg2 (p := ⟨w.heap.size + 1 + 1 + 1, 0, none⟩) (.inr (by simp only; omega)) v1) (p := ⟨w.heap.size + 1 + 1 + 1, 1, none⟩) (.inr (by simp only; omega)) v2
      exact bodyPost_ret (v := .tuple #[.agg #[.slice none 0 0, .slice none 0 0], .int .i64 (4)]) (by simp [results, Try.results19, go_sem, x0, x1, y0, y1]) rfl ⟨none, 0, none, 0, rfl, slNil _ _ _, slNil _ _ _, hk _ _⟩
    | false =>
      cases hqq : outB q 0 3 with
      | true =>
        rw [show turnR ⟨vs, fs⟩ axis q = (⟨[], []⟩, 1) by unfold turnR; rw [if_pos hM, if_neg (by rw [hax]; simp), if_pos hqq]]
        replace hax := hide hax
        replace hqq := hide hqq
        clear hM
        go_enter Try.func19, Try.ntmps19
        go_wp2_with fail
        rw [hW.out]
        refine hCM.out.mono ?_
        rintro e w1 ⟨rfl, hg1⟩
        replace ba := hg1.k ba
        replace bq := hg1.k bq
        obtain ⟨x0, y0⟩ := q0.gr hg1 (by simp)
        obtain ⟨x1, y1⟩ := q1.gr hg1 (by simp)
        have hg2 := gr_trans hg0 hg1
        go_wp2_with fail
        refine (isAxis_any _ _).mono ?_
        rintro e w2 ⟨rfl, rfl⟩
        rw [hax.out]
        go_wp2_with fail
        refine (outside_any _ _ _ _).mono ?_
        rintro e w2 ⟨rfl, rfl⟩
        rw [hqq.out]
        go_wp2_with fail
        have hk := fun (v1 v2 : Value) => gr_set (gr_set hg2 (p := ⟨w.heap.size + 1 + 1 + 1, 0, none⟩) (.inr (by simp only; omega)) v1) (p := ⟨w.heap.size + 1 + 1 + 1, 1, none⟩) (.inr (by simp only; omega)) v2
        exact bodyPost_ret (v := .tuple #[.agg #[.slice none 0 0, .slice none 0 0], .int .i64 (1)]) (by simp [results, Try.results19, go_sem, x0, x1, y0, y1]) rfl ⟨none, 0, none, 0, rfl, slNil _ _ _, slNil _ _ _, hk _ _⟩
      | false =>
        rw [show turnR ⟨vs, fs⟩ axis q = (okM ⟨vs.map (turnV axis q.toNat), fs⟩, meshF ⟨vs.map (turnV axis q.toNat), fs⟩) by unfold turnR; rw [if_pos hM, if_neg (by rw [hax]; simp), if_neg (by rw [hqq]; simp)]]
        obtain ⟨hbd, hvl, hfl, _, _⟩ := right_bd hM
        obtain ⟨n, rfl, hn⟩ : ∃ n : Nat, q = n ∧ n ≤ 3 := ⟨q.toNat, by simp [outB] at hqq; omega, by simp [outB] at hqq; omega⟩
        rw [Int.toNat_natCast]
        have hcl : ∀ w1, W.grownBy w1 none → Hid (∀ v ∈ vs, ∀ wx, w1.grownBy wx none → Calls Try.prog 65 #[.agg #[.int .i64 v.x, .int .i64 v.y, .int .i64 v.z], .pointer (some ⟨w.heap.size + 1 + 1, 0, none⟩), .pointer (some ⟨w.heap.size + 1, 0, none⟩)] wx fun e w' => e = .returned (.agg #[.int .i64 (turnV axis n v).x, .int .i64 (turnV axis n v).y, .int .i64 (turnV axis n v).z]) ∧ wx.grownBy w' none) :=
          fun w1 hg v hv wx hx => turnClo_any _ _ n axis v wx (hbd v hv) hn ((gr_trans hg hx).k bq) ((gr_trans hg hx).k ba)
        replace hcl := hide hcl
        replace hax := hide hax
        replace hqq := hide hqq
        replace hbd := hide hbd
        clear hM
        go_enter Try.func19, Try.ntmps19
        go_wp2_with fail
        rw [hW.out]
        refine hCM.out.mono ?_
        rintro e w1 ⟨rfl, hg1⟩
        have ba := hg1.k ba
        have bq := hg1.k bq
        replace b0 := hg1.k b0
        replace b1 := hg1.k b1
        replace q0 := hide (q0.gr hg1 (by simp))
        replace q1 := hide (q1.gr hg1 (by simp))
        have hg2 := gr_trans hg0 hg1
        go_wp2_with fail
        refine (isAxis_any _ _).mono ?_
        rintro e w2 ⟨rfl, rfl⟩
        rw [hax.out]
        go_wp2_with fail
        refine (outside_any _ _ _ _).mono ?_
        rintro e w2 ⟨rfl, rfl⟩
        rw [hqq.out]
        go_wp2_with fail
        refine (mapTurn_any (turnV axis n) _ _ A c vs B d fs _ (hlW.pure hg1) (hfW.pure hg1) hvl hfl (hcl.out _ hg1)).mono ?_
        rintro e w2 ⟨A2, c2, B2, d2, rfl, hA2, hB2, -, hg3⟩
        replace q0 := hide (q0.out.gr hg3 (by simp))
        replace q1 := hide (q1.out.gr hg3 (by simp))
        have hgX := gr_trans hg2 hg3
        have hlm : (vs.map (turnV axis n)).length = vs.length := List.length_map _
        have hsz1 := hg1.size
        have hR := checked_any A2 c2 (vs.map (turnV axis n)) B2 d2 fs w2 w1.heap.size hA2.sl hB2.sl
        rw [hlm] at hR
        replace hR := hide hR
        clear hg2 hcl hCM hW
        go_wp2_with fail
        refine hR.out.mono ?_
        rintro e w9 ⟨A9, c9, B9, d9, rfl, s1, s2, hg9⟩
        obtain ⟨x0, y0⟩ := q0.out.gr hg9 (by simp)
        obtain ⟨x1, y1⟩ := q1.out.gr hg9 (by simp)
        have hg2 := gr_trans hgX hg9
        have hWl := hWs.out
        clear hR
        go_wp2_with fail
        have hk := fun (v1 v2 : Value) => gr_set (gr_set hg2 (p := ⟨w.heap.size + 1 + 1 + 1, 0, none⟩) (.inr (by simp only; omega)) v1) (p := ⟨w.heap.size + 1 + 1 + 1, 1, none⟩) (.inr (by simp only; omega)) v2
        have hgs := fun (v1 v2 : Value) => gr_set (gr_set (World.grownBy.refl w9 (some (w.heap.size + 1 + 1 + 1))) (p := ⟨w.heap.size + 1 + 1 + 1, 0, none⟩) (.inl rfl) v1) (p := ⟨w.heap.size + 1 + 1 + 1, 1, none⟩) (.inl rfl) v2
        refine bodyPost_ret (v := .tuple #[.agg #[.slice A9 (okM ⟨vs.map (turnV axis n), fs⟩).vs.length c9, .slice B9 (okM ⟨vs.map (turnV axis n), fs⟩).fs.length d9], .int .i64 (meshF ⟨vs.map (turnV axis n), fs⟩)]) (by simp [results, Try.results19, go_sem, x0, x1, y0, y1]) rfl ⟨A9, c9, B9, d9, rfl, (s1.gr (hgs _ _) (fun g e => by injection e; omega)).mono (by omega), (s2.gr (hgs _ _) (fun g e => by injection e; omega)).mono (by omega), hk _ _⟩
  · rw [show turnR ⟨vs, fs⟩ axis q = (⟨[], []⟩, meshF ⟨vs, fs⟩) by unfold turnR; rw [if_neg hM]]
    generalize meshF ⟨vs, fs⟩ = F at *
    replace hCM := hide hCM
    go_enter Try.func19, Try.ntmps19
    go_wp2_with fail
    rw [hW.out]
    refine hCM.out.mono ?_
    rintro e w1 ⟨rfl, hg1⟩
    obtain ⟨x0, y0⟩ := q0.gr hg1 (by simp)
    obtain ⟨x1, y1⟩ := q1.gr hg1 (by simp)
    have hg2 := gr_trans hg0 hg1
    go_wp2_with fail
    have hk := fun (v1 v2 : Value) => gr_set (gr_set hg2 (p := ⟨w.heap.size + 1 + 1 + 1, 0, none⟩) (.inr (by simp only; omega)) v1) (p := ⟨w.heap.size + 1 + 1 + 1, 1, none⟩) (.inr (by simp only; omega)) v2
    exact bodyPost_ret (v := .tuple #[.agg #[.slice none 0 0, .slice none 0 0], .int .i64 (F)]) (by simp [results, Try.results19, go_sem, x0, x1, y0, y1]) rfl ⟨none, 0, none, 0, rfl, slNil _ _ _, slNil _ _ _, hk _ _⟩

set_option maxHeartbeats 1000000 in
set_option maxRecDepth 100000 in
theorem turnedRef_any (A : Option Addr) (c : Nat) (vs : List V3) (B : Option Addr) (d : Nat) (fs : List Fc) (axis : Int) (n : Nat) (w : World) (hl : Sl w 0 A vs) (hfs : Sl w 0 B fs) (hM : meshF ⟨vs, fs⟩ = 0) (hn : n ≤ 3) :
    Calls Try.prog 23 #[.agg #[.slice A vs.length c, .slice B fs.length d], .int .i64 axis, .int .i64 n] w (SMeshE w.heap.size (okM ⟨vs.map (turnV axis n), fs⟩) (meshF ⟨vs.map (turnV axis n), fs⟩) w) := by
  have hmf : ∀ (fn : Fn) (first cap : Array Value) (w : World), (Instr.makeFunc fn first cap).run Try.prog w = .ok (.func fn first cap) w := fun _ _ _ _ => rfl
  obtain ⟨q, hq⟩ : ∃ q : Int, q = n := ⟨_, rfl⟩
  rw [← hq]
  obtain ⟨W, hW⟩ : ∃ W, W = (((w.alloc (.cells #[.slice A vs.length c, .slice B fs.length d] 29)).alloc (.cells #[.int .i64 axis] 3)).alloc (.cells #[.int .i64 q] 3)).alloc (.cells #[.slice none 0 0, .slice none 0 0] 29) := ⟨_, rfl⟩
  have hlt0 : w.heap.size < w.heap.size + 1 := Nat.lt_succ_self _
  have hlt1 : w.heap.size < w.heap.size + 1 + 1 := by omega
  have hlt2 : w.heap.size < w.heap.size + 1 + 1 + 1 := by omega
  have hlt3 : w.heap.size + 1 < w.heap.size + 1 + 1 + 1 := by omega
  have hWs : W.heap.size = w.heap.size + 1 + 1 + 1 + 1 := by rw [hW]; simp
  have hg0 : w.grownBy W none := by rw [hW]; exact (by repeat (first | exact World.grownBy.refl _ _ | assumption | refine gr_alloc ?_ _ | (apply gr_tail; assumption) | refine gr_drewN ?_ _ | refine gr_drew ?_))
  have b0 : W.cell? ⟨w.heap.size, 0, none⟩ = some (.slice A vs.length c) := by rw [hW]; go_simp
  have b1 : W.cell? ⟨w.heap.size, 1, none⟩ = some (.slice B fs.length d) := by rw [hW]; go_simp
  have ba : W.cell? ⟨w.heap.size + 1, 0, none⟩ = some (.int .i64 axis) := by rw [hW]; go_simp
  have bq : W.cell? ⟨w.heap.size + 1 + 1, 0, none⟩ = some (.int .i64 q) := by rw [hW]; go_simp
  have q0 : Cell W (w.heap.size + 1 + 1 + 1) 0 (.slice none 0 0) := by rw [hW]; exact ⟨by go_simp, by go_simp⟩
  have q1 : Cell W (w.heap.size + 1 + 1 + 1) 1 (.slice none 0 0) := by rw [hW]; exact ⟨by go_simp, by go_simp⟩
  replace hW := hide hW.symm
  replace hWs := hide hWs
  have hlW := hl.pure hg0
  have hfW := hfs.pure hg0
  rw [hq] at bq
  obtain ⟨hbd, hvl, hfl, _, _⟩ := right_bd hM
  have hR := hide (madeTurn_any (turnV axis n) (w.heap.size + 1 + 1) (w.heap.size + 1) A c vs B d fs W hlW hfW hvl hfl
    (fun v hv wx hx => turnRef_any _ _ n axis v wx (hbd v hv) hn (hx.k bq) (hx.k ba)))
  clear hM
  replace hbd := hide hbd
  subst hq
  replace q0 := hide q0
  replace q1 := hide q1
  go_enter Try.func23, Try.ntmps23
  go_wp2_with fail
  rw [hW.out]
  refine hR.out.mono ?_
  rintro e w9 ⟨A9, c9, B9, d9, rfl, s1, s2, hg9⟩
  obtain ⟨x0, y0⟩ := q0.out.gr hg9 (by simp)
  obtain ⟨x1, y1⟩ := q1.out.gr hg9 (by simp)
  have hg2 := gr_trans hg0 hg9
  have hWl := hWs.out
  clear hR hW
  go_wp2_with fail
  have hk := fun (v1 v2 : Value) => gr_set (gr_set hg2 (p := ⟨w.heap.size + 1 + 1 + 1, 0, none⟩) (.inr (by simp only; omega)) v1) (p := ⟨w.heap.size + 1 + 1 + 1, 1, none⟩) (.inr (by simp only; omega)) v2
  have hgs := fun (v1 v2 : Value) => gr_set (gr_set (World.grownBy.refl w9 (some (w.heap.size + 1 + 1 + 1))) (p := ⟨w.heap.size + 1 + 1 + 1, 0, none⟩) (.inl rfl) v1) (p := ⟨w.heap.size + 1 + 1 + 1, 1, none⟩) (.inl rfl) v2
  refine bodyPost_ret (v := .tuple #[.agg #[.slice A9 (okM ⟨vs.map (turnV axis n), fs⟩).vs.length c9, .slice B9 (okM ⟨vs.map (turnV axis n), fs⟩).fs.length d9], .int .i64 (meshF ⟨vs.map (turnV axis n), fs⟩)]) (by simp [results, Try.results23, go_sem, x0, x1, y0, y1]) rfl ⟨A9, c9, B9, d9, rfl, (s1.gr (hgs _ _) (fun g e => by injection e; omega)).mono (by omega), (s2.gr (hgs _ _) (fun g e => by injection e; omega)).mono (by omega), hk _ _⟩

end Go.Proofs.Ytjodjdjfagjiaaa

namespace Go.Proofs.Ytjodjdjfagjiaaa
open Go.RowKit Go.Bl

def in3 (n : Int) : Bool := inB n (-300000) 300000
def allIn (t : V3) : Bool := in3 t.x && in3 t.y && in3 t.z
def movR (m : MeshV) (t : V3) : MeshV × Int := if allIn t = true then (okM ⟨m.vs.map (moveV t), m.fs⟩, meshF ⟨m.vs.map (moveV t), m.fs⟩) else (⟨[], []⟩, 1)
def moveR (m : MeshV) (t : V3) : MeshV × Int := if meshF m = 0 then (okM ⟨m.vs.map (moveV (clampV t)), m.fs⟩, meshF ⟨m.vs.map (moveV (clampV t)), m.fs⟩) else (⟨[], []⟩, meshF m)
theorem in3_bd {n : Int} (h : in3 n = true) : -300000 ≤ n ∧ n ≤ 300000 := by simpa [in3, inB] using h
theorem in3_no {n : Int} (h : in3 n = false) : n < -300000 ∨ 300000 < n := by
  simp [in3, inB] at h
  omega
theorem far1 {n x : Int} (h : in3 n = false) (hx : -100000 ≤ x ∧ x ≤ 100000) : farZ (x + clampI n) = true := by
  have e : clampI n = -300000 ∨ clampI n = 300000 := by
    rcases in3_no h with h | h
    · exact .inl (by unfold clampI; omega)
    · exact .inr (by unfold clampI; omega)
  unfold farZ
  rcases e with e | e <;> rw [e] <;> simp <;> omega
theorem move_far {t v : V3} (h : allIn t = false) (hv : Bd 100000 v) : farV (moveV (clampV t) v) = true := by
  obtain ⟨h1, h2, h3⟩ := hv
  unfold allIn at h
  have : in3 t.x = false ∨ in3 t.y = false ∨ in3 t.z = false := by
    cases hx : in3 t.x <;> cases hy : in3 t.y <;> cases hz : in3 t.z <;> simp [hx, hy, hz] at h ⊢
  unfold farV moveV clampV
  rcases this with e | e | e
  · simp only [far1 e h1, Bool.true_or]
  · simp only [far1 e h2, Bool.true_or, Bool.or_true]
  · simp only [far1 e h3, Bool.or_true]
theorem move_same {t : V3} (h : allIn t = true) : clampV t = t := by
  unfold allIn at h
  simp only [Bool.and_eq_true] at h
  have h1 := in3_bd h.1.1
  have h2 := in3_bd h.1.2
  have h3 := in3_bd h.2
  cases t
  simp only at h1 h2 h3
  simp only [clampV, clampI, V3.mk.injEq]
  omega
theorem move_eq {m : MeshV} {t : V3} (hM : meshF m = 0) : moveR m t = movR m t := by
  unfold moveR movR
  rw [if_pos hM]
  cases h : allIn t with
  | true => rw [if_pos rfl, move_same h]
  | false =>
    rw [if_neg (by simp)]
    obtain ⟨vs, fs⟩ := m
    obtain ⟨hbd, hvl, hfl, hf0, hv0⟩ := right_bd hM
    obtain ⟨v, r, rfl⟩ := List.exists_cons_of_ne_nil hv0
    have e : meshF ⟨(v :: r).map (moveV (clampV t)), fs⟩ = 1 := by
      refine meshF_far hf0 (by rw [List.length_map]; omega) ?_
      rw [List.map_cons, List.any_cons, move_far h (hbd v (List.mem_cons_self ..)), Bool.true_or]
    simp only
    rw [e, show okM ⟨(v :: r).map (moveV (clampV t)), fs⟩ = ⟨[], []⟩ by unfold okM; rw [if_neg (by rw [e]; decide)]]

set_option maxHeartbeats 1000000 in
set_option maxRecDepth 100000 in
theorem moved_any (A : Option Addr) (c : Nat) (vs : List V3) (B : Option Addr) (d : Nat) (fs : List Fc) (t : V3) (w : World) (hl : Sl w 0 A vs) (hfs : Sl w 0 B fs) :
    Calls Try.prog 20 #[.agg #[.slice A vs.length c, .slice B fs.length d], .agg #[.int .i64 t.x, .int .i64 t.y, .int .i64 t.z]] w (SMeshE w.heap.size (moveR ⟨vs, fs⟩ t).1 (moveR ⟨vs, fs⟩ t).2 w) := by
  have hmf : ∀ (fn : Fn) (first cap : Array Value) (w : World), (Instr.makeFunc fn first cap).run Try.prog w = .ok (.func fn first cap) w := fun _ _ _ _ => rfl
  obtain ⟨W, hW⟩ : ∃ W, W = ((w.alloc (.cells #[.slice A vs.length c, .slice B fs.length d] 29)).alloc (.cells #[.int .i64 t.x, .int .i64 t.y, .int .i64 t.z] 49)).alloc (.cells #[.slice none 0 0, .slice none 0 0] 29) := ⟨_, rfl⟩
  have hlt0 : w.heap.size < w.heap.size + 1 := Nat.lt_succ_self _
  have hlt1 : w.heap.size < w.heap.size + 1 + 1 := by omega
  have hWs : W.heap.size = w.heap.size + 1 + 1 + 1 := by rw [hW]; simp
  have hg0 : w.grownBy W none := by rw [hW]; exact (by repeat (first | exact World.grownBy.refl _ _ | assumption | refine gr_alloc ?_ _ | (apply gr_tail; assumption) | refine gr_drewN ?_ _ | refine gr_drew ?_))
  have b0 : W.cell? ⟨w.heap.size, 0, none⟩ = some (.slice A vs.length c) := by rw [hW]; go_simp
  have b1 : W.cell? ⟨w.heap.size, 1, none⟩ = some (.slice B fs.length d) := by rw [hW]; go_simp
  have t0 : W.cell? ⟨w.heap.size + 1, 0, none⟩ = some (.int .i64 t.x) := by rw [hW]; go_simp
  have t1 : W.cell? ⟨w.heap.size + 1, 1, none⟩ = some (.int .i64 t.y) := by rw [hW]; go_simp
  have t2 : W.cell? ⟨w.heap.size + 1, 2, none⟩ = some (.int .i64 t.z) := by rw [hW]; go_simp
  have q0 : Cell W (w.heap.size + 1 + 1) 0 (.slice none 0 0) := by rw [hW]; exact ⟨by go_simp, by go_simp⟩
  have q1 : Cell W (w.heap.size + 1 + 1) 1 (.slice none 0 0) := by rw [hW]; exact ⟨by go_simp, by go_simp⟩
  replace hW := hide hW.symm
  replace hWs := hide hWs
  have hlW := hl.pure hg0
  have hfW := hfs.pure hg0
  have hCM := checkMesh_any A c vs B d fs W hlW hfW
  by_cases hM : meshF ⟨vs, fs⟩ = 0
  · rw [hM] at hCM
    replace hCM := hide hCM
    rw [show moveR ⟨vs, fs⟩ t = (okM ⟨vs.map (moveV (clampV t)), fs⟩, meshF ⟨vs.map (moveV (clampV t)), fs⟩) by unfold moveR; rw [if_pos hM]]
    obtain ⟨hbd, hvl, hfl, _, _⟩ := right_bd hM
    have hcl : ∀ w1, W.grownBy w1 none → Hid (∀ v ∈ vs, ∀ wx, w1.grownBy wx none → Calls Try.prog 67 #[.agg #[.int .i64 v.x, .int .i64 v.y, .int .i64 v.z], .pointer (some ⟨w.heap.size + 1, 0, none⟩)] wx fun e w' => e = .returned (.agg #[.int .i64 (moveV (clampV t) v).x, .int .i64 (moveV (clampV t) v).y, .int .i64 (moveV (clampV t) v).z]) ∧ wx.grownBy w' none) :=
      fun w1 hg v hv wx hx => moveClo_any _ t v wx (hbd v hv) ((gr_trans hg hx).k t0) ((gr_trans hg hx).k t1) ((gr_trans hg hx).k t2)
    replace hcl := hide hcl
    replace hbd := hide hbd
    clear hM
    go_enter Try.func20, Try.ntmps20
    go_wp2_with fail
    rw [hW.out]
    refine hCM.out.mono ?_
    rintro e w1 ⟨rfl, hg1⟩
    replace b0 := hg1.k b0
    replace b1 := hg1.k b1
    replace q0 := hide (q0.gr hg1 (by simp))
    replace q1 := hide (q1.gr hg1 (by simp))
    have hg2 := gr_trans hg0 hg1
    go_wp2_with fail
    refine (mapMove_any (moveV (clampV t)) _ A c vs B d fs _ (hlW.pure hg1) (hfW.pure hg1) hvl hfl (hcl.out _ hg1)).mono ?_
    rintro e w2 ⟨A2, c2, B2, d2, rfl, hA2, hB2, -, hg3⟩
    replace q0 := hide (q0.out.gr hg3 (by simp))
    replace q1 := hide (q1.out.gr hg3 (by simp))
    have hgX := gr_trans hg2 hg3
    have hlm : (vs.map (moveV (clampV t))).length = vs.length := List.length_map _
    have hsz1 := hg1.size
    have hR := checked_any A2 c2 (vs.map (moveV (clampV t))) B2 d2 fs w2 w1.heap.size hA2.sl hB2.sl
    rw [hlm] at hR
    replace hR := hide hR
    clear hg2 hcl hCM hW
    go_wp2_with fail
    refine hR.out.mono ?_
    rintro e w9 ⟨A9, c9, B9, d9, rfl, s1, s2, hg9⟩
    obtain ⟨x0, y0⟩ := q0.out.gr hg9 (by simp)
    obtain ⟨x1, y1⟩ := q1.out.gr hg9 (by simp)
    have hg2 := gr_trans hgX hg9
    have hWl := hWs.out
    clear hR
    go_wp2_with fail
    have hk := fun (v1 v2 : Value) => gr_set (gr_set hg2 (p := ⟨w.heap.size + 1 + 1, 0, none⟩) (.inr (by simp only; omega)) v1) (p := ⟨w.heap.size + 1 + 1, 1, none⟩) (.inr (by simp only; omega)) v2
    have hgs := fun (v1 v2 : Value) => gr_set (gr_set (World.grownBy.refl w9 (some (w.heap.size + 1 + 1))) (p := ⟨w.heap.size + 1 + 1, 0, none⟩) (.inl rfl) v1) (p := ⟨w.heap.size + 1 + 1, 1, none⟩) (.inl rfl) v2
    refine bodyPost_ret (v := .tuple #[.agg #[.slice A9 (okM ⟨vs.map (moveV (clampV t)), fs⟩).vs.length c9, .slice B9 (okM ⟨vs.map (moveV (clampV t)), fs⟩).fs.length d9], .int .i64 (meshF ⟨vs.map (moveV (clampV t)), fs⟩)]) (by simp [results, Try.results20, go_sem, x0, x1, y0, y1]) rfl ⟨A9, c9, B9, d9, rfl, (s1.gr (hgs _ _) (fun g e => by injection e; omega)).mono (by omega), (s2.gr (hgs _ _) (fun g e => by injection e; omega)).mono (by omega), hk _ _⟩
  · rw [show moveR ⟨vs, fs⟩ t = (⟨[], []⟩, meshF ⟨vs, fs⟩) by unfold moveR; rw [if_neg hM]]
    generalize meshF ⟨vs, fs⟩ = F at *
    replace hCM := hide hCM
    go_enter Try.func20, Try.ntmps20
    go_wp2_with fail
    rw [hW.out]
    refine hCM.out.mono ?_
    rintro e w1 ⟨rfl, hg1⟩
    obtain ⟨x0, y0⟩ := q0.gr hg1 (by simp)
    obtain ⟨x1, y1⟩ := q1.gr hg1 (by simp)
    have hg2 := gr_trans hg0 hg1
    go_wp2_with fail
    have hk := fun (v1 v2 : Value) => gr_set (gr_set hg2 (p := ⟨w.heap.size + 1 + 1, 0, none⟩) (.inr (by simp only; omega)) v1) (p := ⟨w.heap.size + 1 + 1, 1, none⟩) (.inr (by simp only; omega)) v2
    exact bodyPost_ret (v := .tuple #[.agg #[.slice none 0 0, .slice none 0 0], .int .i64 (F)]) (by simp [results, Try.results20, go_sem, x0, x1, y0, y1]) rfl ⟨none, 0, none, 0, rfl, slNil _ _ _, slNil _ _ _, hk _ _⟩

set_option maxHeartbeats 1000000 in
set_option maxRecDepth 100000 in
theorem movedRef_any (A : Option Addr) (c : Nat) (vs : List V3) (B : Option Addr) (d : Nat) (fs : List Fc) (t : V3) (w : World) (hl : Sl w 0 A vs) (hfs : Sl w 0 B fs) (hM : meshF ⟨vs, fs⟩ = 0) :
    Calls Try.prog 24 #[.agg #[.slice A vs.length c, .slice B fs.length d], .agg #[.int .i64 t.x, .int .i64 t.y, .int .i64 t.z]] w (SMeshE w.heap.size (movR ⟨vs, fs⟩ t).1 (movR ⟨vs, fs⟩ t).2 w) := by
  have hmf : ∀ (fn : Fn) (first cap : Array Value) (w : World), (Instr.makeFunc fn first cap).run Try.prog w = .ok (.func fn first cap) w := fun _ _ _ _ => rfl
  obtain ⟨W, hW⟩ : ∃ W, W = ((w.alloc (.cells #[.slice A vs.length c, .slice B fs.length d] 29)).alloc (.cells #[.int .i64 t.x, .int .i64 t.y, .int .i64 t.z] 49)).alloc (.cells #[.slice none 0 0, .slice none 0 0] 29) := ⟨_, rfl⟩
  have hlt0 : w.heap.size < w.heap.size + 1 := Nat.lt_succ_self _
  have hlt1 : w.heap.size < w.heap.size + 1 + 1 := by omega
  have hWs : W.heap.size = w.heap.size + 1 + 1 + 1 := by rw [hW]; simp
  have hg0 : w.grownBy W none := by rw [hW]; exact (by repeat (first | exact World.grownBy.refl _ _ | assumption | refine gr_alloc ?_ _ | (apply gr_tail; assumption) | refine gr_drewN ?_ _ | refine gr_drew ?_))
  have b0 : W.cell? ⟨w.heap.size, 0, none⟩ = some (.slice A vs.length c) := by rw [hW]; go_simp
  have b1 : W.cell? ⟨w.heap.size, 1, none⟩ = some (.slice B fs.length d) := by rw [hW]; go_simp
  have t0 : W.cell? ⟨w.heap.size + 1, 0, none⟩ = some (.int .i64 t.x) := by rw [hW]; go_simp
  have t1 : W.cell? ⟨w.heap.size + 1, 1, none⟩ = some (.int .i64 t.y) := by rw [hW]; go_simp
  have t2 : W.cell? ⟨w.heap.size + 1, 2, none⟩ = some (.int .i64 t.z) := by rw [hW]; go_simp
  have q0 : Cell W (w.heap.size + 1 + 1) 0 (.slice none 0 0) := by rw [hW]; exact ⟨by go_simp, by go_simp⟩
  have q1 : Cell W (w.heap.size + 1 + 1) 1 (.slice none 0 0) := by rw [hW]; exact ⟨by go_simp, by go_simp⟩
  replace hW := hide hW.symm
  replace hWs := hide hWs
  have hlW := hl.pure hg0
  have hfW := hfs.pure hg0
  obtain ⟨hbd, hvl, hfl, _, hv0⟩ := right_bd hM
  have hv1 : 0 < vs.length := List.length_pos_iff.2 hv0
  replace hbd := hide hbd
  clear hM
  go_enter Try.func24, Try.ntmps24
  go_wp2_with fail
  rw [hW.out]
  clear hW
  have hal := gr_alloc (r := none) (World.grownBy.refl W none) (.cells #[.int .i64 t.x, .int .i64 t.y, .int .i64 t.z] 3)
  have l0 := (Cell.new W [.int .i64 t.x, .int .i64 t.y, .int .i64 t.z] 3 0 _ rfl (w.heap.size + 1 + 1 + 1) hWs.out.symm).1
  have l1 := (Cell.new W [.int .i64 t.x, .int .i64 t.y, .int .i64 t.z] 3 1 _ rfl (w.heap.size + 1 + 1 + 1) hWs.out.symm).1
  have l2 := (Cell.new W [.int .i64 t.x, .int .i64 t.y, .int .i64 t.z] 3 2 _ rfl (w.heap.size + 1 + 1 + 1) hWs.out.symm).1
  simp only [List.toArray] at l0 l1 l2
  have hg2 := gr_trans hg0 hal
  replace b0 := hal.k b0
  replace b1 := hal.k b1
  replace t0 := hal.k t0
  replace t1 := hal.k t1
  replace t2 := hal.k t2
  replace q0 := q0.gr hal (by simp)
  replace q1 := q1.gr hal (by simp)
  replace hlW := hlW.pure hal
  replace hfW := hfW.pure hal
  have hlz := hal.size
  clear hal
  generalize (W.alloc (.cells #[.int .i64 t.x, .int .i64 t.y, .int .i64 t.z] 3)) = Wc at *
  go_loop [16] (fun i => ∃ k : Nat, k ≤ 3 ∧ i = .int .i64 k ∧ Hid (0 < k → in3 t.x = true) ∧ Hid (1 < k → in3 t.y = true) ∧ Hid (2 < k → in3 t.z = true)) (fun i => 3 - (intOf i).toNat)
  case atStart => exact ⟨0, by omega, rfl, fun h => by omega, fun h => by omega, fun h => by omega⟩
  case round =>
    obtain ⟨k, hk, rfl, h0, h1, h2⟩ := hrel
    have hk4 : k = 0 ∨ k = 1 ∨ k = 2 ∨ k = 3 := by omega
    rcases hk4 with rfl | rfl | rfl | rfl
    · cases hz : in3 t.x with
      | true =>
        have hz2 : Hid (inB t.x (-300000) 300000 = true) := hz
        replace hz := hide hz
        go_wp2_with fail
        refine (in_any _ _ _ _).mono ?_
        rintro e w1 ⟨rfl, rfl⟩
        rw [hz2.out]
        go_wp2_with fail
        go_round
        case rel => exact ⟨1, by omega, by rfl, (by first | exact fun _ => hz.out | exact fun _ => trivial), fun h => by omega, fun h => by omega⟩
        case measure => simp [intOf]
      | false =>
        have hz2 : Hid (inB t.x (-300000) 300000 = false) := hz
        have hA : allIn t = false := by unfold allIn; rw [hz]; simp
        have hRe := hide (show movR ⟨vs, fs⟩ t = (⟨[], []⟩, 1) by unfold movR; rw [if_neg (by rw [hA]; simp)])
        clear hz hA
        go_wp2_with fail
        refine (in_any _ _ _ _).mono ?_
        rintro e w1 ⟨rfl, rfl⟩
        rw [hz2.out]
        obtain ⟨x0, y0⟩ := q0
        obtain ⟨x1, y1⟩ := q1
        go_wp2_with fail
        have hk := fun (v1 v2 : Value) => gr_set (gr_set hg2 (p := ⟨w.heap.size + 1 + 1, 0, none⟩) (.inr (by simp only; omega)) v1) (p := ⟨w.heap.size + 1 + 1, 1, none⟩) (.inr (by simp only; omega)) v2
        exact bodyPost_ret (v := .tuple #[.agg #[.slice none 0 0, .slice none 0 0], .int .i64 1]) (by simp [results, Try.results24, go_sem, x0, x1, y0, y1]) rfl (by rw [hRe.out]; exact ⟨none, 0, none, 0, rfl, slNil _ _ _, slNil _ _ _, hk _ _⟩)
    · cases hz : in3 t.y with
      | true =>
        have hz2 : Hid (inB t.y (-300000) 300000 = true) := hz
        replace hz := hide hz
        go_wp2_with fail
        refine (in_any _ _ _ _).mono ?_
        rintro e w1 ⟨rfl, rfl⟩
        rw [hz2.out]
        go_wp2_with fail
        go_round
        case rel => exact ⟨2, by omega, by rfl, fun _ => h0.out (by omega), (by first | exact fun _ => hz.out | exact fun _ => trivial), fun h => by omega⟩
        case measure => simp [intOf]
      | false =>
        have hz2 : Hid (inB t.y (-300000) 300000 = false) := hz
        have hA : allIn t = false := by unfold allIn; rw [hz]; simp
        have hRe := hide (show movR ⟨vs, fs⟩ t = (⟨[], []⟩, 1) by unfold movR; rw [if_neg (by rw [hA]; simp)])
        clear hz hA
        go_wp2_with fail
        refine (in_any _ _ _ _).mono ?_
        rintro e w1 ⟨rfl, rfl⟩
        rw [hz2.out]
        obtain ⟨x0, y0⟩ := q0
        obtain ⟨x1, y1⟩ := q1
        go_wp2_with fail
        have hk := fun (v1 v2 : Value) => gr_set (gr_set hg2 (p := ⟨w.heap.size + 1 + 1, 0, none⟩) (.inr (by simp only; omega)) v1) (p := ⟨w.heap.size + 1 + 1, 1, none⟩) (.inr (by simp only; omega)) v2
        exact bodyPost_ret (v := .tuple #[.agg #[.slice none 0 0, .slice none 0 0], .int .i64 1]) (by simp [results, Try.results24, go_sem, x0, x1, y0, y1]) rfl (by rw [hRe.out]; exact ⟨none, 0, none, 0, rfl, slNil _ _ _, slNil _ _ _, hk _ _⟩)
    · cases hz : in3 t.z with
      | true =>
        have hz2 : Hid (inB t.z (-300000) 300000 = true) := hz
        replace hz := hide hz
        go_wp2_with fail
        refine (in_any _ _ _ _).mono ?_
        rintro e w1 ⟨rfl, rfl⟩
        rw [hz2.out]
        go_wp2_with fail
        go_round
        case rel => exact ⟨3, by omega, by rfl, fun _ => h0.out (by omega), fun _ => h1.out (by omega), (by first | exact fun _ => hz.out | exact fun _ => trivial)⟩
        case measure => simp [intOf]
      | false =>
        have hz2 : Hid (inB t.z (-300000) 300000 = false) := hz
        have hA : allIn t = false := by unfold allIn; rw [hz]; simp
        have hRe := hide (show movR ⟨vs, fs⟩ t = (⟨[], []⟩, 1) by unfold movR; rw [if_neg (by rw [hA]; simp)])
        clear hz hA
        go_wp2_with fail
        refine (in_any _ _ _ _).mono ?_
        rintro e w1 ⟨rfl, rfl⟩
        rw [hz2.out]
        obtain ⟨x0, y0⟩ := q0
        obtain ⟨x1, y1⟩ := q1
        go_wp2_with fail
        have hk := fun (v1 v2 : Value) => gr_set (gr_set hg2 (p := ⟨w.heap.size + 1 + 1, 0, none⟩) (.inr (by simp only; omega)) v1) (p := ⟨w.heap.size + 1 + 1, 1, none⟩) (.inr (by simp only; omega)) v2
        exact bodyPost_ret (v := .tuple #[.agg #[.slice none 0 0, .slice none 0 0], .int .i64 1]) (by simp [results, Try.results24, go_sem, x0, x1, y0, y1]) rfl (by rw [hRe.out]; exact ⟨none, 0, none, 0, rfl, slNil _ _ _, slNil _ _ _, hk _ _⟩)
    · have hA : allIn t = true := by unfold allIn; rw [h0.out (by omega), h1.out (by omega), h2.out (by omega)]; rfl
      have hRe := hide (show movR ⟨vs, fs⟩ t = (okM ⟨vs.map (moveV t), fs⟩, meshF ⟨vs.map (moveV t), fs⟩) by unfold movR; rw [if_pos hA])
      have htb : Bd 300000 t := ⟨in3_bd (h0.out (by omega)), in3_bd (h1.out (by omega)), in3_bd (h2.out (by omega))⟩
      have hR := hide (madeMove_any (moveV t) (w.heap.size + 1) A c vs B d fs Wc hlW hfW hvl hfl
        (fun v hv wx hx => moveRef_any _ t v wx (hbd.out v hv) htb (hx.k t0) (hx.k t1) (hx.k t2)))
      clear h0 h1 h2 htb hA hbd
      replace q0 := hide q0
      replace q1 := hide q1
      go_wp2_with fail
      refine hR.out.mono ?_
      rintro e w9 ⟨A9, c9, B9, d9, rfl, s1, s2, hg9⟩
      obtain ⟨x0, y0⟩ := q0.out.gr hg9 (by simp)
      obtain ⟨x1, y1⟩ := q1.out.gr hg9 (by simp)
      have hg3 := gr_trans hg2 hg9
      have hWl := hWs.out
      clear hR
      go_wp2_with fail
      have hk := fun (v1 v2 : Value) => gr_set (gr_set hg3 (p := ⟨w.heap.size + 1 + 1, 0, none⟩) (.inr (by simp only; omega)) v1) (p := ⟨w.heap.size + 1 + 1, 1, none⟩) (.inr (by simp only; omega)) v2
      have hgs := fun (v1 v2 : Value) => gr_set (gr_set (World.grownBy.refl w9 (some (w.heap.size + 1 + 1))) (p := ⟨w.heap.size + 1 + 1, 0, none⟩) (.inl rfl) v1) (p := ⟨w.heap.size + 1 + 1, 1, none⟩) (.inl rfl) v2
      exact bodyPost_ret (v := .tuple #[.agg #[.slice A9 (okM ⟨vs.map (moveV t), fs⟩).vs.length c9, .slice B9 (okM ⟨vs.map (moveV t), fs⟩).fs.length d9], .int .i64 (meshF ⟨vs.map (moveV t), fs⟩)]) (by simp [results, Try.results24, go_sem, x0, x1, y0, y1]) rfl (by rw [hRe.out]; exact ⟨A9, c9, B9, d9, rfl, (s1.gr (hgs _ _) (fun g e => by injection e; omega)).mono (by omega), (s2.gr (hgs _ _) (fun g e => by injection e; omega)).mono (by omega), hk _ _⟩)

end Go.Proofs.Ytjodjdjfagjiaaa

namespace Go.Proofs.Ytjodjdjfagjiaaa
open Go.RowKit Go.Bl

theorem info_bool : (Try.prog.info? 4).map (fun i => (i.zero, i.size, i.bytes)) = some (some (.bool false), 1, 1) := by kernel_rfl

/-- whether a face has the vertex i -/
def hasI (i : Nat) (f : Fc) : Bool := decide (f.a = (i : Int)) || decide (f.b = (i : Int)) || decide (f.c = (i : Int))
def useL (n : Nat) (fs : List Fc) : List Bool := (List.range n).map fun i => fs.any (hasI i)
theorem useL_len (n : Nat) (fs : List Fc) : (useL n fs).length = n := by simp [useL]
theorem useL_at {n : Nat} {fs : List Fc} {i : Nat} (h : i < (useL n fs).length) : (useL n fs)[i] = fs.any (hasI i) := by simp [useL]
theorem useL_nil (n : Nat) : useL n [] = List.replicate n false := by
  apply List.ext_getElem
  · simp [useL]
  · intro i h1 h2; simp [useL]

/-- while a face's vertices are marked -/
def UsI (gu gf lo n ia ib ic : Nat) (L : List Bool) (W : World) (m : Nat → Bool) (_ : Nat) (w : World) : Prop :=
  W.grownBy w (some gu) ∧ (Cell w gf 0 (.int .i64 ia) ∧ Cell w gf 1 (.int .i64 ib) ∧ Cell w gf 2 (.int .i64 ic)) ∧
    ∃ l : List Bool, ∃ hl : l.length = n, ∃ hL : L.length = n, Own w lo 4 (some ⟨gu, 0, none⟩) n l ∧ ∀ i (hi : i < n), l[i]'(by omega) = (L[i]'(by omega) || (m 10 && decide (i = ia)) || (m 12 && decide (i = ib)) || (m 14 && decide (i = ic)))
section
variable {gu gf lo n ia ib ic k : Nat} {L : List Bool} {W w w' : World} {m : Nat → Bool}
theorem UsI.same (h : UsI gu gf lo n ia ib ic L W m k w) {j : Nat} (h1 : (10 == j) = false) (h2 : (12 == j) = false) (h3 : (14 == j) = false) : UsI gu gf lo n ia ib ic L W (setm m j) k w := by
  unfold UsI
  rw [setm_ne h1, setm_ne h2, setm_ne h3]
  exact h
theorem UsI.cell (h : UsI gu gf lo n ia ib ic L W m k w) {i : Nat} (hi : i < n) : (∃ b, w.cell? ⟨gu, i, none⟩ = some (.bool b)) ∧ w.frozen? ⟨gu, i, none⟩ = false := by
  obtain ⟨_, _, l, hl, hL, ho, _⟩ := h
  exact ⟨⟨_, ho.cell_bool (by omega)⟩, ho.frozen i⟩
theorem UsI.set_ (h : UsI gu gf lo n ia ib ic L W m k w) (hlo : lo ≤ gu ∧ gf ≠ gu) {i j : Nat} (hi : i < n)
    (hm : ∀ x, x < n → ((setm m j) 10 && decide (x = ia) || (setm m j) 12 && decide (x = ib) || (setm m j) 14 && decide (x = ic)) = ((m 10 && decide (x = ia) || m 12 && decide (x = ib) || m 14 && decide (x = ic)) || decide (x = i))) :
    UsI gu gf lo n ia ib ic L W (setm m j) k (w.setCell ⟨gu, i, none⟩ (.bool true)) := by
  obtain ⟨h1, ⟨c0, c1, c2⟩, l, hl, hL, ho, hv⟩ := h
  have hg := gr_set (World.grownBy.refl w (some gu)) (p := ⟨gu, i, none⟩) (.inl rfl) (.bool true)
  refine ⟨gr_trans h1 hg, ⟨c0.gr hg (fun e => by injection e with e; exact hlo.2 e.symm), c1.gr hg (fun e => by injection e with e; exact hlo.2 e.symm), c2.gr hg (fun e => by injection e with e; exact hlo.2 e.symm)⟩, l.set i true, by rw [List.length_set]; exact hl, hL, ho.set_bool (by omega) true, fun x hx => ?_⟩
  have := hm x hx
  rw [List.getElem_set, Bool.or_assoc, Bool.or_assoc, ← Bool.or_assoc (_ && _), this]
  by_cases e : i = x
  · subst e; simp
  · rw [if_neg e, hv x hx]
    simp [show ¬ x = i from fun h => e h.symm, Bool.or_assoc]
theorem UsI.st0 (h : UsI gu gf lo n ia ib ic L W m k w) (hlo : lo ≤ gu ∧ gf ≠ gu) (hi : ia < n) : UsI gu gf lo n ia ib ic L W (setm m 10) k (w.setCell ⟨gu, ia, none⟩ (.bool true)) :=
  h.set_ hlo hi (fun x _ => by rw [setm_eq, setm_ne (by decide), setm_ne (by decide)]; cases m 10 <;> cases decide (x = ia) <;> simp)
theorem UsI.st1 (h : UsI gu gf lo n ia ib ic L W m k w) (hlo : lo ≤ gu ∧ gf ≠ gu) (hi : ib < n) : UsI gu gf lo n ia ib ic L W (setm m 12) k (w.setCell ⟨gu, ib, none⟩ (.bool true)) :=
  h.set_ hlo hi (fun x _ => by rw [setm_eq, setm_ne (by decide), setm_ne (by decide)]; cases m 12 <;> cases decide (x = ib) <;> simp)
theorem UsI.st2 (h : UsI gu gf lo n ia ib ic L W m k w) (hlo : lo ≤ gu ∧ gf ≠ gu) (hi : ic < n) : UsI gu gf lo n ia ib ic L W (setm m 14) k (w.setCell ⟨gu, ic, none⟩ (.bool true)) :=
  h.set_ hlo hi (fun x _ => by rw [setm_eq, setm_ne (by decide), setm_ne (by decide)]; cases m 14 <;> cases decide (x = ic) <;> simp)
end

theorem useL_step {n : Nat} {fs : List Fc} {k : Nat} (hk : k < fs.length) {ia ib ic : Nat} (he : fs[k] = ⟨ia, ib, ic⟩) {l : List Bool} (hl : l.length = n) (hL : (useL n (fs.take k)).length = n)
    (h : ∀ i (hi : i < n), l[i]'(by omega) = ((useL n (fs.take k))[i]'(by omega) || (true && decide (i = ia)) || (true && decide (i = ib)) || (true && decide (i = ic)))) : l = useL n (fs.take (k + 1)) := by
  apply List.ext_getElem
  · rw [hl, useL_len]
  · intro i h1 h2
    rw [h i (by omega), useL_at, useL_at, take_snoc hk, List.any_append, he]
    simp only [List.any_cons, List.any_nil, Bool.or_false, Bool.true_and, hasI, Bool.or_assoc]
    congr 2
    · simp only [decide_eq_decide]; omega
    · congr 1
      · simp only [decide_eq_decide]; omega
      · simp only [decide_eq_decide]; omega

set_option maxHeartbeats 4000000 in
set_option maxRecDepth 100000 in
theorem usedGo_any (A : Option Addr) (c : Nat) (n : Nat) (B : Option Addr) (d : Nat) (fs : List Fc) (w : World) (hfs : Sl w 0 B fs) (hin : ∀ f ∈ fs, inF n f = true) (hn : n ≤ 1000) (hfl : fs.length ≤ 2000) :
    Calls Try.prog 102 #[.agg #[.slice A n c, .slice B fs.length d]] w fun e w' => ∃ g : Nat, e = .returned (.slice (some ⟨g, 0, none⟩) n n) ∧ Own w' w.heap.size 4 (some ⟨g, 0, none⟩) n (useL n fs) ∧ w.grownBy w' none := by
  obtain ⟨i0, hi, hz, h1, h2⟩ := info_parts info_bool
  obtain ⟨w1, hrun, hown, hg1⟩ := run_makeOwn (P := Try.prog) (w.alloc (.cells #[.slice A n c, .slice B fs.length d] 29)) 101 4 i0 _ false Try.underlying101 hi hz h1 rfl rfl .i64 .i64 n (by rw [h2]; omega) (by simp [maxLen]; omega)
  have hsz : (w.alloc (.cells #[.slice A n c, .slice B fs.length d] 29)).heap.size = w.heap.size + 1 := by simp
  rw [hsz] at hrun hown
  rw [← useL_nil] at hown
  have b1 := hg1.k (Cell.new w [.slice A n c, .slice B fs.length d] 29 1 _ rfl _ rfl).1
  have hgw := gr_trans (gr_alloc (r := none) (World.grownBy.refl w none) (.cells #[.slice A n c, .slice B fs.length d] 29)) hg1
  have hlt1 : w.heap.size + 1 < w1.heap.size := (hown.blk_lt (g := w.heap.size + 1) rfl).2
  clear hg1 hsz h1 h2 hz hi
  replace hin := hide hin
  go_enter Try.func102, Try.ntmps102
  go_wp2_with fail
  clear hrun
  go_loopw [13] (fun i wr => ∃ (k : Nat), k ≤ fs.length ∧ i = .int .i64 k ∧ Own wr (w.heap.size + 1) 4 (some ⟨w.heap.size + 1, 0, none⟩) n (useL n (fs.take k)) ∧ w1.grownBy wr (some (w.heap.size + 1))) (fun i _ => fs.length - (intOf i).toNat)
  case atStart => exact ⟨0, by omega, rfl, hown, World.grownBy.refl _ _⟩
  case round =>
    clear hown
    obtain ⟨k, hk, rfl, hown, hg⟩ := hrel
    have hgr : w.grownBy wr none := gr_row hgw hg (fun g e => by injection e; omega)
    have hszr := hg.size
    by_cases hlt : k < fs.length
    · obtain ⟨g, o, rfl, -, hbg, hcc⟩ := (hfs.pure hgr).fc (by omega)
      obtain ⟨x0, x1, x2⟩ := hcc k hlt
      clear hcc
      have hfi := inF_bd (hin.out _ (List.getElem_mem hlt))
      obtain ⟨ia, eia⟩ := Int.eq_ofNat_of_zero_le hfi.1.1
      obtain ⟨ib, eib⟩ := Int.eq_ofNat_of_zero_le hfi.2.1.1
      obtain ⟨ic, eic⟩ := Int.eq_ofNat_of_zero_le hfi.2.2.1
      have he : fs[k] = ⟨ia, ib, ic⟩ := fc_ext eia eib eic
      have hia : ia < n := by omega
      have hib : ib < n := by omega
      have hic : ic < n := by omega
      rw [eia] at x0
      rw [eib] at x1
      rw [eic] at x2
      obtain ⟨L, hLd⟩ : ∃ L, L = useL n (fs.take k) := ⟨_, rfl⟩
      have hst : Hid (∀ (l : List Bool) (hl : l.length = n) (hL : L.length = n), (∀ i (hi : i < n), l[i]'(by omega) = (L[i]'(by omega) || (true && decide (i = ia)) || (true && decide (i = ib)) || (true && decide (i = ic)))) → l = useL n (fs.take (k + 1))) := by
        subst hLd
        exact fun l hl hL h => useL_step hlt he hl hL h
      have hL : Hid (L.length = n) := by rw [hLd]; exact useL_len n (fs.take k)
      rw [← hLd] at hown
      replace hLd := hide hLd
      clear hfi eia eib eic he
      replace hown := hide hown
      go_upto_region 5 with fail
      have hal := gr_alloc (r := none) (World.grownBy.refl wr none) (.cells #[.int .i64 ia, .int .i64 ib, .int .i64 ic] 67)
      have y0 := Cell.new wr [.int .i64 ia, .int .i64 ib, .int .i64 ic] 67 0 _ rfl _ rfl
      have y1 := Cell.new wr [.int .i64 ia, .int .i64 ib, .int .i64 ic] 67 1 _ rfl _ rfl
      have y2 := Cell.new wr [.int .i64 ia, .int .i64 ib, .int .i64 ic] 67 2 _ rfl _ rfl
      simp only [List.toArray] at y0 y1 y2
      have hownW := hown.out.pure hal
      have hgW := gr_step hg hal
      generalize (wr.alloc (.cells #[.int .i64 ia, .int .i64 ib, .int .i64 ic] 67)) = W at *
      clear hal hown x0 x1 x2 hbg
      generalize hgf : wr.heap.size = gf at *
      obtain ⟨gu, hgu⟩ : ∃ gu, gu = w.heap.size + 1 := ⟨_, rfl⟩
      obtain ⟨lo, hlow⟩ : ∃ lo, lo = gu := ⟨_, rfl⟩
      rw [← hgu] at hownW hgW ⊢
      have hlo : lo ≤ gu ∧ gf ≠ gu := ⟨by omega, by omega⟩
      replace hownW : Own W lo 4 (some ⟨gu, 0, none⟩) n L := by rw [hlow]; exact hownW
      have hI0 : ∀ m : Nat → Bool, (m 10 = false ∧ m 12 = false ∧ m 14 = false) → UsI gu gf lo n ia ib ic L W m 0 W.drew := fun m hm => by
        have hd := gr_drew (World.grownBy.refl W none)
        refine ⟨gr_any hd, ⟨y0.gr hd (by simp), y1.gr hd (by simp), y2.gr hd (by simp)⟩, L, hL.out, hL.out, hownW.pure hd, fun i hi => ?_⟩
        rw [hm.1, hm.2.1, hm.2.2]
        simp
      replace hI0 := hide hI0
      replace hlo := hide hlo
      replace hgu := hide hgu
      replace hlow := hide hlow
      replace hgf := hide hgf
      clear y0 y1 y2 hownW
      replace hlo := hlo.out
      refine wp_region_minvF (UsI gu gf lo n ia ib ic L W) (fun _ => Wrt (fun g => g = gu)) [VIs (.slice (some ⟨gu, 0, none⟩) n n), VIs (.pointer (some ⟨gf, 0, none⟩)), VIs (.int .i64 ia), VIs (.slice (some ⟨gu, 0, none⟩) n n), VIs (.pointer (some ⟨gf, 1, none⟩)), VIs (.int .i64 ib), VIs (.slice (some ⟨gu, 0, none⟩) n n), VIs (.pointer (some ⟨gf, 2, none⟩)), VIs (.int .i64 ic), VIs (.pointer (some ⟨gu, ia, none⟩)), (fun _ _ => True), VIs (.pointer (some ⟨gu, ib, none⟩)), (fun _ _ => True), VIs (.pointer (some ⟨gu, ic, none⟩)), (fun _ _ => True)] [0, 0, 0, 0, 0, 0, 0, 0, 0, 0, 0, 0, 0, 0, 0] (by kernel_rfl) (by kernel_rfl) (by intro vs; simp only [putAll, Act.put, List.setIfInBounds_toArray, List.set_cons_zero, List.set_cons_succ, Nat.reduceAdd]; exact rfl) ?iv0 ?iv1 rfl ?iv2 ?iv3
      case iv1 => exact Stab.ok ⟨fun m v w w' _ _ h => h, fun m v w w' _ _ h => h, fun m v w w' _ _ h => h, fun m v w w' _ _ h => h, fun m v w w' _ _ h => h, fun m v w w' _ _ h => h, fun m v w w' _ _ h => h, fun m v w w' _ _ h => h, fun m v w w' _ _ h => h, fun m v w w' _ _ h => h, fun m v w w' _ _ h => h, fun m v w w' _ _ h => h, fun m v w w' _ _ h => h, fun m v w w' _ _ h => h, fun m v w w' _ _ h => h, trivial⟩
      case iv2 =>
        refine MOpsF.op (fun vs wx m k hmj hcl hI hk hf K hK => ?_) ?_
        · clear hf hcl
          replace hK := hide hK
          replace hI := hide hI
          go_wp2_with fail
          replace hK := hK.out (.slice (some ⟨gu, 0, none⟩) n n)
          simp only [Act.put, List.setIfInBounds_toArray, List.set_cons_zero, List.set_cons_succ, Nat.add_zero] at hK
          exact hK _ ((hI.out.same (by decide) (by decide) (by decide))) (Wrt.pure (World.grownBy.refl _ _)) (rfl)
        refine MOpsF.op (fun vs wx m k hmj hcl hI hk hf K hK => ?_) ?_
        · clear hf hcl
          replace hK := hide hK
          replace hI := hide hI
          go_wp2_with fail
          replace hK := hK.out (.pointer (some ⟨gf, 0, none⟩))
          simp only [Act.put, List.setIfInBounds_toArray, List.set_cons_zero, List.set_cons_succ, Nat.add_zero] at hK
          exact hK _ ((hI.out.same (by decide) (by decide) (by decide))) (Wrt.pure (World.grownBy.refl _ _)) (rfl)
        refine MOpsF.op (fun vs wx m k hmj hcl hI hk hf K hK => ?_) ?_
        · have e1 : vs 1 = .pointer (some ⟨gf, 0, none⟩) := hf 1 (by decide) (by kernel_rfl)
          clear hf hcl
          obtain ⟨z0, z1, z2⟩ := hI.2.1
          have c := z0.1
          clear z0 z1 z2
          replace hK := hide hK
          replace hI := hide hI
          rw [e1]
          replace e1 := hide e1
          go_wp2_with fail
          replace hK := hK.out (.int .i64 ia)
          simp only [Act.put, List.setIfInBounds_toArray, List.set_cons_zero, List.set_cons_succ, e1.out, Nat.add_zero] at hK
          exact hK _ ((hI.out.same (by decide) (by decide) (by decide))) (Wrt.pure (World.grownBy.refl _ _)) (rfl)
        refine MOpsF.op (fun vs wx m k hmj hcl hI hk hf K hK => ?_) ?_
        · clear hf hcl
          replace hK := hide hK
          replace hI := hide hI
          go_wp2_with fail
          replace hK := hK.out (.slice (some ⟨gu, 0, none⟩) n n)
          simp only [Act.put, List.setIfInBounds_toArray, List.set_cons_zero, List.set_cons_succ, Nat.add_zero] at hK
          exact hK _ ((hI.out.same (by decide) (by decide) (by decide))) (Wrt.pure (World.grownBy.refl _ _)) (rfl)
        refine MOpsF.op (fun vs wx m k hmj hcl hI hk hf K hK => ?_) ?_
        · clear hf hcl
          replace hK := hide hK
          replace hI := hide hI
          go_wp2_with fail
          replace hK := hK.out (.pointer (some ⟨gf, 1, none⟩))
          simp only [Act.put, List.setIfInBounds_toArray, List.set_cons_zero, List.set_cons_succ, Nat.add_zero] at hK
          exact hK _ ((hI.out.same (by decide) (by decide) (by decide))) (Wrt.pure (World.grownBy.refl _ _)) (rfl)
        refine MOpsF.op (fun vs wx m k hmj hcl hI hk hf K hK => ?_) ?_
        · have e4 : vs 4 = .pointer (some ⟨gf, 1, none⟩) := hf 4 (by decide) (by kernel_rfl)
          clear hf hcl
          obtain ⟨z0, z1, z2⟩ := hI.2.1
          have c := z1.1
          clear z0 z1 z2
          replace hK := hide hK
          replace hI := hide hI
          rw [e4]
          replace e4 := hide e4
          go_wp2_with fail
          replace hK := hK.out (.int .i64 ib)
          simp only [Act.put, List.setIfInBounds_toArray, List.set_cons_zero, List.set_cons_succ, e4.out, Nat.add_zero] at hK
          exact hK _ ((hI.out.same (by decide) (by decide) (by decide))) (Wrt.pure (World.grownBy.refl _ _)) (rfl)
        refine MOpsF.op (fun vs wx m k hmj hcl hI hk hf K hK => ?_) ?_
        · clear hf hcl
          replace hK := hide hK
          replace hI := hide hI
          go_wp2_with fail
          replace hK := hK.out (.slice (some ⟨gu, 0, none⟩) n n)
          simp only [Act.put, List.setIfInBounds_toArray, List.set_cons_zero, List.set_cons_succ, Nat.add_zero] at hK
          exact hK _ ((hI.out.same (by decide) (by decide) (by decide))) (Wrt.pure (World.grownBy.refl _ _)) (rfl)
        refine MOpsF.op (fun vs wx m k hmj hcl hI hk hf K hK => ?_) ?_
        · clear hf hcl
          replace hK := hide hK
          replace hI := hide hI
          go_wp2_with fail
          replace hK := hK.out (.pointer (some ⟨gf, 2, none⟩))
          simp only [Act.put, List.setIfInBounds_toArray, List.set_cons_zero, List.set_cons_succ, Nat.add_zero] at hK
          exact hK _ ((hI.out.same (by decide) (by decide) (by decide))) (Wrt.pure (World.grownBy.refl _ _)) (rfl)
        refine MOpsF.op (fun vs wx m k hmj hcl hI hk hf K hK => ?_) ?_
        · have e7 : vs 7 = .pointer (some ⟨gf, 2, none⟩) := hf 7 (by decide) (by kernel_rfl)
          clear hf hcl
          obtain ⟨z0, z1, z2⟩ := hI.2.1
          have c := z2.1
          clear z0 z1 z2
          replace hK := hide hK
          replace hI := hide hI
          rw [e7]
          replace e7 := hide e7
          go_wp2_with fail
          replace hK := hK.out (.int .i64 ic)
          simp only [Act.put, List.setIfInBounds_toArray, List.set_cons_zero, List.set_cons_succ, e7.out, Nat.add_zero] at hK
          exact hK _ ((hI.out.same (by decide) (by decide) (by decide))) (Wrt.pure (World.grownBy.refl _ _)) (rfl)
        refine MOpsF.op (fun vs wx m k hmj hcl hI hk hf K hK => ?_) ?_
        · have e0 : vs 0 = .slice (some ⟨gu, 0, none⟩) n n := hf 0 (by decide) (by kernel_rfl)
          have e2 : vs 2 = .int .i64 ia := hf 2 (by decide) (by kernel_rfl)
          clear hf hcl
          replace hK := hide hK
          replace hI := hide hI
          rw [e0, e2]
          replace e0 := hide e0
          replace e2 := hide e2
          go_wp2_with fail
          replace hK := hK.out (.pointer (some ⟨gu, ia, none⟩))
          simp only [Act.put, List.setIfInBounds_toArray, List.set_cons_zero, List.set_cons_succ, e0.out, e2.out, Nat.add_zero] at hK
          exact hK _ ((hI.out.same (by decide) (by decide) (by decide))) (Wrt.pure (World.grownBy.refl _ _)) (rfl)
        refine MOpsF.op (fun vs wx m k hmj hcl hI hk hf K hK => ?_) ?_
        · have e9 : vs 9 = .pointer (some ⟨gu, ia, none⟩) := hf 9 (by decide) (by kernel_rfl)
          clear hf hcl
          obtain ⟨⟨_, c⟩, fz⟩ := hI.cell hia
          have hgs := gr_set (World.grownBy.refl wx (some gu)) (p := ⟨gu, ia, none⟩) (.inl rfl) (.bool true)
          replace hgs := hide hgs
          replace hK := hide hK
          replace hI := hide hI
          rw [e9]
          replace e9 := hide e9
          go_wp2_with fail
          replace hK := hK.out (undef)
          simp only [Act.put, List.setIfInBounds_toArray, List.set_cons_zero, List.set_cons_succ, e9.out, Nat.add_zero] at hK
          exact hK _ ((hI.out.st0 hlo hia)) (Wrt.one hgs.out rfl) (trivial)
        refine MOpsF.op (fun vs wx m k hmj hcl hI hk hf K hK => ?_) ?_
        · have e3 : vs 3 = .slice (some ⟨gu, 0, none⟩) n n := hf 3 (by decide) (by kernel_rfl)
          have e5 : vs 5 = .int .i64 ib := hf 5 (by decide) (by kernel_rfl)
          clear hf hcl
          replace hK := hide hK
          replace hI := hide hI
          rw [e3, e5]
          replace e3 := hide e3
          replace e5 := hide e5
          go_wp2_with fail
          replace hK := hK.out (.pointer (some ⟨gu, ib, none⟩))
          simp only [Act.put, List.setIfInBounds_toArray, List.set_cons_zero, List.set_cons_succ, e3.out, e5.out, Nat.add_zero] at hK
          exact hK _ ((hI.out.same (by decide) (by decide) (by decide))) (Wrt.pure (World.grownBy.refl _ _)) (rfl)
        refine MOpsF.op (fun vs wx m k hmj hcl hI hk hf K hK => ?_) ?_
        · have e11 : vs 11 = .pointer (some ⟨gu, ib, none⟩) := hf 11 (by decide) (by kernel_rfl)
          clear hf hcl
          obtain ⟨⟨_, c⟩, fz⟩ := hI.cell hib
          have hgs := gr_set (World.grownBy.refl wx (some gu)) (p := ⟨gu, ib, none⟩) (.inl rfl) (.bool true)
          replace hgs := hide hgs
          replace hK := hide hK
          replace hI := hide hI
          rw [e11]
          replace e11 := hide e11
          go_wp2_with fail
          replace hK := hK.out (undef)
          simp only [Act.put, List.setIfInBounds_toArray, List.set_cons_zero, List.set_cons_succ, e11.out, Nat.add_zero] at hK
          exact hK _ ((hI.out.st1 hlo hib)) (Wrt.one hgs.out rfl) (trivial)
        refine MOpsF.op (fun vs wx m k hmj hcl hI hk hf K hK => ?_) ?_
        · have e6 : vs 6 = .slice (some ⟨gu, 0, none⟩) n n := hf 6 (by decide) (by kernel_rfl)
          have e8 : vs 8 = .int .i64 ic := hf 8 (by decide) (by kernel_rfl)
          clear hf hcl
          replace hK := hide hK
          replace hI := hide hI
          rw [e6, e8]
          replace e6 := hide e6
          replace e8 := hide e8
          go_wp2_with fail
          replace hK := hK.out (.pointer (some ⟨gu, ic, none⟩))
          simp only [Act.put, List.setIfInBounds_toArray, List.set_cons_zero, List.set_cons_succ, e6.out, e8.out, Nat.add_zero] at hK
          exact hK _ ((hI.out.same (by decide) (by decide) (by decide))) (Wrt.pure (World.grownBy.refl _ _)) (rfl)
        refine MOpsF.op (fun vs wx m k hmj hcl hI hk hf K hK => ?_) ?_
        · have e13 : vs 13 = .pointer (some ⟨gu, ic, none⟩) := hf 13 (by decide) (by kernel_rfl)
          clear hf hcl
          obtain ⟨⟨_, c⟩, fz⟩ := hI.cell hic
          have hgs := gr_set (World.grownBy.refl wx (some gu)) (p := ⟨gu, ic, none⟩) (.inl rfl) (.bool true)
          replace hgs := hide hgs
          replace hK := hide hK
          replace hI := hide hI
          rw [e13]
          replace e13 := hide e13
          go_wp2_with fail
          replace hK := hK.out (undef)
          simp only [Act.put, List.setIfInBounds_toArray, List.set_cons_zero, List.set_cons_succ, e13.out, Nat.add_zero] at hK
          exact hK _ ((hI.out.st2 hlo hic)) (Wrt.one hgs.out rfl) (trivial)
        exact MOpsF.done
      case iv0 => exact fun m hm => hI0.out m ⟨hm 10 (by decide), hm 12 (by decide), hm 14 (by decide)⟩
      case iv3 =>
        intro vs' w9 m hm' hI hf
        have e10 := hm' 10 (by decide)
        have e12 := hm' 12 (by decide)
        have e14 := hm' 14 (by decide)
        obtain ⟨k1, -, l, hl, hL', ho, hv⟩ := hI
        rw [e10, e12, e14] at hv
        have hl2 := hst.out l hl hL.out hv
        subst hl2
        clear hf hm' hI0 hst hv hL hlo e10 e12 e14
        rw [hlow.out] at ho
        obtain rfl := hgu.out
        obtain rfl := hgf.out
        go_wp2_with fail
        (go_roundw; (case rel => exact ⟨k + 1, by omega, by go_num, ho, gr_trans hgW k1⟩); (case measure => simp [intOf]; omega))
    · have hkn : k = fs.length := by omega
      subst hkn
      rw [List.take_length] at hown
      go_wp2_with fail
      go_ret
      exact ⟨w.heap.size + 1, rfl, hown.lower (by omega), hgr⟩

end Go.Proofs.Ytjodjdjfagjiaaa

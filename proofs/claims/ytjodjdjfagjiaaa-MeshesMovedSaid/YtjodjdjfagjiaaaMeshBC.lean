/- Contracts of functions that this seat's laws reach, each: what one call returns and what it leaves in memory; no condition beyond each theorem's own hypotheses. -/
import Derived.Test.YtjodjdjfagjiaaaMeshBB
set_option linter.unusedVariables false
set_option linter.unusedSimpArgs false
namespace Go.Proofs.Ytjodjdjfagjiaaa
open Go.RowKit Go.Bl

def turnV (axis : Int) : Nat → V3 → V3
  | 0, v => v
  | k + 1, v => qV axis (turnV axis k v)
theorem turnV_bd {axis : Int} {v : V3} {K : Int} (h : Bd K v) : ∀ k, Bd K (turnV axis k v)
  | 0 => h
  | k + 1 => qV_bd (turnV_bd h k)

/-- the closure's box of v and that of its result, over the world w -/

def VAt (w : World) (g : Nat) (v : V3) : Prop := Cell w g 0 (.int .i64 v.x) ∧ Cell w g 1 (.int .i64 v.y) ∧ Cell w g 2 (.int .i64 v.z)
theorem VAt.gr {w w' : World} {g : Nat} {v : V3} {r : Option Nat} (h : VAt w g v) (hg : w.grownBy w' r) (hr : r ≠ some g) : VAt w' g v := ⟨h.1.gr hg hr, h.2.1.gr hg hr, h.2.2.gr hg hr⟩
theorem VAt.set3 {w : World} {g : Nat} {v : V3} (h : VAt w g v) (u : V3) : VAt (((w.setCell ⟨g, 0, none⟩ (.int .i64 u.x)).setCell ⟨g, 1, none⟩ (.int .i64 u.y)).setCell ⟨g, 2, none⟩ (.int .i64 u.z)) g u :=
  ⟨((h.1.set_ _).set_ne _ (by decide)).set_ne _ (by decide), ((h.2.1.set_ne _ (by decide)).set_ _).set_ne _ (by decide), ((h.2.2.set_ne _ (by decide)).set_ne _ (by decide)).set_ _⟩
theorem gr_setV {w w1 : World} {g : Nat} (h : w.grownBy w1 none) (hg : w.heap.size ≤ g) (a b c : Value) : w.grownBy (((w1.setCell ⟨g, 0, none⟩ a).setCell ⟨g, 1, none⟩ b).setCell ⟨g, 2, none⟩ c) none :=
  gr_set (gr_set (gr_set h (.inr hg) _) (.inr hg) _) (.inr hg) _

def ups (v : V3) (o : Nat) (a : Int) : V3 := if o = 0 then ⟨a, v.y, v.z⟩ else if o = 1 then ⟨v.x, a, v.z⟩ else ⟨v.x, v.y, a⟩
theorem VAt.up {w : World} {g : Nat} {v : V3} (h : VAt w g v) {o : Nat} (a : Int) (ho : o < 3) : VAt (w.setCell ⟨g, o, none⟩ (.int .i64 a)) g (ups v o a) := by
  have : o = 0 ∨ o = 1 ∨ o = 2 := by omega
  obtain ⟨h1, h2, h3⟩ := h
  rcases this with rfl | rfl | rfl
  · exact ⟨h1.set_ _, h2.set_ne _ (by decide), h3.set_ne _ (by decide)⟩
  · exact ⟨h1.set_ne _ (by decide), h2.set_ _, h3.set_ne _ (by decide)⟩
  · exact ⟨h1.set_ne _ (by decide), h2.set_ne _ (by decide), h3.set_ _⟩

set_option maxHeartbeats 1000000 in
set_option maxRecDepth 100000 in
theorem turnClo_any (gq ga n : Nat) (axis : Int) (v : V3) (w : World) (hv : Bd 100000 v) (hn : n ≤ 3) (bq : w.cell? ⟨gq, 0, none⟩ = some (.int .i64 n)) (ba : w.cell? ⟨ga, 0, none⟩ = some (.int .i64 axis)) :
    Calls Try.prog 65 #[.agg #[.int .i64 v.x, .int .i64 v.y, .int .i64 v.z], .pointer (some ⟨gq, 0, none⟩), .pointer (some ⟨ga, 0, none⟩)] w fun e w' =>
      e = .returned (.agg #[.int .i64 (turnV axis n v).x, .int .i64 (turnV axis n v).y, .int .i64 (turnV axis n v).z]) ∧ w.grownBy w' none := by
  have hbq := cell_lt bq
  have hba := cell_lt ba
  simp only at hbq hba
  obtain ⟨W, hW⟩ : ∃ W, W = (w.alloc (.cells #[.int .i64 v.x, .int .i64 v.y, .int .i64 v.z] 49)).alloc (.cells #[.int .i64 0, .int .i64 0, .int .i64 0] 49) := ⟨_, rfl⟩
  have hlt0 : w.heap.size < w.heap.size + 1 := Nat.lt_succ_self _
  have hg0 : w.grownBy W none := by rw [hW]; exact (by repeat (first | exact World.grownBy.refl _ _ | assumption | refine gr_alloc ?_ _ | (apply gr_tail; assumption) | refine gr_drewN ?_ _ | refine gr_drew ?_))
  have v0 : Cell W w.heap.size 0 (.int .i64 v.x) := by rw [hW]; exact ⟨by go_simp, by go_simp⟩
  have v1 : Cell W w.heap.size 1 (.int .i64 v.y) := by rw [hW]; exact ⟨by go_simp, by go_simp⟩
  have v2 : Cell W w.heap.size 2 (.int .i64 v.z) := by rw [hW]; exact ⟨by go_simp, by go_simp⟩
  have r0 : Cell W (w.heap.size + 1) 0 (.int .i64 0) := by rw [hW]; exact ⟨by go_simp, by go_simp⟩
  have r1 : Cell W (w.heap.size + 1) 1 (.int .i64 0) := by rw [hW]; exact ⟨by go_simp, by go_simp⟩
  have r2 : Cell W (w.heap.size + 1) 2 (.int .i64 0) := by rw [hW]; exact ⟨by go_simp, by go_simp⟩
  replace hW := hide hW.symm
  have hlim : n ≤ 3 := hn
  have VV : VAt W w.heap.size v := ⟨v0, v1, v2⟩
  have RR : VAt W (w.heap.size + 1) ⟨0, 0, 0⟩ := ⟨r0, r1, r2⟩
  have bqW := hide (hg0.k bq)
  have baW := hide (hg0.k ba)
  have hbq2 : gq < w.heap.size + 1 := by omega
  have hba2 : ga < w.heap.size + 1 := by omega
  clear v0 v1 v2 r0 r1 r2
  replace VV := hide VV
  replace RR := hide RR
  have hlw := hg0.size
  go_enter Try.func65, Try.ntmps65
  go_wp2_with fail
  rw [hW.out]
  clear hW
  go_loopw [6] (fun i wr => ∃ k : Nat, k ≤ n ∧ i = .int .i64 k ∧ VAt wr w.heap.size (turnV axis k v) ∧ VAt wr (w.heap.size + 1) ⟨0, 0, 0⟩ ∧ w.grownBy wr none ∧ wr.cell? ⟨gq, 0, none⟩ = some (.int .i64 n) ∧ wr.cell? ⟨ga, 0, none⟩ = some (.int .i64 axis)) (fun i _ => n - (intOf i).toNat)
  case atStart => exact ⟨0, by omega, rfl, VV.out, RR.out, hg0, bqW.out, baW.out⟩
  case round =>
    obtain ⟨k, hk, rfl, VV, RR, hg, dq, da⟩ := hrel
    clear hg0 bq ba
    have hbd := turnV_bd (axis := axis) hv k
    by_cases hlt : k < n
    · have hT : Hid (turnV axis (k + 1) v = qV axis (turnV axis k v)) := rfl
      generalize turnV axis k v = u at *
      obtain ⟨⟨x0, y0⟩, ⟨x1, y1⟩, ⟨x2, y2⟩⟩ := id VV
      have hlt1 := cell_lt x0
      have hlt2 := RR.1.lt
      simp only at hlt1
      go_wp2_with fail
      refine (quarter_any u axis _ hbd).mono ?_
      rintro e w1 ⟨rfl, hg1⟩
      have hV1 := VV.gr hg1 (by simp)
      have hR1 := RR.gr hg1 (by simp)
      replace dq := hg1.k dq
      replace da := hg1.k da
      have hg2 := gr_trans hg hg1
      clear x0 y0 x1 y1 x2 y2
      obtain ⟨⟨x0, y0⟩, ⟨x1, y1⟩, ⟨x2, y2⟩⟩ := id hV1
      have hS := hide (hV1.set3 (qV axis u))
      have hgs := fun a b c => gr_set (gr_set (gr_set (World.grownBy.refl w1 (some w.heap.size)) (p := ⟨w.heap.size, 0, none⟩) (.inl rfl) a) (p := ⟨w.heap.size, 1, none⟩) (.inl rfl) b) (p := ⟨w.heap.size, 2, none⟩) (.inl rfl) c
      have hgs := hide hgs
      have hR1 := hide hR1
      clear hV1
      generalize qV axis u = t at *
      go_wp2_with fail
      (go_roundw; (case rel => exact ⟨k + 1, by omega, by go_num, by rw [hT.out]; exact hS.out, hR1.out.gr (hgs.out _ _ _) (by simp), gr_setV hg2 (Nat.le_refl _) _ _ _, gr_cell (hgs.out _ _ _) dq (by simp; omega), gr_cell (hgs.out _ _ _) da (by simp; omega)⟩); (case measure => simp [intOf]; omega))
    · have hkn : k = n := by omega
      subst hkn
      obtain ⟨⟨x0, y0⟩, ⟨x1, y1⟩, ⟨x2, y2⟩⟩ := VV
      obtain ⟨⟨z0, f0⟩, ⟨z1, f1⟩, ⟨z2, f2⟩⟩ := RR
      go_wp2_with fail
      exact bodyPost_ret (v := .agg #[.int .i64 (turnV axis k v).x, .int .i64 (turnV axis k v).y, .int .i64 (turnV axis k v).z]) (by simp [results, Try.results65, go_sem, z0, z1, z2, f0, f1, f2]) rfl ⟨rfl, gr_setV hg (Nat.le_succ _) _ _ _⟩

set_option maxHeartbeats 1000000 in
set_option maxRecDepth 100000 in
theorem turnRef_any (gq ga n : Nat) (axis : Int) (v : V3) (w : World) (hv : Bd 100000 v) (hn : n ≤ 3) (bq : w.cell? ⟨gq, 0, none⟩ = some (.int .i64 n)) (ba : w.cell? ⟨ga, 0, none⟩ = some (.int .i64 axis)) :
    Calls Try.prog 71 #[.agg #[.int .i64 v.x, .int .i64 v.y, .int .i64 v.z], .pointer (some ⟨gq, 0, none⟩), .pointer (some ⟨ga, 0, none⟩)] w fun e w' =>
      e = .returned (.agg #[.int .i64 (turnV axis n v).x, .int .i64 (turnV axis n v).y, .int .i64 (turnV axis n v).z]) ∧ w.grownBy w' none := by
  have hbq := cell_lt bq
  have hba := cell_lt ba
  simp only at hbq hba
  obtain ⟨W, hW⟩ : ∃ W, W = (w.alloc (.cells #[.int .i64 v.x, .int .i64 v.y, .int .i64 v.z] 49)).alloc (.cells #[.int .i64 0, .int .i64 0, .int .i64 0] 49) := ⟨_, rfl⟩
  have hlt0 : w.heap.size < w.heap.size + 1 := Nat.lt_succ_self _
  have hg0 : w.grownBy W none := by rw [hW]; exact (by repeat (first | exact World.grownBy.refl _ _ | assumption | refine gr_alloc ?_ _ | (apply gr_tail; assumption) | refine gr_drewN ?_ _ | refine gr_drew ?_))
  have v0 : Cell W w.heap.size 0 (.int .i64 v.x) := by rw [hW]; exact ⟨by go_simp, by go_simp⟩
  have v1 : Cell W w.heap.size 1 (.int .i64 v.y) := by rw [hW]; exact ⟨by go_simp, by go_simp⟩
  have v2 : Cell W w.heap.size 2 (.int .i64 v.z) := by rw [hW]; exact ⟨by go_simp, by go_simp⟩
  have r0 : Cell W (w.heap.size + 1) 0 (.int .i64 0) := by rw [hW]; exact ⟨by go_simp, by go_simp⟩
  have r1 : Cell W (w.heap.size + 1) 1 (.int .i64 0) := by rw [hW]; exact ⟨by go_simp, by go_simp⟩
  have r2 : Cell W (w.heap.size + 1) 2 (.int .i64 0) := by rw [hW]; exact ⟨by go_simp, by go_simp⟩
  replace hW := hide hW.symm
  have hlim : n ≤ 3 := hn
  have VV : VAt W w.heap.size v := ⟨v0, v1, v2⟩
  have RR : VAt W (w.heap.size + 1) ⟨0, 0, 0⟩ := ⟨r0, r1, r2⟩
  have bqW := hide (hg0.k bq)
  have baW := hide (hg0.k ba)
  have hbq2 : gq < w.heap.size + 1 := by omega
  have hba2 : ga < w.heap.size + 1 := by omega
  clear v0 v1 v2 r0 r1 r2
  replace VV := hide VV
  replace RR := hide RR
  have hlw := hg0.size
  go_enter Try.func71, Try.ntmps71
  go_wp2_with fail
  rw [hW.out]
  clear hW
  go_loopw [6] (fun i wr => ∃ k : Nat, k ≤ n ∧ i = .int .i64 k ∧ VAt wr w.heap.size (turnV axis k v) ∧ VAt wr (w.heap.size + 1) ⟨0, 0, 0⟩ ∧ w.grownBy wr none ∧ wr.cell? ⟨gq, 0, none⟩ = some (.int .i64 n) ∧ wr.cell? ⟨ga, 0, none⟩ = some (.int .i64 axis)) (fun i _ => n - (intOf i).toNat)
  case atStart => exact ⟨0, by omega, rfl, VV.out, RR.out, hg0, bqW.out, baW.out⟩
  case round =>
    obtain ⟨k, hk, rfl, VV, RR, hg, dq, da⟩ := hrel
    clear hg0 bq ba
    have hbd := turnV_bd (axis := axis) hv k
    by_cases hlt : k < n
    · have hT : Hid (turnV axis (k + 1) v = qV axis (turnV axis k v)) := rfl
      generalize turnV axis k v = u at *
      obtain ⟨⟨x0, y0⟩, ⟨x1, y1⟩, ⟨x2, y2⟩⟩ := id VV
      have hlt1 := cell_lt x0
      have hlt2 := RR.1.lt
      simp only at hlt1
      obtain ⟨⟨u1, u2⟩, ⟨u3, u4⟩, u5, u6⟩ := hbd
      have hle := hg.size
      by_cases a0 : axis = 0
      · replace hT := hide (show turnV axis (k + 1) v = ⟨u.x, -u.z, u.y⟩ by rw [hT.out]; unfold qV; rw [if_pos a0])
        subst a0
        go_wp2_with fail
        have hgx := fun (o1 o2 : Nat) (a1 a2 : Value) => gr_set (gr_set (World.grownBy.refl wr (some w.heap.size)) (p := ⟨w.heap.size, o1, none⟩) (.inl rfl) a1) (p := ⟨w.heap.size, o2, none⟩) (.inl rfl) a2
        have hgx := hide hgx
        (go_roundw; (case rel => exact ⟨k + 1, by omega, by go_num, by rw [hT.out]; exact (show VAt _ _ (ups (ups u 1 (-u.z)) 2 (u.y)) from (VV.up (-u.z) (by decide)).up (u.y) (by decide)), RR.gr (hgx.out _ _ _ _) (by simp), gr_row hg (hgx.out _ _ _ _) (fun g e => by injection e; omega), gr_cell (hgx.out _ _ _ _) dq (by simp; omega), gr_cell (hgx.out _ _ _ _) da (by simp; omega)⟩); (case measure => simp [intOf]; omega))
      · by_cases a1 : axis = 1
        · replace hT := hide (show turnV axis (k + 1) v = ⟨u.z, u.y, -u.x⟩ by rw [hT.out]; unfold qV; rw [if_neg a0, if_pos a1])
          subst a1
          go_wp2_with fail
          have hgx := fun (o1 o2 : Nat) (a1 a2 : Value) => gr_set (gr_set (World.grownBy.refl wr (some w.heap.size)) (p := ⟨w.heap.size, o1, none⟩) (.inl rfl) a1) (p := ⟨w.heap.size, o2, none⟩) (.inl rfl) a2
          have hgx := hide hgx
          (go_roundw; (case rel => exact ⟨k + 1, by omega, by go_num, by rw [hT.out]; exact (show VAt _ _ (ups (ups u 2 (-u.x)) 0 (u.z)) from (VV.up (-u.x) (by decide)).up (u.z) (by decide)), RR.gr (hgx.out _ _ _ _) (by simp), gr_row hg (hgx.out _ _ _ _) (fun g e => by injection e; omega), gr_cell (hgx.out _ _ _ _) dq (by simp; omega), gr_cell (hgx.out _ _ _ _) da (by simp; omega)⟩); (case measure => simp [intOf]; omega))
        · replace hT := hide (show turnV axis (k + 1) v = ⟨-u.y, u.x, u.z⟩ by rw [hT.out]; unfold qV; rw [if_neg a0, if_neg a1])
          have hb0 : (axis == 0) = false := beq_eq_false_iff_ne.2 a0
          have hb1 : (axis == 1) = false := beq_eq_false_iff_ne.2 a1
          clear a0 a1
          go_wp2_with fail
          have hgx := fun (o1 o2 : Nat) (a1 a2 : Value) => gr_set (gr_set (World.grownBy.refl wr (some w.heap.size)) (p := ⟨w.heap.size, o1, none⟩) (.inl rfl) a1) (p := ⟨w.heap.size, o2, none⟩) (.inl rfl) a2
          have hgx := hide hgx
          (go_roundw; (case rel => exact ⟨k + 1, by omega, by go_num, by rw [hT.out]; exact (show VAt _ _ (ups (ups u 0 (-u.y)) 1 (u.x)) from (VV.up (-u.y) (by decide)).up (u.x) (by decide)), RR.gr (hgx.out _ _ _ _) (by simp), gr_row hg (hgx.out _ _ _ _) (fun g e => by injection e; omega), gr_cell (hgx.out _ _ _ _) dq (by simp; omega), gr_cell (hgx.out _ _ _ _) da (by simp; omega)⟩); (case measure => simp [intOf]; omega))
    · have hkn : k = n := by omega
      subst hkn
      obtain ⟨⟨x0, y0⟩, ⟨x1, y1⟩, ⟨x2, y2⟩⟩ := VV
      obtain ⟨⟨z0, f0⟩, ⟨z1, f1⟩, ⟨z2, f2⟩⟩ := RR
      go_wp2_with fail
      exact bodyPost_ret (v := .agg #[.int .i64 (turnV axis k v).x, .int .i64 (turnV axis k v).y, .int .i64 (turnV axis k v).z]) (by simp [results, Try.results71, go_sem, z0, z1, z2, f0, f1, f2]) rfl ⟨rfl, gr_setV hg (Nat.le_succ _) _ _ _⟩

def moveV (t v : V3) : V3 := ⟨v.x + t.x, v.y + t.y, v.z + t.z⟩
def clampV (t : V3) : V3 := ⟨clampI t.x, clampI t.y, clampI t.z⟩

set_option maxHeartbeats 1000000 in
set_option maxRecDepth 100000 in
theorem moveClo_any (gb : Nat) (t v : V3) (w : World) (hv : Bd 100000 v) (b0 : w.cell? ⟨gb, 0, none⟩ = some (.int .i64 t.x)) (b1 : w.cell? ⟨gb, 1, none⟩ = some (.int .i64 t.y)) (b2 : w.cell? ⟨gb, 2, none⟩ = some (.int .i64 t.z)) :
    Calls Try.prog 67 #[.agg #[.int .i64 v.x, .int .i64 v.y, .int .i64 v.z], .pointer (some ⟨gb, 0, none⟩)] w fun e w' =>
      e = .returned (.agg #[.int .i64 (moveV (clampV t) v).x, .int .i64 (moveV (clampV t) v).y, .int .i64 (moveV (clampV t) v).z]) ∧ w.grownBy w' none := by
  have hbq := cell_lt b0
  simp only at hbq
  obtain ⟨W, hW⟩ : ∃ W, W = (w.alloc (.cells #[.int .i64 v.x, .int .i64 v.y, .int .i64 v.z] 49)).alloc (.cells #[.int .i64 0, .int .i64 0, .int .i64 0] 49) := ⟨_, rfl⟩
  have hlt0 : w.heap.size < w.heap.size + 1 := Nat.lt_succ_self _
  have hg0 : w.grownBy W none := by rw [hW]; exact (by repeat (first | exact World.grownBy.refl _ _ | assumption | refine gr_alloc ?_ _ | (apply gr_tail; assumption) | refine gr_drewN ?_ _ | refine gr_drew ?_))
  have v0 : Cell W w.heap.size 0 (.int .i64 v.x) := by rw [hW]; exact ⟨by go_simp, by go_simp⟩
  have v1 : Cell W w.heap.size 1 (.int .i64 v.y) := by rw [hW]; exact ⟨by go_simp, by go_simp⟩
  have v2 : Cell W w.heap.size 2 (.int .i64 v.z) := by rw [hW]; exact ⟨by go_simp, by go_simp⟩
  have r0 : Cell W (w.heap.size + 1) 0 (.int .i64 0) := by rw [hW]; exact ⟨by go_simp, by go_simp⟩
  have r1 : Cell W (w.heap.size + 1) 1 (.int .i64 0) := by rw [hW]; exact ⟨by go_simp, by go_simp⟩
  have r2 : Cell W (w.heap.size + 1) 2 (.int .i64 0) := by rw [hW]; exact ⟨by go_simp, by go_simp⟩
  replace hW := hide hW.symm
  have hlw := hg0.size
  replace b0 := hg0.k b0
  replace b1 := hg0.k b1
  replace b2 := hg0.k b2
  obtain ⟨h1, h2, h3⟩ := hv
  have hr : Hid (moveV (clampV t) v = ⟨v.x + clampI t.x, v.y + clampI t.y, v.z + clampI t.z⟩) := rfl
  go_enter Try.func67, Try.ntmps67
  go_wp2_with fail
  rw [hW.out]
  clear hW
  refine wp_region_fix 16 ((fun wx => W.grownBy wx none)) (by kernel_rfl) (by kernel_rfl) (gr_drew (World.grownBy.refl _ _)) ?_
  simp only [List.take_succ_cons, List.take_zero, List.drop_succ_cons, List.drop_zero]
  iterate 4 ((refine fix_b (fun K hK => ?_); apply Exists.intro; refine ⟨fun wx hC K' hK' => ?_, ?_⟩; (focus (replace hK' := hide hK'; (have d0 := hC.k v0.1; have d1 := hC.k v1.1; have d2 := hC.k v2.1; have e0 := hC.k b0; have e1 := hC.k b1; have e2 := hC.k b2); go_wp2_with fail; exact hK'.out _ hC)); go_simp; refine hK _ ?_; clear hK K))
  (refine fix_b (fun K hK => ?_); apply Exists.intro; refine ⟨fun wx hC K' hK' => ?_, ?_⟩; (focus (replace hK' := hide hK'; skip; go_wp2_with fail; (refine (added_any v.x t.x _ h1).mono ?_; rintro e w' ⟨rfl, rfl⟩; go_wp2_with fail; exact hK'.out _ hC))); go_simp; refine hK _ ?_; clear hK K)
  iterate 4 ((refine fix_b (fun K hK => ?_); apply Exists.intro; refine ⟨fun wx hC K' hK' => ?_, ?_⟩; (focus (replace hK' := hide hK'; (have d0 := hC.k v0.1; have d1 := hC.k v1.1; have d2 := hC.k v2.1; have e0 := hC.k b0; have e1 := hC.k b1; have e2 := hC.k b2); go_wp2_with fail; exact hK'.out _ hC)); go_simp; refine hK _ ?_; clear hK K))
  (refine fix_b (fun K hK => ?_); apply Exists.intro; refine ⟨fun wx hC K' hK' => ?_, ?_⟩; (focus (replace hK' := hide hK'; skip; go_wp2_with fail; (refine (added_any v.y t.y _ h2).mono ?_; rintro e w' ⟨rfl, rfl⟩; go_wp2_with fail; exact hK'.out _ hC))); go_simp; refine hK _ ?_; clear hK K)
  iterate 4 ((refine fix_b (fun K hK => ?_); apply Exists.intro; refine ⟨fun wx hC K' hK' => ?_, ?_⟩; (focus (replace hK' := hide hK'; (have d0 := hC.k v0.1; have d1 := hC.k v1.1; have d2 := hC.k v2.1; have e0 := hC.k b0; have e1 := hC.k b1; have e2 := hC.k b2); go_wp2_with fail; exact hK'.out _ hC)); go_simp; refine hK _ ?_; clear hK K))
  (refine fix_b (fun K hK => ?_); apply Exists.intro; refine ⟨fun wx hC K' hK' => ?_, ?_⟩; (focus (replace hK' := hide hK'; skip; go_wp2_with fail; (refine (added_any v.z t.z _ h3).mono ?_; rintro e w' ⟨rfl, rfl⟩; go_wp2_with fail; exact hK'.out _ hC))); go_simp; refine hK _ ?_; clear hK K)
  (refine fix_b (fun K hK => ?_); apply Exists.intro; refine ⟨fun wx hC K' hK' => ?_, ?_⟩; (focus (replace hK' := hide hK'; skip; go_wp2_with fail; exact hK'.out _ hC)); go_simp; refine hK _ ?_; clear hK K)
  refine fix_nil ?_
  intro wz hC
  obtain ⟨z0, f0⟩ := r0.gr hC (by simp)
  obtain ⟨z1, f1⟩ := r1.gr hC (by simp)
  obtain ⟨z2, f2⟩ := r2.gr hC (by simp)
  have hg2 := gr_trans hg0 hC
  go_wp2_with fail
  exact bodyPost_ret (v := .agg #[.int .i64 (v.x + clampI t.x), .int .i64 (v.y + clampI t.y), .int .i64 (v.z + clampI t.z)]) (by simp [results, Try.results67, go_sem, z0, z1, z2, f0, f1, f2]) rfl ⟨rfl, gr_setV hg2 (Nat.le_succ _) _ _ _⟩

set_option maxHeartbeats 1000000 in
set_option maxRecDepth 100000 in
theorem moveRef_any (gb : Nat) (t v : V3) (w : World) (hv : Bd 100000 v) (ht : Bd 300000 t) (b0 : w.cell? ⟨gb, 0, none⟩ = some (.int .i64 t.x)) (b1 : w.cell? ⟨gb, 1, none⟩ = some (.int .i64 t.y)) (b2 : w.cell? ⟨gb, 2, none⟩ = some (.int .i64 t.z)) :
    Calls Try.prog 72 #[.agg #[.int .i64 v.x, .int .i64 v.y, .int .i64 v.z], .pointer (some ⟨gb, 0, none⟩)] w fun e w' =>
      e = .returned (.agg #[.int .i64 (moveV t v).x, .int .i64 (moveV t v).y, .int .i64 (moveV t v).z]) ∧ w.grownBy w' none := by
  have hbq := cell_lt b0
  simp only at hbq
  have hbq2 : gb < w.heap.size + 1 := by omega
  obtain ⟨⟨h1, h2⟩, ⟨h3, h4⟩, h5, h6⟩ := hv
  obtain ⟨⟨t1, t2⟩, ⟨t3, t4⟩, t5, t6⟩ := ht
  have hr : Hid (moveV t v = ⟨v.x + t.x, v.y + t.y, v.z + t.z⟩) := rfl
  go_enter Try.func72, Try.ntmps72
  go_wp2_with fail
  have hgs := gr_alloc (gr_alloc (r := none) (World.grownBy.refl w none) (.cells #[.int .i64 v.x, .int .i64 v.y, .int .i64 v.z] 49)) (.cells #[.int .i64 (v.x + t.x), .int .i64 (v.y + t.y), .int .i64 (v.z + t.z)] 49)
  exact bodyPost_ret (v := .agg #[.int .i64 (v.x + t.x), .int .i64 (v.y + t.y), .int .i64 (v.z + t.z)]) (by simp [results, Try.results72, go_sem]) rfl ⟨by rw [hr.out], hgs⟩

def mirV (axis : Int) (v : V3) : V3 := if axis = 0 then ⟨-v.x, v.y, v.z⟩ else if axis = 1 then ⟨v.x, -v.y, v.z⟩ else ⟨v.x, v.y, -v.z⟩

set_option maxHeartbeats 1000000 in
theorem mirClo_any (ga : Nat) (axis : Int) (v : V3) (w : World) (hv : Bd 100000 v) (ba : w.cell? ⟨ga, 0, none⟩ = some (.int .i64 axis)) :
    Calls Try.prog 69 #[.agg #[.int .i64 v.x, .int .i64 v.y, .int .i64 v.z], .pointer (some ⟨ga, 0, none⟩)] w fun e w' =>
      e = .returned (.agg #[.int .i64 (mirV axis v).x, .int .i64 (mirV axis v).y, .int .i64 (mirV axis v).z]) ∧ w.grownBy w' none := by
  have hbq := cell_lt ba
  simp only at hbq
  have hbq2 : ga < w.heap.size + 1 := by omega
  obtain ⟨⟨h1, h2⟩, ⟨h3, h4⟩, h5, h6⟩ := hv
  by_cases a0 : axis = 0
  · have hq : Hid (mirV axis v = ⟨-v.x, v.y, v.z⟩) := by rw [Hid]; unfold mirV; rw [if_pos a0]
    subst a0
    go_enter Try.func69, Try.ntmps69
    go_wp2_with fail
    have hgs := gr_alloc (gr_alloc (r := none) (World.grownBy.refl w none) (.cells #[.int .i64 ((⟨-v.x, v.y, v.z⟩ : V3)).x, .int .i64 ((⟨-v.x, v.y, v.z⟩ : V3)).y, .int .i64 ((⟨-v.x, v.y, v.z⟩ : V3)).z] 49)) (.cells #[.int .i64 ((⟨-v.x, v.y, v.z⟩ : V3)).x, .int .i64 ((⟨-v.x, v.y, v.z⟩ : V3)).y, .int .i64 ((⟨-v.x, v.y, v.z⟩ : V3)).z] 49)
    exact bodyPost_ret (v := .agg #[.int .i64 ((⟨-v.x, v.y, v.z⟩ : V3)).x, .int .i64 ((⟨-v.x, v.y, v.z⟩ : V3)).y, .int .i64 ((⟨-v.x, v.y, v.z⟩ : V3)).z]) (by simp [results, Try.results69, go_sem]) rfl ⟨by rw [hq.out], hgs⟩
  · by_cases a1 : axis = 1
    · have hq : Hid (mirV axis v = ⟨v.x, -v.y, v.z⟩) := by rw [Hid]; unfold mirV; rw [if_neg a0, if_pos a1]
      subst a1
      go_enter Try.func69, Try.ntmps69
      go_wp2_with fail
      have hgs := gr_alloc (gr_alloc (r := none) (World.grownBy.refl w none) (.cells #[.int .i64 ((⟨v.x, -v.y, v.z⟩ : V3)).x, .int .i64 ((⟨v.x, -v.y, v.z⟩ : V3)).y, .int .i64 ((⟨v.x, -v.y, v.z⟩ : V3)).z] 49)) (.cells #[.int .i64 ((⟨v.x, -v.y, v.z⟩ : V3)).x, .int .i64 ((⟨v.x, -v.y, v.z⟩ : V3)).y, .int .i64 ((⟨v.x, -v.y, v.z⟩ : V3)).z] 49)
      exact bodyPost_ret (v := .agg #[.int .i64 ((⟨v.x, -v.y, v.z⟩ : V3)).x, .int .i64 ((⟨v.x, -v.y, v.z⟩ : V3)).y, .int .i64 ((⟨v.x, -v.y, v.z⟩ : V3)).z]) (by simp [results, Try.results69, go_sem]) rfl ⟨by rw [hq.out], hgs⟩
    · have hq : Hid (mirV axis v = ⟨v.x, v.y, -v.z⟩) := by rw [Hid]; unfold mirV; rw [if_neg a0, if_neg a1]
      have hb0 : (axis == 0) = false := beq_eq_false_iff_ne.2 a0
      have hb1 : (axis == 1) = false := beq_eq_false_iff_ne.2 a1
      clear a0 a1
      go_enter Try.func69, Try.ntmps69
      go_wp2_with fail
      have hgs := gr_alloc (gr_alloc (r := none) (World.grownBy.refl w none) (.cells #[.int .i64 ((⟨v.x, v.y, -v.z⟩ : V3)).x, .int .i64 ((⟨v.x, v.y, -v.z⟩ : V3)).y, .int .i64 ((⟨v.x, v.y, -v.z⟩ : V3)).z] 49)) (.cells #[.int .i64 ((⟨v.x, v.y, -v.z⟩ : V3)).x, .int .i64 ((⟨v.x, v.y, -v.z⟩ : V3)).y, .int .i64 ((⟨v.x, v.y, -v.z⟩ : V3)).z] 49)
      exact bodyPost_ret (v := .agg #[.int .i64 ((⟨v.x, v.y, -v.z⟩ : V3)).x, .int .i64 ((⟨v.x, v.y, -v.z⟩ : V3)).y, .int .i64 ((⟨v.x, v.y, -v.z⟩ : V3)).z]) (by simp [results, Try.results69, go_sem]) rfl ⟨by rw [hq.out], hgs⟩

set_option maxHeartbeats 1000000 in
theorem mirRef_any (ga : Nat) (axis : Int) (v : V3) (w : World) (hv : Bd 100000 v) (ba : w.cell? ⟨ga, 0, none⟩ = some (.int .i64 axis)) :
    Calls Try.prog 74 #[.agg #[.int .i64 v.x, .int .i64 v.y, .int .i64 v.z], .pointer (some ⟨ga, 0, none⟩)] w fun e w' =>
      e = .returned (.agg #[.int .i64 (mirV axis v).x, .int .i64 (mirV axis v).y, .int .i64 (mirV axis v).z]) ∧ w.grownBy w' none := by
  have hbq := cell_lt ba
  simp only at hbq
  have hbq2 : ga < w.heap.size + 1 := by omega
  obtain ⟨⟨h1, h2⟩, ⟨h3, h4⟩, h5, h6⟩ := hv
  by_cases a0 : axis = 0
  · have hq : Hid (mirV axis v = ⟨-v.x, v.y, v.z⟩) := by rw [Hid]; unfold mirV; rw [if_pos a0]
    subst a0
    go_enter Try.func74, Try.ntmps74
    go_wp2_with fail
    have hgs := gr_alloc (gr_alloc (r := none) (World.grownBy.refl w none) (.cells #[.int .i64 ((⟨-v.x, v.y, v.z⟩ : V3)).x, .int .i64 ((⟨-v.x, v.y, v.z⟩ : V3)).y, .int .i64 ((⟨-v.x, v.y, v.z⟩ : V3)).z] 49)) (.cells #[.int .i64 ((⟨-v.x, v.y, v.z⟩ : V3)).x, .int .i64 ((⟨-v.x, v.y, v.z⟩ : V3)).y, .int .i64 ((⟨-v.x, v.y, v.z⟩ : V3)).z] 49)
    exact bodyPost_ret (v := .agg #[.int .i64 ((⟨-v.x, v.y, v.z⟩ : V3)).x, .int .i64 ((⟨-v.x, v.y, v.z⟩ : V3)).y, .int .i64 ((⟨-v.x, v.y, v.z⟩ : V3)).z]) (by simp [results, Try.results74, go_sem]) rfl ⟨by rw [hq.out], hgs⟩
  · by_cases a1 : axis = 1
    · have hq : Hid (mirV axis v = ⟨v.x, -v.y, v.z⟩) := by rw [Hid]; unfold mirV; rw [if_neg a0, if_pos a1]
      subst a1
      go_enter Try.func74, Try.ntmps74
      go_wp2_with fail
      have hgs := gr_alloc (gr_alloc (r := none) (World.grownBy.refl w none) (.cells #[.int .i64 ((⟨v.x, -v.y, v.z⟩ : V3)).x, .int .i64 ((⟨v.x, -v.y, v.z⟩ : V3)).y, .int .i64 ((⟨v.x, -v.y, v.z⟩ : V3)).z] 49)) (.cells #[.int .i64 ((⟨v.x, -v.y, v.z⟩ : V3)).x, .int .i64 ((⟨v.x, -v.y, v.z⟩ : V3)).y, .int .i64 ((⟨v.x, -v.y, v.z⟩ : V3)).z] 49)
      exact bodyPost_ret (v := .agg #[.int .i64 ((⟨v.x, -v.y, v.z⟩ : V3)).x, .int .i64 ((⟨v.x, -v.y, v.z⟩ : V3)).y, .int .i64 ((⟨v.x, -v.y, v.z⟩ : V3)).z]) (by simp [results, Try.results74, go_sem]) rfl ⟨by rw [hq.out], hgs⟩
    · have hq : Hid (mirV axis v = ⟨v.x, v.y, -v.z⟩) := by rw [Hid]; unfold mirV; rw [if_neg a0, if_neg a1]
      have hb0 : (axis == 0) = false := beq_eq_false_iff_ne.2 a0
      have hb1 : (axis == 1) = false := beq_eq_false_iff_ne.2 a1
      clear a0 a1
      go_enter Try.func74, Try.ntmps74
      go_wp2_with fail
      have hgs := gr_alloc (gr_alloc (r := none) (World.grownBy.refl w none) (.cells #[.int .i64 ((⟨v.x, v.y, -v.z⟩ : V3)).x, .int .i64 ((⟨v.x, v.y, -v.z⟩ : V3)).y, .int .i64 ((⟨v.x, v.y, -v.z⟩ : V3)).z] 49)) (.cells #[.int .i64 ((⟨v.x, v.y, -v.z⟩ : V3)).x, .int .i64 ((⟨v.x, v.y, -v.z⟩ : V3)).y, .int .i64 ((⟨v.x, v.y, -v.z⟩ : V3)).z] 49)
      exact bodyPost_ret (v := .agg #[.int .i64 ((⟨v.x, v.y, -v.z⟩ : V3)).x, .int .i64 ((⟨v.x, v.y, -v.z⟩ : V3)).y, .int .i64 ((⟨v.x, v.y, -v.z⟩ : V3)).z]) (by simp [results, Try.results74, go_sem]) rfl ⟨by rw [hq.out], hgs⟩

end Go.Proofs.Ytjodjdjfagjiaaa

/- Contracts of functions that this seat's laws reach, each: what one call returns and what it leaves in memory; no condition beyond each theorem's own hypotheses. -/
import Derived.Test.YtgcpegjggakemaaGreatDoorZqRegRefC
import Derived.Test.YtgcpegjggakemaaGreatDoorZqFillOut
import Derived.Test.YtgcpegjggakemaaGreatDoorZqCelM
set_option linter.unusedVariables false
set_option linter.unusedSimpArgs false
namespace Go.Bl
open Go
/-- a side crosses the way to a point's right: the reference's test, lower end first -/
def crossW (lo hi p : Pt) : Bool := decide (lo.y ≤ p.y) && decide (p.y < hi.y) && decide (turnP lo hi p > 0)

theorem cross_eq {r : List Pt} {p : Pt} {i : Nat} (h : onB p (cor r i) (cor r (i + 1)) = false) :
    (if (cor r i).y > (cor r (i + 1)).y then crossW (cor r (i + 1)) (cor r i) p else crossW (cor r i) (cor r (i + 1)) p) = crossG r p i := by
  unfold crossG
  generalize cor r i = a at *
  generalize cor r (i + 1) = b at *
  by_cases hab : a.y > b.y
  · rw [if_pos hab]
    unfold crossW
    rw [turn_flip]
    by_cases hin : b.y ≤ p.y ∧ p.y < a.y
    · have hne : turnP a b p ≠ 0 := fun h0 => by
        have hb := line_boxY h0 (by omega) (by omega) (by omega)
        have := (onB_iff (p := p) (a := a) (b := b)).2 ⟨h0, hb⟩
        rw [this] at h; cases h
      have e1 : decide (a.y > p.y) = true := by simp; omega
      have e2 : decide (b.y > p.y) = false := by simp; omega
      have e3 : decide (b.y > a.y) = false := by simp; omega
      have e4 : decide (b.y ≤ p.y) = true := by simp; omega
      rw [e1, e2, e3, e4]
      by_cases ht : turnP a b p > 0
      · simp [ht]; omega
      · simp [ht]; omega
    · by_cases h1 : b.y ≤ p.y
      · have e1 : decide (a.y > p.y) = false := by simp; omega
        have e2 : decide (b.y > p.y) = false := by simp; omega
        rw [e1, e2]; simp
      · have e1 : decide (a.y > p.y) = true := by simp; omega
        have e2 : decide (b.y > p.y) = true := by simp; omega
        have e5 : decide (b.y ≤ p.y) = false := by simp; omega
        rw [e1, e2, e5]; simp
  · rw [if_neg hab]
    unfold crossW
    by_cases hin : a.y ≤ p.y ∧ p.y < b.y
    · have e1 : decide (a.y > p.y) = false := by simp; omega
      have e2 : decide (b.y > p.y) = true := by simp; omega
      have e3 : decide (b.y > a.y) = true := by simp; omega
      have e4 : decide (a.y ≤ p.y) = true := by simp; omega
      rw [e1, e2, e3, e4]
      simp
    · by_cases h1 : a.y ≤ p.y
      · have e1 : decide (a.y > p.y) = false := by simp; omega
        have e2 : decide (b.y > p.y) = false := by simp; omega
        rw [e1, e2]; simp
      · have e1 : decide (a.y > p.y) = true := by simp; omega
        have e2 : decide (b.y > p.y) = true := by simp; omega
        have e5 : decide (a.y ≤ p.y) = false := by simp; omega
        rw [e1, e2, e5]; simp
/-- near: ten times as wide as a region -/
def bdW (p : Pt) : Prop := (-1000000 ≤ p.x ∧ p.x ≤ 1000000) ∧ -1000000 ≤ p.y ∧ p.y ≤ 1000000

theorem bdP.w {p : Pt} (h : bdP p) : bdW p := by unfold bdP at h; unfold bdW; omega

end Go.Bl
namespace Go.Proofs.YtgcpegjggakemaaGreatDoor
open Go Go.RowKit Go.Bl

set_option maxHeartbeats 800000 in
theorem turnW_any (a b c : Pt) (w : World) (ha : bdW a) (hb : bdW b) (hc : bdW c) :
    Calls Tryz.prog 147 #[(.agg #[.int .i64 (a).x, .int .i64 (a).y]), (.agg #[.int .i64 (b).x, .int .i64 (b).y]), (.agg #[.int .i64 (c).x, .int .i64 (c).y])] w fun e w' => e = .returned (.int .i64 (turnP a b c)) ∧ w.grownBy w' none := by
  unfold bdW at ha hb hc
  have h1 := mulm_bd (a := b.x - a.x) (b := c.y - a.y) (m := 2000000) (n := 2000000) (by omega) (by omega) (by omega)
  have h2 := mulm_bd (a := b.y - a.y) (b := c.x - a.x) (m := 2000000) (n := 2000000) (by omega) (by omega) (by omega)
  have hV : Hid (turnP a b c = (b.x - a.x) * (c.y - a.y) - (b.y - a.y) * (c.x - a.x)) := rfl
  go_enter Tryz.func147, Tryz.ntmps147
  go_wp2_with fail
  go_ret
  exact ⟨ret_int hV.out.symm, (by repeat (first | exact World.grownBy.refl _ _ | assumption | refine gr_alloc ?_ _ | (apply gr_tail; assumption) | refine gr_drewN ?_ _ | refine gr_drew ?_))⟩

set_option maxHeartbeats 4000000 in
set_option maxRecDepth 100000 in
theorem onW_any (p a b : Pt) (w : World) (hp : bdW p) (ha : bdW a) (hb : bdW b) :
    Calls Tryz.prog 144 #[(.agg #[.int .i64 (p).x, .int .i64 (p).y]), (.agg #[.int .i64 (a).x, .int .i64 (a).y]), (.agg #[.int .i64 (b).x, .int .i64 (b).y])] w fun e w' => e = .returned (.bool (onB p a b)) ∧ w.grownBy w' none := by
  have hT := hide fun w => turnW_any a b p w ha hb hp
  have hV : Hid (onB p a b = (decide (turnP a b p = 0) && (inB p.x (min a.x b.x) (max a.x b.x) && inB p.y (min a.y b.y) (max a.y b.y)))) := rfl
  have hI1 := hide fun w => in_any p.x (min a.x b.x) (max a.x b.x) w
  have hI2 := hide fun w => in_any p.y (min a.y b.y) (max a.y b.y) w
  generalize inB p.x (min a.x b.x) (max a.x b.x) = i1 at *
  generalize inB p.y (min a.y b.y) (max a.y b.y) = i2 at *
  generalize turnP a b p = t at *
  clear hp ha hb
  go_enter Tryz.func144, Tryz.ntmps144
  go_upto_region 1 with fail
  obtain ⟨W, hW⟩ : ∃ W, W = ((w.alloc (.cells #[.int .i64 p.x, .int .i64 p.y] 30)).alloc (.cells #[.int .i64 a.x, .int .i64 a.y] 30)).alloc (.cells #[.int .i64 b.x, .int .i64 b.y] 30) := ⟨_, rfl⟩
  have hgW : w.grownBy W none := by rw [hW]; exact (by repeat (first | exact World.grownBy.refl _ _ | assumption | refine gr_alloc ?_ _ | (apply gr_tail; assumption) | refine gr_drewN ?_ _ | refine gr_drew ?_))
  have a0 : W.cell? ⟨w.heap.size, 0, none⟩ = some (.int .i64 (p).x) := by rw [hW]; go_simp
  have a1 : W.cell? ⟨w.heap.size, 1, none⟩ = some (.int .i64 (p).y) := by rw [hW]; go_simp
  have b0 : W.cell? ⟨w.heap.size + 1, 0, none⟩ = some (.int .i64 (a).x) := by rw [hW]; go_simp
  have b1 : W.cell? ⟨w.heap.size + 1, 1, none⟩ = some (.int .i64 (a).y) := by rw [hW]; go_simp
  have c0 : W.cell? ⟨w.heap.size + 1 + 1, 0, none⟩ = some (.int .i64 (b).x) := by rw [hW]; go_simp
  have c1 : W.cell? ⟨w.heap.size + 1 + 1, 1, none⟩ = some (.int .i64 (b).y) := by rw [hW]; go_simp
  rw [← hW]
  clear hW
  go_wp2_with fail
  refine (hT.out _).mono ?_
  rintro e w1 ⟨rfl, hg1⟩
  replace a0 := hg1.k a0
  replace a1 := hg1.k a1
  replace b0 := hg1.k b0
  replace b1 := hg1.k b1
  replace c0 := hg1.k c0
  replace c1 := hg1.k c1
  have hgw := gr_trans hgW hg1
  rcases h0 : decide (t = 0) with _ | _
  · have hb : (t == 0) = false := by simpa using h0
    rw [h0] at hV
    clear h0
    go_wp2_with fail
    go_ret
    exact ⟨ret_bool (by rw [hV.out, Bool.false_and]), hgw⟩
  · have hb : (t == 0) = true := by simpa using h0
    rw [h0] at hV
    clear h0
    go_wp2_with fail
    refine (hI1.out _).mono ?_
    rintro e w2 ⟨rfl, rfl⟩
    cases i1 with
    | false =>
      go_wp2_with fail
      go_ret
      exact ⟨ret_bool (by rw [hV.out]; rfl), hgw⟩
    | true =>
      go_wp2_with fail
      refine (hI2.out _).mono ?_
      rintro e w2 ⟨rfl, rfl⟩
      go_wp2_with fail
      go_ret
      exact ⟨ret_bool (by rw [hV.out]; rfl), hgw⟩

/-- how many of the first k sides cross -/
theorem within_step {r : List Pt} {p : Pt} {k : Nat} {c : Int} (h0 : 0 ≤ c) (h : decide (c % 2 = 1) = isInK r p k) : decide ((c + if crossG r p k then 1 else 0) % 2 = 1) = isInK r p (k + 1) := by
  show _ = if crossG r p k then !isInK r p k else isInK r p k
  cases hc : crossG r p k
  · simpa using h
  · rw [if_pos rfl, if_pos rfl, ← h]
    by_cases h2 : c % 2 = 1
    · have : ¬ (c + 1) % 2 = 1 := by omega
      simp [h2, this]
    · have : (c + 1) % 2 = 1 := by omega
      simp [h2, this]

set_option maxHeartbeats 4000000 in
set_option maxRecDepth 100000 in
theorem within_any (A : Option Addr) (c : Nat) (r : List Pt) (p : Pt) (w : World) (hl : Sl w 0 A r) (hn : r.length ≤ 1000) (hb : ∀ q ∈ r, bdW q) (hp : bdW p) (hoff : ∀ k, k < r.length → onB p (cor r k) (cor r (k + 1)) = false) :
    Calls Tryz.prog 149 #[.slice A r.length c, (.agg #[.int .i64 (p).x, .int .i64 (p).y])] w fun e w' => e = .returned (.bool (isInF r p)) ∧ w.grownBy w' none := by
  have hS := hide fun W (h : w.grownBy W none) => sidesRef_any A c r W (hl.pure h) (by omega)
  have hst := hide fun k (hk : k < r.length) (x : Int) => within_step (r := r) (p := p) (k := k) (c := x)
  have hbc : Hid (∀ k, k < r.length → bdW (cor r k) ∧ bdW (cor r (k + 1))) := fun k hk => ⟨hb _ (cor_mem (by omega) _), hb _ (cor_mem (by omega) _)⟩
  have heq := hide fun k (hk : k < r.length) => cross_eq (hoff k hk)
  have hfin : Hid (isInF r p = isInK r p r.length) := rfl
  have hg : Hid (∀ k (hk : k < (segK r r.length).length), (segK r r.length)[k] = ⟨cor r k, cor r (k + 1)⟩) := fun k hk => segK_get r r.length hk
  have hgl : (segK r r.length).length = r.length := segK_len r r.length
  generalize segK r r.length = G at *
  clear hl hb hoff
  replace hp := hide hp
  go_enter Tryz.func149, Tryz.ntmps149
  go_upto_region 1 with fail
  obtain ⟨w3, hw3⟩ : ∃ x, x = (w).alloc (.cells [.int .i64 p.x, .int .i64 p.y].toArray 30) := ⟨_, rfl⟩
  have hg3 : (w).grownBy w3 none := by rw [hw3]; exact gr_alloc (World.grownBy.refl _ _) _
  have hb3 : Box w3 (w).heap.size 30 [.int .i64 p.x, .int .i64 p.y] := by rw [hw3]; exact Box.new _ _ _
  have hxs3 := hb3.lt
  rw [← hw3]
  clear hw3
  obtain ⟨x3, hx3⟩ : ∃ x, x = (w).heap.size := ⟨_, rfl⟩
  rw [← hx3] at hb3 hxs3 ⊢
  have hxl3 : (w).heap.size ≤ x3 := by omega
  clear hx3
  go_wp2_with fail
  refine (hS.out w3 hg3).mono ?_
  rintro e v4 ⟨A', c', rfl, hO, hgv⟩
  have hGs := hO.sl.mono (Nat.zero_le _)
  have hgw := hg3.t hgv
  have hpx : Hid (∀ W, v4.grownBy W none → W.cell? ⟨x3, 0, none⟩ = some (.int .i64 p.x) ∧ W.cell? ⟨x3, 1, none⟩ = some (.int .i64 p.y)) := fun W h => ⟨((hb3.pure (hgv.t h)).c 0 rfl).1, ((hb3.pure (hgv.t h)).c 1 rfl).1⟩
  have hself := World.grownBy.refl v4 none
  clear hS hO hg3 hgv hb3 hxs3 hxl3
  go_wp2_with fail
  go_loopw [5, 13] (fun s i wr => ∃ (k : Nat) (n : Int), k ≤ r.length ∧ i = .int .i64 k ∧ (0 ≤ n ∧ n ≤ k) ∧ s = .int .i64 n ∧ Hid (decide (n % 2 = 1) = isInK r p k) ∧ v4.grownBy wr none) (fun _ i _ => r.length - (intOf i).toNat)
  case atStart => exact ⟨0, 0, Nat.zero_le _, rfl, by omega, rfl, rfl, hself⟩
  case round =>
    clear hself
    obtain ⟨k, n, hk, rfl, hn0, rfl, hpar, hgr⟩ := hrel
    by_cases hlt : k < r.length
    · obtain ⟨g, o, rfl, -, hb1, hcell⟩ := sl_sg (hGs.pure hgr) (by omega)
      obtain ⟨⟨c0, c1⟩, c2, c3⟩ := hcell k (by omega)
      rw [hg.out k (by omega)] at c0 c1 c2 c3
      obtain ⟨ba, bb⟩ := hbc.out k hlt
      have heqk := hide (heq.out k hlt)
      clear hcell hGs hbc heq hfin
      generalize cor r k = a at *
      generalize cor r (k + 1) = b at *
      go_upto_region 5 with fail
      obtain ⟨w7, hw7⟩ : ∃ x, x = (wr).alloc (.cells [.int .i64 a.x, .int .i64 a.y, .int .i64 b.x, .int .i64 b.y].toArray 109) := ⟨_, rfl⟩
      have hg7 : (wr).grownBy w7 none := by rw [hw7]; exact gr_alloc (World.grownBy.refl _ _) _
      have hb7 : Box w7 (wr).heap.size 109 [.int .i64 a.x, .int .i64 a.y, .int .i64 b.x, .int .i64 b.y] := by rw [hw7]; exact Box.new _ _ _
      have hxs7 := hb7.lt
      rw [← hw7]
      clear hw7
      obtain ⟨x7, hx7⟩ : ∃ x, x = (wr).heap.size := ⟨_, rfl⟩
      rw [← hx7] at hb7 hxs7 ⊢
      have hxl7 : (wr).heap.size ≤ x7 := by omega
      clear hx7
      have hgr7 := hgr.t hg7
      clear c0 c1 c2 c3 hg7 hxs7 hxl7 hgr
      go_cut [8, 9] (fun s8 s9 wx => ∃ x8 x9, s8 = .pointer (some ⟨x8, 0, none⟩) ∧ s9 = .pointer (some ⟨x9, 0, none⟩) ∧ Box wx x8 30 [.int .i64 a.x, .int .i64 a.y] ∧ Box wx x9 30 [.int .i64 b.x, .int .i64 b.y] ∧ x8 ≠ x9 ∧ v4.heap.size ≤ x8 ∧ v4.heap.size ≤ x9 ∧ v4.grownBy wx none)
      case first =>
        refine wp_region_tree (fun wx => w7.grownBy wx none) [2, 1, 2, 1, 0, 0, 0, 0] (.bl 0 (.bl 1 (.bl 2 (.bl 3 (.alt (.ef 4 (.ef 5 (.ef 6 (.ef 7 .done)))) (.ef 5 (.ef 4 (.ef 6 (.ef 7 .done))))))))) (by kernel_rfl) (by kernel_rfl) (gr_drew (World.grownBy.refl _ _)) ?_
        obtain ⟨u5, hu5⟩ : ∃ x, x = (w7).drew := ⟨_, rfl⟩
        rw [← hu5]
        have hgu5 : (w7).grownBy u5 none := by rw [hu5]; exact gr_drew (World.grownBy.refl _ _)
        clear hu5
        refine tree_p rfl rfl rfl rfl _ rfl (by simp) (fun K hK => ?_)
        apply Exists.intro
        refine ⟨fun wq K' hK' => ?_, ?_⟩
        · go_wp2_with fail
          exact hK'
        go_simp
        refine hK _ ?_
        clear hK K
        refine tree_b rfl rfl rfl rfl _ rfl (by simp) (fun K hK => ?_)
        apply Exists.intro
        refine ⟨fun wq hq K' hK' => ?_, ?_⟩
        · obtain ⟨d0, -⟩ := (hb7.pure hq).c 0 rfl
          obtain ⟨d1, -⟩ := (hb7.pure hq).c 1 rfl
          obtain ⟨d2, -⟩ := (hb7.pure hq).c 2 rfl
          obtain ⟨d3, -⟩ := (hb7.pure hq).c 3 rfl
          go_wp2_with fail
          exact hK'
        go_simp
        refine hK _ ?_
        clear hK K
        refine tree_p rfl rfl rfl rfl _ rfl (by simp) (fun K hK => ?_)
        apply Exists.intro
        refine ⟨fun wq K' hK' => ?_, ?_⟩
        · go_wp2_with fail
          exact hK'
        go_simp
        refine hK _ ?_
        clear hK K
        refine tree_b rfl rfl rfl rfl _ rfl (by simp) (fun K hK => ?_)
        apply Exists.intro
        refine ⟨fun wq hq K' hK' => ?_, ?_⟩
        · obtain ⟨d0, -⟩ := (hb7.pure hq).c 0 rfl
          obtain ⟨d1, -⟩ := (hb7.pure hq).c 1 rfl
          obtain ⟨d2, -⟩ := (hb7.pure hq).c 2 rfl
          obtain ⟨d3, -⟩ := (hb7.pure hq).c 3 rfl
          go_wp2_with fail
          exact hK'
        go_simp
        refine hK _ ?_
        clear hK K
        refine tree_alt ?_ ?_
        · refine tree_e rfl rfl (fun K hK => ?_)
          go_wp2_with fail
          try go_simp
          refine hK _ _ (gr_alloc (gr_trans hgu5 (World.grownBy.refl _ _)) _) ?_
          clear hK K
          obtain ⟨w4, hw4⟩ : ∃ x, x = (u5).alloc (.cells [.int .i64 0, .int .i64 0].toArray 30) := ⟨_, rfl⟩
          have hg4 : (u5).grownBy w4 none := by rw [hw4]; exact gr_alloc (World.grownBy.refl _ _) _
          have hb4 : Box w4 (u5).heap.size 30 [.int .i64 0, .int .i64 0] := by rw [hw4]; exact Box.new _ _ _
          rw [← hw4]
          clear hw4
          obtain ⟨x4, hx4⟩ : ∃ x, x = (u5).heap.size := ⟨_, rfl⟩
          rw [← hx4] at hb4 ⊢
          have hxl4 : (u5).heap.size ≤ x4 := by omega
          clear hx4
          refine tree_e rfl rfl (fun K hK => ?_)
          go_wp2_with fail
          try go_simp
          refine hK _ _ (gr_alloc (gr_trans hgu5 hg4) _) ?_
          clear hK K
          obtain ⟨w5, hw5⟩ : ∃ x, x = (w4).alloc (.cells [.int .i64 0, .int .i64 0].toArray 30) := ⟨_, rfl⟩
          have hg5 : (w4).grownBy w5 none := by rw [hw5]; exact gr_alloc (World.grownBy.refl _ _) _
          have hb5 : Box w5 (w4).heap.size 30 [.int .i64 0, .int .i64 0] := by rw [hw5]; exact Box.new _ _ _
          rw [← hw5]
          clear hw5
          obtain ⟨x5, hx5⟩ : ∃ x, x = (w4).heap.size := ⟨_, rfl⟩
          rw [← hx5] at hb5 ⊢
          have hxl5 : (w4).heap.size ≤ x5 := by omega
          clear hx5
          refine tree_e rfl rfl (fun K hK => ?_)
          have hb46 := hb4.pure (w' := w5) hg5
          have hb56 := hb5.pure (w' := w5) (World.grownBy.refl _ _)
          have hgz := gr_trans hgu5 (gr_trans hg4 hg5)
          have hz1 := hgr7.size
          have hz2 := hgu5.size
          have hz3 := hg4.size
          have hz4 := hg5.size
          have hz5 := hb4.lt
          have hz6 := hb5.lt
          have hx45 : x4 ≠ x5 := by omega
          obtain ⟨f0, f0'⟩ := hb46.c 0 rfl
          obtain ⟨f1, f1'⟩ := hb46.c 1 rfl
          go_wp2_with fail
          try go_simp
          refine hK _ _ (gr_new hgz (set2_gr _ _) (by omega)) ?_
          clear hK K
          obtain ⟨w6, hw6⟩ : ∃ x, x = ((w5).setCell ⟨x4, 0, none⟩ (.int .i64 a.x)).setCell ⟨x4, 1, none⟩ (.int .i64 a.y) := ⟨_, rfl⟩
          have hg6 : (w5).grownBy w6 (some x4) := by rw [hw6]; exact set2_gr _ _
          have hb66 : Box w6 x4 30 [.int .i64 a.x, .int .i64 a.y] := by rw [hw6]; exact box_set2 hb46 _ _
          rw [← hw6]
          clear hw6 f0 f0' f1 f1'
          have hb76 := hb56.gr hg6 (by intro e; injection e with e; exact hx45 e)
          have hgz6 := gr_new hgz hg6 (by omega)
          refine tree_e0 (by kernel_rfl) rfl rfl (fun K hK => ?_)
          obtain ⟨f0, f0'⟩ := hb76.c 0 rfl
          obtain ⟨f1, f1'⟩ := hb76.c 1 rfl
          go_wp2_with fail
          try go_simp
          refine hK _ _ trivial ?_
          clear hK K
          refine tree_done ?_
          have hg8 := set2_gr (w := w6) (g := x5) (.int .i64 b.x) (.int .i64 b.y)
          have hb88 := hb66.gr hg8 (by intro e; injection e with e; exact hx45 e.symm)
          have hb98 := box_set2 hb76 (.int .i64 b.x) (.int .i64 b.y)
          have hgz8 := gr_trans hgr7 (gr_new hgz6 hg8 (by omega))
          generalize (w6.setCell ⟨x5, 0, none⟩ (.int .i64 b.x)).setCell ⟨x5, 1, none⟩ (.int .i64 b.y) = w8 at *
          clear f0 f0' f1 f1'
          go_wp2_with fail
          go_meet
          exact ⟨x4, x5, rfl, rfl, hb88, hb98, hx45, by omega, by omega, hgz8⟩
        · refine tree_e rfl rfl (fun K hK => ?_)
          go_wp2_with fail
          try go_simp
          refine hK _ _ (gr_alloc (gr_trans hgu5 (World.grownBy.refl _ _)) _) ?_
          clear hK K
          obtain ⟨w5, hw5⟩ : ∃ x, x = (u5).alloc (.cells [.int .i64 0, .int .i64 0].toArray 30) := ⟨_, rfl⟩
          have hg5 : (u5).grownBy w5 none := by rw [hw5]; exact gr_alloc (World.grownBy.refl _ _) _
          have hb5 : Box w5 (u5).heap.size 30 [.int .i64 0, .int .i64 0] := by rw [hw5]; exact Box.new _ _ _
          rw [← hw5]
          clear hw5
          obtain ⟨x5, hx5⟩ : ∃ x, x = (u5).heap.size := ⟨_, rfl⟩
          rw [← hx5] at hb5 ⊢
          have hxl5 : (u5).heap.size ≤ x5 := by omega
          clear hx5
          refine tree_e rfl rfl (fun K hK => ?_)
          go_wp2_with fail
          try go_simp
          refine hK _ _ (gr_alloc (gr_trans hgu5 hg5) _) ?_
          clear hK K
          obtain ⟨w4, hw4⟩ : ∃ x, x = (w5).alloc (.cells [.int .i64 0, .int .i64 0].toArray 30) := ⟨_, rfl⟩
          have hg4 : (w5).grownBy w4 none := by rw [hw4]; exact gr_alloc (World.grownBy.refl _ _) _
          have hb4 : Box w4 (w5).heap.size 30 [.int .i64 0, .int .i64 0] := by rw [hw4]; exact Box.new _ _ _
          rw [← hw4]
          clear hw4
          obtain ⟨x4, hx4⟩ : ∃ x, x = (w5).heap.size := ⟨_, rfl⟩
          rw [← hx4] at hb4 ⊢
          have hxl4 : (w5).heap.size ≤ x4 := by omega
          clear hx4
          refine tree_e rfl rfl (fun K hK => ?_)
          have hb46 := hb4.pure (w' := w4) (World.grownBy.refl _ _)
          have hb56 := hb5.pure (w' := w4) hg4
          have hgz := gr_trans hgu5 (gr_trans hg5 hg4)
          have hz1 := hgr7.size
          have hz2 := hgu5.size
          have hz3 := hg4.size
          have hz4 := hg5.size
          have hz5 := hb4.lt
          have hz6 := hb5.lt
          have hx45 : x4 ≠ x5 := by omega
          obtain ⟨f0, f0'⟩ := hb46.c 0 rfl
          obtain ⟨f1, f1'⟩ := hb46.c 1 rfl
          go_wp2_with fail
          try go_simp
          refine hK _ _ (gr_new hgz (set2_gr _ _) (by omega)) ?_
          clear hK K
          obtain ⟨w6, hw6⟩ : ∃ x, x = ((w4).setCell ⟨x4, 0, none⟩ (.int .i64 a.x)).setCell ⟨x4, 1, none⟩ (.int .i64 a.y) := ⟨_, rfl⟩
          have hg6 : (w4).grownBy w6 (some x4) := by rw [hw6]; exact set2_gr _ _
          have hb66 : Box w6 x4 30 [.int .i64 a.x, .int .i64 a.y] := by rw [hw6]; exact box_set2 hb46 _ _
          rw [← hw6]
          clear hw6 f0 f0' f1 f1'
          have hb76 := hb56.gr hg6 (by intro e; injection e with e; exact hx45 e)
          have hgz6 := gr_new hgz hg6 (by omega)
          refine tree_e0 (by kernel_rfl) rfl rfl (fun K hK => ?_)
          obtain ⟨f0, f0'⟩ := hb76.c 0 rfl
          obtain ⟨f1, f1'⟩ := hb76.c 1 rfl
          go_wp2_with fail
          try go_simp
          refine hK _ _ trivial ?_
          clear hK K
          refine tree_done ?_
          have hg8 := set2_gr (w := w6) (g := x5) (.int .i64 b.x) (.int .i64 b.y)
          have hb88 := hb66.gr hg8 (by intro e; injection e with e; exact hx45 e.symm)
          have hb98 := box_set2 hb76 (.int .i64 b.x) (.int .i64 b.y)
          have hgz8 := gr_trans hgr7 (gr_new hgz6 hg8 (by omega))
          generalize (w6.setCell ⟨x5, 0, none⟩ (.int .i64 b.x)).setCell ⟨x5, 1, none⟩ (.int .i64 b.y) = w8 at *
          clear f0 f0' f1 f1'
          go_wp2_with fail
          go_meet
          exact ⟨x4, x5, rfl, rfl, hb88, hb98, hx45, by omega, by omega, hgz8⟩
      case rest =>
        obtain ⟨x8, x9, rfl, rfl, hb8, hb9, hne, hx8, hx9, hgc⟩ := hcut
        clear hb7 hgr7
        rcases hd : decide (a.y > b.y) with _ | _
        · rw [if_neg (by simpa using hd)] at heqk
          obtain ⟨f1, -⟩ := hb8.c 1 rfl
          obtain ⟨g1, -⟩ := hb9.c 1 rfl
          go_upto_region 8 with fail
          clear f1 g1 hd
          obtain ⟨l0, -⟩ := (hb8).c 0 rfl
          obtain ⟨l1, -⟩ := (hb8).c 1 rfl
          obtain ⟨h0, -⟩ := (hb9).c 0 rfl
          obtain ⟨h1, -⟩ := (hb9).c 1 rfl
          obtain ⟨p0, p1⟩ := hpx.out wc hgc
          have hV : Hid (crossW a b p = (decide ((a).y ≤ p.y) && decide (p.y < (b).y) && decide (turnP a b p > 0))) := rfl
          have hst' := hide (hst.out k (by omega) n hn0.1 hpar.out)
          rw [← heqk.out] at hst'
          rcases hd1 : decide ((a).y ≤ p.y) with _ | _
          · have hv : Hid (crossW a b p = false) := by rw [Hid, hV.out, hd1]; rfl
            rw [hv.out] at hst'
            clear hV
            go_wp2_with fail
            refine (truth_any _ _).mono ?_
            rintro e w9 ⟨rfl, rfl⟩
            clear l0 l1 h0 h1 p0 p1
            go_wp2_with fail
            (go_roundw; (case rel => exact ⟨k + 1, n + 0, by omega, by go_num, by omega, by go_num, hst', hgc⟩); (case measure => simp [intOf]; omega))
          rcases hd2 : decide (p.y < (b).y) with _ | _
          · have hv : Hid (crossW a b p = false) := by rw [Hid, hV.out, hd1, hd2]; rfl
            rw [hv.out] at hst'
            clear hV
            go_wp2_with fail
            refine (truth_any _ _).mono ?_
            rintro e w9 ⟨rfl, rfl⟩
            clear l0 l1 h0 h1 p0 p1
            go_wp2_with fail
            (go_roundw; (case rel => exact ⟨k + 1, n + 0, by omega, by go_num, by omega, by go_num, hst', hgc⟩); (case measure => simp [intOf]; omega))
          have hv : Hid (crossW a b p = decide (turnP a b p > 0)) := by rw [Hid, hV.out, hd1, hd2]; rfl
          rw [hv.out] at hst'
          have hT := hide (turnW_any a b p wc (by assumption) (by assumption) hp.out)
          generalize turnP a b p = t at *
          clear hV
          go_wp2_with fail
          refine hT.out.mono ?_
          rintro e w9 ⟨rfl, hg9⟩
          have hgx := (hgc).t hg9
          clear l0 l1 h0 h1 p0 p1 hT
          go_wp2_with fail
          refine (truth_any _ _).mono ?_
          rintro e w10 ⟨rfl, rfl⟩
          rcases hd3 : decide (t > 0) with _ | _
          · rw [hd3] at hst'
            go_wp2_with fail
            (go_roundw; (case rel => exact ⟨k + 1, n + 0, by omega, by go_num, by omega, by go_num, hst', hgx⟩); (case measure => simp [intOf]; omega))
          · rw [hd3] at hst'
            go_wp2_with fail
            (go_roundw; (case rel => exact ⟨k + 1, n + 1, by omega, by go_num, by omega, by go_num, hst', hgx⟩); (case measure => simp [intOf]; omega))
        · rw [if_pos (by simpa using hd)] at heqk
          obtain ⟨f0, f0'⟩ := hb8.c 0 rfl
          obtain ⟨f1, f1'⟩ := hb8.c 1 rfl
          obtain ⟨g0, g0'⟩ := hb9.c 0 rfl
          obtain ⟨g1, g1'⟩ := hb9.c 1 rfl
          go_upto_region 8 with fail
          clear f0 f1 g0 g1 f0' f1' g0' g1' hd
          have hs1 := set2_gr (w := wc) (g := x8) (.int .i64 b.x) (.int .i64 b.y)
          have hb81 := box_set2 hb8 (.int .i64 b.x) (.int .i64 b.y)
          have hb91 := hb9.gr hs1 (by intro e; injection e with e; exact hne e)
          have hgc1 := gr_new hgc hs1 hx8
          generalize (wc.setCell ⟨x8, 0, none⟩ (.int .i64 b.x)).setCell ⟨x8, 1, none⟩ (.int .i64 b.y) = w1 at *
          have hs2 := set2_gr (w := w1) (g := x9) (.int .i64 a.x) (.int .i64 a.y)
          have hb82 := hb81.gr hs2 (by intro e; injection e with e; exact hne e.symm)
          have hb92 := box_set2 hb91 (.int .i64 a.x) (.int .i64 a.y)
          have hgc2 := gr_new hgc1 hs2 hx9
          generalize (w1.setCell ⟨x9, 0, none⟩ (.int .i64 a.x)).setCell ⟨x9, 1, none⟩ (.int .i64 a.y) = w2 at *
          clear hs1 hs2 hb8 hb9 hb81 hb91 hgc hgc1
          obtain ⟨l0, -⟩ := (hb82).c 0 rfl
          obtain ⟨l1, -⟩ := (hb82).c 1 rfl
          obtain ⟨h0, -⟩ := (hb92).c 0 rfl
          obtain ⟨h1, -⟩ := (hb92).c 1 rfl
          obtain ⟨p0, p1⟩ := hpx.out w2 hgc2
          have hV : Hid (crossW b a p = (decide ((b).y ≤ p.y) && decide (p.y < (a).y) && decide (turnP b a p > 0))) := rfl
          have hst' := hide (hst.out k (by omega) n hn0.1 hpar.out)
          rw [← heqk.out] at hst'
          rcases hd1 : decide ((b).y ≤ p.y) with _ | _
          · have hv : Hid (crossW b a p = false) := by rw [Hid, hV.out, hd1]; rfl
            rw [hv.out] at hst'
            clear hV
            go_wp2_with fail
            refine (truth_any _ _).mono ?_
            rintro e w9 ⟨rfl, rfl⟩
            clear l0 l1 h0 h1 p0 p1
            go_wp2_with fail
            (go_roundw; (case rel => exact ⟨k + 1, n + 0, by omega, by go_num, by omega, by go_num, hst', hgc2⟩); (case measure => simp [intOf]; omega))
          rcases hd2 : decide (p.y < (a).y) with _ | _
          · have hv : Hid (crossW b a p = false) := by rw [Hid, hV.out, hd1, hd2]; rfl
            rw [hv.out] at hst'
            clear hV
            go_wp2_with fail
            refine (truth_any _ _).mono ?_
            rintro e w9 ⟨rfl, rfl⟩
            clear l0 l1 h0 h1 p0 p1
            go_wp2_with fail
            (go_roundw; (case rel => exact ⟨k + 1, n + 0, by omega, by go_num, by omega, by go_num, hst', hgc2⟩); (case measure => simp [intOf]; omega))
          have hv : Hid (crossW b a p = decide (turnP b a p > 0)) := by rw [Hid, hV.out, hd1, hd2]; rfl
          rw [hv.out] at hst'
          have hT := hide (turnW_any b a p w2 (by assumption) (by assumption) hp.out)
          generalize turnP b a p = t at *
          clear hV
          go_wp2_with fail
          refine hT.out.mono ?_
          rintro e w9 ⟨rfl, hg9⟩
          have hgx := (hgc2).t hg9
          clear l0 l1 h0 h1 p0 p1 hT
          go_wp2_with fail
          refine (truth_any _ _).mono ?_
          rintro e w10 ⟨rfl, rfl⟩
          rcases hd3 : decide (t > 0) with _ | _
          · rw [hd3] at hst'
            go_wp2_with fail
            (go_roundw; (case rel => exact ⟨k + 1, n + 0, by omega, by go_num, by omega, by go_num, hst', hgx⟩); (case measure => simp [intOf]; omega))
          · rw [hd3] at hst'
            go_wp2_with fail
            (go_roundw; (case rel => exact ⟨k + 1, n + 1, by omega, by go_num, by omega, by go_num, hst', hgx⟩); (case measure => simp [intOf]; omega))
    · obtain rfl : k = r.length := by omega
      rw [← hfin.out] at hpar
      clear hGs hst hbc heq hg hfin
      go_wp2_with fail
      go_ret
      exact ⟨ret_bool (by rw [← hpar.out]; rfl), hgw.t hgr⟩

end Go.Proofs.YtgcpegjggakemaaGreatDoor

namespace Go.Bl
open Go

def onSR (p : Pt) (s : Sg) : Bool := onB p s.a s.b

theorem onAny_iff {rs : List (List Pt)} {p : Pt} : onAny rs p = true ↔ ∃ i, i < rs.length ∧ ∃ k, k < (rs.getD i []).length ∧ onB p (cor (rs.getD i []) k) (cor (rs.getD i []) (k + 1)) = true := by
  unfold onAny
  rw [List.any_eq_true]
  constructor
  · rintro ⟨s, hs, h⟩
    obtain ⟨i, hi, k, hk, rfl⟩ := mem_sidesK.1 hs
    exact ⟨i, hi, k, hk, h⟩
  · rintro ⟨i, hi, k, hk, h⟩
    exact ⟨_, mem_sidesK.2 ⟨i, hi, k, hk, rfl⟩, h⟩

theorem segs_on {r : List Pt} {p : Pt} : (segK r r.length).any (onSR p) = true ↔ ∃ k, k < r.length ∧ onB p (cor r k) (cor r (k + 1)) = true := by
  unfold segK
  rw [List.any_map, List.any_eq_true]
  constructor
  · rintro ⟨k, hk, h⟩
    exact ⟨k, List.mem_range.1 hk, h⟩
  · rintro ⟨k, hk, h⟩
    exact ⟨k, List.mem_range.2 hk, h⟩
/-- no side of the first k rings holds the point -/
def offK (rs : List (List Pt)) (p : Pt) (k : Nat) : Prop := ∀ i, i < k → ∀ j, j < (rs.getD i []).length → onB p (cor (rs.getD i []) j) (cor (rs.getD i []) (j + 1)) = false

theorem off_next {rs : List (List Pt)} {p : Pt} {k : Nat} (h : offK rs p k) (hk : ∀ j, j < (rs.getD k []).length → onB p (cor (rs.getD k []) j) (cor (rs.getD k []) (j + 1)) = false) : offK rs p (k + 1) := fun i hi j hj => by
  by_cases e : i = k
  · subst e; exact hk j hj
  · exact h i (by omega) j hj

theorem off_all {rs : List (List Pt)} {p : Pt} (h : offK rs p rs.length) : onAny rs p = false := by
  rcases ho : onAny rs p with _ | _
  · rfl
  · obtain ⟨i, hi, k, hk, h2⟩ := onAny_iff.1 ho
    rw [h i hi k hk] at h2; cases h2

theorem par_step {rs : List (List Pt)} {p : Pt} {k : Nat} {m : Int} (h0 : 0 ≤ m) (h : decide (m % 2 = 1) = parR rs p k) : decide ((m + if isInF (rs.getD k []) p then 1 else 0) % 2 = 1) = parR rs p (k + 1) := by
  show _ = (parR rs p k ^^ isInF (rs.getD k []) p)
  rw [← h]
  cases isInF (rs.getD k []) p
  · simp
  · by_cases h2 : m % 2 = 1
    · have : ¬ (m + 1) % 2 = 1 := by omega
      simp [h2, this]
    · have : (m + 1) % 2 = 1 := by omega
      simp [h2, this]
/-- a captured point, beside a row of sides: all are near -/
structure PgH (w : World) (gc : Nat) (p : Pt) (l : List Sg) : Prop where
  c0 : w.cell? ⟨gc, 0, none⟩ = some (.int .i64 p.x)
  c1 : w.cell? ⟨gc, 1, none⟩ = some (.int .i64 p.y)
  bp : bdW p
  bl : ∀ x ∈ l, bdW x.a ∧ bdW x.b

theorem PgH.gr {w w' : World} {gc : Nat} {p : Pt} {l : List Sg} (h : PgH w gc p l) (hg : w.grownBy w' none) : PgH w' gc p l := ⟨hg.k h.c0, hg.k h.c1, h.bp, h.bl⟩

theorem segW_bd {r : List Pt} (h : ∀ p ∈ r, bdW p) (h0 : 0 < r.length) : ∀ x ∈ segK r r.length, bdW x.a ∧ bdW x.b := by
  intro x hx
  unfold segK at hx
  obtain ⟨k, hk, rfl⟩ := List.mem_map.1 hx
  exact ⟨h _ (cor_mem h0 _), h _ (cor_mem h0 _)⟩

end Go.Bl
namespace Go.Proofs.YtgcpegjggakemaaGreatDoor
open Go Go.RowKit Go.Bl

set_option maxHeartbeats 1000000 in
theorem insClo_any (p : Pt) (gc : Nat) (l : List Sg) (y : Sg) (w : World) (h : PgH w gc p l) (hx : bdW y.a ∧ bdW y.b) :
    Calls Tryz.prog 148 #[.agg #[.int .i64 y.a.x, .int .i64 y.a.y, .int .i64 y.b.x, .int .i64 y.b.y], .pointer (some ⟨gc, 0, none⟩)] w fun e w' => e = .returned (.bool (onSR p y)) ∧ w.grownBy w' none := by
  have hM := hide fun w => onW_any p y.a y.b w h.bp hx.1 hx.2
  have hV : Hid (onSR p y = onB p y.a y.b) := rfl
  rw [hV.out]
  generalize onB p y.a y.b = m at *
  go_enter Tryz.func148, Tryz.ntmps148
  go_upto_region 1 with fail
  obtain ⟨w2, hw2⟩ : ∃ x, x = (w).alloc (.cells [.int .i64 y.a.x, .int .i64 y.a.y, .int .i64 y.b.x, .int .i64 y.b.y].toArray 109) := ⟨_, rfl⟩
  have hg2 : (w).grownBy w2 none := by rw [hw2]; exact gr_alloc (World.grownBy.refl _ _) _
  have hb2 : Box w2 (w).heap.size 109 [.int .i64 y.a.x, .int .i64 y.a.y, .int .i64 y.b.x, .int .i64 y.b.y] := by rw [hw2]; exact Box.new _ _ _
  have hxs2 := hb2.lt
  rw [← hw2]
  clear hw2
  obtain ⟨x2, hx2⟩ : ∃ x, x = (w).heap.size := ⟨_, rfl⟩
  rw [← hx2] at hb2 hxs2 ⊢
  have hxl2 : (w).heap.size ≤ x2 := by omega
  clear hx2
  have s0 := hg2.k h.c0
  have s1 := hg2.k h.c1
  obtain ⟨t0, -⟩ := hb2.c 0 rfl
  obtain ⟨t1, -⟩ := hb2.c 1 rfl
  obtain ⟨t2, -⟩ := hb2.c 2 rfl
  obtain ⟨t3, -⟩ := hb2.c 3 rfl
  clear h hx
  go_wp2_with fail
  refine (hM.out _).mono ?_
  rintro e w1 ⟨rfl, hg1⟩
  go_wp2_with fail
  go_ret
  exact ⟨rfl, hg2.t hg1⟩

set_option maxHeartbeats 800000 in
set_option maxRecDepth 100000 in
theorem indexSgP_any (p : Pt) (gc : Nat) (A : Option Addr) (c : Nat) (l : List Sg) (w : World) (hl : Sl w 0 A l) (hp : PgH w gc p l) :
    Calls Tryz.prog 145 #[.slice A l.length c, .func (.func 148) #[] #[.pointer (some ⟨gc, 0, none⟩)]] w fun e w' => ∃ r : Int, e = .returned (.int .i64 r) ∧ decide (0 ≤ r) = l.any (onSR p) ∧ w.grownBy w' none := by
  have hm := hl.1
  unfold maxLen at hm
  go_enter Tryz.func145, Tryz.ntmps145
  go_wp2
  go_loopw [8] (fun i wr => ∃ k : Nat, k ≤ l.length ∧ i = .int .i64 k ∧ w.grownBy wr none ∧ Hid ((l.take k).any (onSR p) = false)) (fun i _ => l.length - (intOf i).toNat)
  case atStart => exact ⟨0, Nat.zero_le _, rfl, World.grownBy.refl _ _, by simp [Hid]⟩
  case round =>
    obtain ⟨k, hk, rfl, hg, hall⟩ := hrel
    by_cases hlt : k < l.length
    · obtain ⟨g, o, rfl, -, hb1, hcell⟩ := sl_sg (hl.pure hg) (by omega)
      obtain ⟨⟨c0, c1⟩, c2, c3⟩ := hcell k hlt
      clear hcell
      have HS : Hid ((l.take (k + 1)).any (onSR p) = ((l.take k).any (onSR p) || (onSR p) l[k])) := by rw [Hid, take_snoc hlt, List.any_append]; simp
      have HA : Hid ((onSR p) l[k] = true → l.any (onSR p) = true) := fun h => List.any_eq_true.2 ⟨_, List.getElem_mem _, h⟩
      have hmem := List.getElem_mem hlt
      have hp' := PgH.gr hp hg
      generalize l[k] = f at *
      obtain ⟨bb, hbb⟩ : ∃ bb, (onSR p) f = bb := ⟨_, rfl⟩
      have hcon := insClo_any p gc l f wr hp' (hp'.bl _ hmem)
      simp only [hbb] at hcon HS HA
      replace hcon := hide hcon
      replace hbb := hide hbb
      replace HS := hide HS
      replace HA := hide HA
      replace hmem := hide hmem
      go_wp2_with fail
      refine (hcon.out).mono ?_
      rintro e w' ⟨rfl, hg'⟩
      cases bb
      · go_wp2_with fail
        (go_roundw; (case rel => exact ⟨k + 1, by omega, by go_num, gr_trans hg hg', by rw [Hid, HS.out, hall.out]; rfl⟩); (case measure => simp [intOf]; omega))
      · have HB := hide (HA.out rfl)
        go_wp2_with fail
        go_ret
        exact ⟨k, rfl, by rw [HB.out]; simp, gr_trans hg hg'⟩
    · have HB : Hid (l.any (onSR p) = false) := by have := hall.out; rwa [List.take_of_length_le (by omega)] at this
      go_wp2
      go_ret
      exact ⟨-1, rfl, by rw [HB.out]; rfl, hg⟩

set_option maxHeartbeats 400000 in
theorem containsSgP_any (p : Pt) (gc : Nat) (A : Option Addr) (c : Nat) (l : List Sg) (w : World) (hl : Sl w 0 A l) (hp : PgH w gc p l) :
    Calls Tryz.prog 73 #[.slice A l.length c, .func (.func 148) #[] #[.pointer (some ⟨gc, 0, none⟩)]] w fun e w' => e = .returned (.bool (l.any (onSR p))) ∧ w.grownBy w' none := by
  go_enter Tryz.func73, Tryz.ntmps73
  go_wp2_with fail
  refine (indexSgP_any _ _ _ _ _ _ hl (by assumption)).mono ?_
  rintro e w1 ⟨r, rfl, hr, hg⟩
  replace hr := hide hr
  go_wp2_with fail
  go_ret
  exact ⟨ret_bool hr.out, hg⟩

set_option maxHeartbeats 4000000 in
set_option maxRecDepth 100000 in
theorem insideOf_any (A : Option Addr) (c : Nat) (rs : List (List Pt)) (p : Pt) (w : World) (hl : Sl w 0 A rs) (h100 : rs.length ≤ 100) (hr : ∀ r ∈ rs, 0 < r.length ∧ r.length ≤ 1000 ∧ ∀ q ∈ r, bdW q) (hp : bdW p) :
    Calls Tryz.prog 79 #[.slice A rs.length c, (.agg #[.int .i64 (p).x, .int .i64 (p).y])] w fun e w' => e = .returned (.int .i64 (insF rs p)) ∧ w.grownBy w' none := by
  have hst := hide fun k (m : Int) => par_step (rs := rs) (p := p) (k := k) (m := m)
  have hon : Hid (∀ k, k < rs.length → (∃ j, j < (rs.getD k []).length ∧ onB p (cor (rs.getD k []) j) (cor (rs.getD k []) (j + 1)) = true) → insF rs p = 0) := fun k hk h => by
    unfold insF; rw [if_pos (onAny_iff.2 ⟨k, hk, h⟩)]
  have hend : Hid (∀ m : Int, 0 ≤ m → decide (m % 2 = 1) = parR rs p rs.length → offK rs p rs.length → insF rs p = 2 * (m % 2) - 1) := fun m h0 h1 h2 => by
    unfold insF
    rw [off_all h2, if_neg (by simp), ← h1]
    by_cases h : m % 2 = 1
    · simp [h]
    · have : m % 2 = 0 := by omega
      simp [this]
  have hoff := hide fun k => off_next (rs := rs) (p := p) (k := k)
  have hat : Hid (∀ k (h : k < rs.length), rs.getD k [] = rs[k]) := fun k h => by rw [List.getD_eq_getElem?_getD, List.getElem?_eq_getElem h, Option.getD_some]
  replace hp := hide hp
  replace hr := hide hr
  obtain ⟨V, hV⟩ : ∃ V, V = insF rs p := ⟨_, rfl⟩
  rw [← hV] at hon hend ⊢
  clear hV
  go_enter Tryz.func79, Tryz.ntmps79
  go_upto_region 1 with fail
  obtain ⟨w3, hw3⟩ : ∃ x, x = (w).alloc (.cells [.int .i64 p.x, .int .i64 p.y].toArray 30) := ⟨_, rfl⟩
  have hg3 : (w).grownBy w3 none := by rw [hw3]; exact gr_alloc (World.grownBy.refl _ _) _
  have hb3 : Box w3 (w).heap.size 30 [.int .i64 p.x, .int .i64 p.y] := by rw [hw3]; exact Box.new _ _ _
  have hxs3 := hb3.lt
  rw [← hw3]
  clear hw3
  obtain ⟨x3, hx3⟩ : ∃ x, x = (w).heap.size := ⟨_, rfl⟩
  rw [← hx3] at hb3 hxs3 ⊢
  have hxl3 : (w).heap.size ≤ x3 := by omega
  clear hx3
  have hself := World.grownBy.refl w3 none
  have hpx : Hid (∀ W, w3.grownBy W none → W.cell? ⟨x3, 0, none⟩ = some (.int .i64 p.x) ∧ W.cell? ⟨x3, 1, none⟩ = some (.int .i64 p.y)) := fun W h => ⟨((hb3.pure h).c 0 rfl).1, ((hb3.pure h).c 1 rfl).1⟩
  replace hl := hl.pure hg3
  clear hb3 hxs3 hxl3
  go_wp2_with fail
  go_loopw [5, 10] (fun s i wr => ∃ (k : Nat) (n : Int), k ≤ rs.length ∧ i = .int .i64 k ∧ (0 ≤ n ∧ n ≤ k) ∧ s = .int .i64 n ∧ Hid (decide (n % 2 = 1) = parR rs p k) ∧ Hid (offK rs p k) ∧ w3.grownBy wr none) (fun _ i _ => rs.length - (intOf i).toNat)
  case atStart => exact ⟨0, 0, Nat.zero_le _, rfl, by omega, rfl, rfl, fun i hi => absurd hi (by omega), hself⟩
  case round =>
    clear hself
    obtain ⟨k, n, hk, rfl, hn0, rfl, hpar, hof, hgr⟩ := hrel
    by_cases hlt : k < rs.length
    · obtain ⟨g, o, B, d, rfl, hb1, c0, -, hsl⟩ := sl_inner' (hl.pure hgr) hlt
      obtain ⟨r1, r2, r3⟩ := hr.out _ (List.getElem_mem hlt)
      have hst' := hide (hst.out k n hn0.1 hpar.out)
      have hon' := hide (hon.out k hlt)
      have hof' := hide (hoff.out k hof.out)
      have hatk := hat.out k hlt
      rw [hatk] at hst' hon' hof'
      clear hatk
      generalize rs[k] = r at *
      have hbd := segW_bd r3 r1
      have hS := hide (sidesRef_any B d r wr hsl (by omega))
      have hsg : Hid ((segK r r.length).any (onSR p) = true ↔ ∃ k, k < r.length ∧ onB p (cor r k) (cor r (k + 1)) = true) := segs_on
      have hC := hide fun (A' : Option Addr) (c' : Nat) W (h : w3.grownBy W none) (hs : Sl W 0 A' (segK r r.length)) => containsSgP_any p x3 A' c' (segK r r.length) W hs ⟨(hpx.out W h).1, (hpx.out W h).2, hp.out, hbd⟩
      rw [segK_len] at hC
      have hW := hide fun W (h : wr.grownBy W none) ho => within_any B d r p W (hsl.pure h) r2 r3 hp.out ho
      generalize segK r r.length = G at *
      clear hbd hsl r3 hr
      go_wp2_with fail
      refine hS.out.mono ?_
      rintro e w4 ⟨A', c', rfl, hO, hg4⟩
      clear hS
      go_wp2_with fail
      refine (hC.out A' c' w4 (hgr.t hg4) (hO.sl.mono (Nat.zero_le _))).mono ?_
      rintro e w5 ⟨rfl, hg5⟩
      clear hC hO
      have hg45 := hg4.t hg5
      rcases hq : G.any (onSR p) with _ | _
      · have hno : ∀ j, j < r.length → onB p (cor r j) (cor r (j + 1)) = false := fun j hj => by
          rcases ho : onB p (cor r j) (cor r (j + 1)) with _ | _
          · rfl
          · have := hsg.out.2 ⟨j, hj, ho⟩
            rw [this] at hq; cases hq
        have hof2 := hide (hof'.out hno)
        have hW2 := hide (fun W h => hW.out W h hno)
        obtain ⟨p0, p1⟩ := hpx.out w5 (hgr.t hg45)
        clear hno hsg hof' hW hon'
        generalize isInF r p = v at *
        go_wp2_with fail
        refine (hW2.out w5 hg45).mono ?_
        rintro e w6 ⟨rfl, hg6⟩
        clear hW2 p0 p1
        go_wp2_with fail
        refine (truth_any _ _).mono ?_
        rintro e w7 ⟨rfl, rfl⟩
        have hgz := hgr.t (hg45.t hg6)
        cases v
        · go_wp2_with fail
          (go_roundw; (case rel => exact ⟨k + 1, n + 0, by omega, by go_num, by omega, by go_num, hst', hof2, hgz⟩); (case measure => simp [intOf]; omega))
        · go_wp2_with fail
          (go_roundw; (case rel => exact ⟨k + 1, n + 1, by omega, by go_num, by omega, by go_num, hst', hof2, hgz⟩); (case measure => simp [intOf]; omega))
      · have hz := hide (hon'.out (hsg.out.1 hq))
        clear hsg hof' hW hon' hst'
        go_wp2_with fail
        go_ret
        exact ⟨ret_int hz.out.symm, hg3.t (hgr.t hg45)⟩
    · obtain rfl : k = rs.length := by omega
      have hz := hide (hend.out n hn0.1 hpar.out hof.out)
      clear hl hst hon hend hoff hat hr hpar hof
      go_wp2_with fail
      go_ret
      exact ⟨ret_int hz.out.symm, hg3.t hgr⟩

end Go.Proofs.YtgcpegjggakemaaGreatDoor

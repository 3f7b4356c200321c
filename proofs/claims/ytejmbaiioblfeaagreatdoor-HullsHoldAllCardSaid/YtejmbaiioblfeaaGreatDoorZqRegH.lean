/- Contracts of functions that this seat's laws reach, each: what one call returns and what it leaves in memory; no condition beyond each theorem's own hypotheses. -/
import Derived.Test.YtejmbaiioblfeaaGreatDoorZqRegF
import Derived.Test.YtejmbaiioblfeaaGreatDoorZqFillOut
set_option linter.unusedVariables false
set_option linter.unusedSimpArgs false
namespace Go.Bl
open Go

def dblK (r : List Pt) : Nat → Int
  | 0 => 0
  | k + 1 => dblK r k + ((cor r k).x * (cor r (k + 1)).y - (cor r k).y * (cor r (k + 1)).x)

def dblF (r : List Pt) : Int := dblK r r.length

theorem mul_co {a b : Int} (ha : -100000 ≤ a ∧ a ≤ 100000) (hb : -100000 ≤ b ∧ b ≤ 100000) : -10000000000 ≤ a * b ∧ a * b ≤ 10000000000 := mulm_bd (m := 100000) (n := 100000) ha hb (by decide)

theorem dblK_bd {r : List Pt} (h : ∀ i, bdP (cor r i)) : ∀ k : Nat, -(20000000000 * (k : Int)) ≤ dblK r k ∧ dblK r k ≤ 20000000000 * (k : Int)
  | 0 => by simp [dblK]
  | k + 1 => by
    have ih := dblK_bd h k
    have h1 := h k
    have h2 := h (k + 1)
    unfold bdP at h1 h2
    have m1 := mul_co h1.1 h2.2
    have m2 := mul_co h1.2 h2.1
    unfold dblK
    constructor <;> (push_cast; omega)
/-- a region whose rings can be walked -/
structure ROk (rs : List (List Pt)) : Prop where
  few : rs.length ≤ 100
  len : ∀ r ∈ rs, 3 ≤ r.length ∧ r.length ≤ 500
  bd : ∀ r ∈ rs, ∀ p ∈ r, bdP p

theorem cor_bd {r : List Pt} (h : ∀ p ∈ r, bdP p) (h0 : 0 < r.length) (i : Nat) : bdP (cor r i) := h _ (cor_mem h0 i)

theorem rok_of {rs : List (List Pt)} (h : regF rs = 0) : ROk rs := by
  unfold regF at h
  by_cases h1 : 100 < rs.length ∨ 2000 < (flatK rs rs.length).length
  · rw [if_pos h1] at h; cases h
  · rw [if_neg h1] at h
    by_cases h2 : scanN (fun k => ringF (rs.getD k [])) rs.length = 0
    · have hr : ∀ r ∈ rs, ringF r = 0 := fun r hr => by
        obtain ⟨i, hi, rfl⟩ := List.getElem_of_mem hr
        have := scanN_zero' h2 i hi
        simpa [List.getD, hi] using this
      exact ⟨by omega, fun r h => ⟨(ringF_ok (hr r h)).1, (ringF_ok (hr r h)).2.1⟩, fun r h => (ringF_ok (hr r h)).2.2.1⟩
    · rw [if_pos h2] at h; exact absurd h h2

end Go.Bl
namespace Go.Proofs.YtejmbaiioblfeaaGreatDoor
open Go Go.RowKit Go.Bl

set_option maxHeartbeats 800000 in
theorem absR_any (n : Int) (w : World) (h : -9223372036854775807 ≤ n ∧ n ≤ 9223372036854775807) : Calls Tryz.prog 41 #[.int .i64 n] w fun e w' => e = .returned (.int .i64 (max n (-n))) ∧ w = w' := by
  go_enter Tryz.func41, Tryz.ntmps41
  go_wp2_with fail
  go_ret
  exact ⟨rfl, rfl⟩

set_option maxHeartbeats 4000000 in
set_option maxRecDepth 100000 in
theorem doubled_any (A : Option Addr) (c : Nat) (r : List Pt) (w : World) (hl : Sl w 0 A r) (h0 : 0 < r.length) (h5 : r.length ≤ 500) (hb : ∀ p ∈ r, bdP p) :
    Calls Tryz.prog 33 #[.slice A r.length c] w fun e w' => e = .returned (.int .i64 (dblF r)) ∧ w.grownBy w' none := by
  have hcb := hide fun i => cor_bd hb h0 i
  obtain ⟨g, o, rfl, -, hbg, hcell⟩ := hl.pt h0
  clear hb hl
  go_enter Tryz.func33, Tryz.ntmps33
  go_wp2_with fail
  go_loopw [3, 9] (fun s i wr => ∃ k : Nat, k ≤ r.length ∧ i = .int .i64 k ∧ s = .int .i64 (dblK r k) ∧ w.grownBy wr none) (fun _ i _ => r.length - (intOf i).toNat)
  case atStart => exact ⟨0, Nat.zero_le _, rfl, rfl, World.grownBy.refl _ _⟩
  case round =>
    obtain ⟨m, hm, rfl, rfl, hg⟩ := hrel
    by_cases hml : m < r.length
    · obtain ⟨j1, hj1⟩ : ∃ j, j = (m + 1) % r.length := ⟨_, rfl⟩
      have hj1b : ((m : Int) + 1) % r.length = j1 := by rw [hj1]; simp
      have hj1l : j1 < r.length := by rw [hj1]; exact Nat.mod_lt _ (by omega)
      have q0 := hg.k (hcell m hml).1
      have q1 := hg.k (hcell m hml).2
      have s0 := hg.k (hcell j1 hj1l).1
      have s1 := hg.k (hcell j1 hj1l).2
      have e1 : cor r m = r[m] := cor_lt hml
      have e2 : cor r (m + 1) = r[j1] := by unfold cor; rw [← hj1]; simp [List.getD, hj1l]
      have hbd := dblK_bd hcb.out m
      have hb1 := hcb.out m
      have hb2 := hcb.out (m + 1)
      have hsn : Hid (dblK r (m + 1) = dblK r m + ((cor r m).x * (cor r (m + 1)).y - (cor r m).y * (cor r (m + 1)).x)) := rfl
      rw [← e1] at q0 q1
      rw [← e2] at s0 s1
      unfold bdP at hb1 hb2
      generalize cor r m = p at *
      generalize cor r (m + 1) = q at *
      have m1 := mul_co hb1.1 hb2.2
      have m2 := mul_co hb1.2 hb2.1
      replace hj1 := hide hj1
      generalize dblK r m = D at *
      clear e1 e2
      go_upto_region 5 with fail
      obtain ⟨w5, hw5⟩ : ∃ x, x = (wr).alloc (.cells [.int .i64 p.x, .int .i64 p.y].toArray 29) := ⟨_, rfl⟩
      have hg5 : (wr).grownBy w5 none := by rw [hw5]; exact gr_alloc (World.grownBy.refl _ _) _
      have hb5 : Box w5 (wr).heap.size 29 [.int .i64 p.x, .int .i64 p.y] := by rw [hw5]; exact Box.new _ _ _
      have hxs5 := hb5.lt
      rw [← hw5]
      clear hw5
      obtain ⟨x5, hx5⟩ : ∃ x, x = (wr).heap.size := ⟨_, rfl⟩
      rw [← hx5] at hb5 hxs5 ⊢
      have hxl5 : (wr).heap.size ≤ x5 := by omega
      clear hx5
      replace s0 := hg5.k s0
      replace s1 := hg5.k s1
      replace hg := gr_trans hg hg5
      go_upto_region 6 with fail
      obtain ⟨w6, hw6⟩ : ∃ x, x = (w5).alloc (.cells [.int .i64 q.x, .int .i64 q.y].toArray 29) := ⟨_, rfl⟩
      have hg6 : (w5).grownBy w6 none := by rw [hw6]; exact gr_alloc (World.grownBy.refl _ _) _
      have hb6 : Box w6 (w5).heap.size 29 [.int .i64 q.x, .int .i64 q.y] := by rw [hw6]; exact Box.new _ _ _
      have hxs6 := hb6.lt
      rw [← hw6]
      clear hw6
      obtain ⟨x6, hx6⟩ : ∃ x, x = (w5).heap.size := ⟨_, rfl⟩
      rw [← hx6] at hb6 hxs6 ⊢
      have hxl6 : (w5).heap.size ≤ x6 := by omega
      clear hx6
      replace hg := gr_trans hg hg6
      replace hb5 := hb5.pure hg6
      clear q0 q1 s0 s1 hg5 hg6
      obtain ⟨a0, -⟩ := hb5.c 0 rfl
      obtain ⟨a1, -⟩ := hb5.c 1 rfl
      obtain ⟨b0, -⟩ := hb6.c 0 rfl
      obtain ⟨b1, -⟩ := hb6.c 1 rfl
      go_wp2_with fail
      (go_roundw; (case rel => exact ⟨m + 1, by omega, by go_num, by rw [hsn.out], hg⟩); (case measure => simp [intOf]; omega))
    · have hme : m = r.length := by omega
      subst hme
      go_wp2_with fail
      go_ret
      exact ⟨rfl, hg⟩

set_option maxHeartbeats 8000000 in
set_option maxRecDepth 100000 in
theorem isIn_any (A : Option Addr) (c : Nat) (r : List Pt) (p : Pt) (w : World) (hl : Sl w 0 A r) (h0 : 0 < r.length) (h5 : r.length ≤ 500) (hb : ∀ p ∈ r, bdP p) (hp : bdP p) :
    Calls Tryz.prog 51 #[.slice A r.length c, .agg #[.int .i64 p.x, .int .i64 p.y]] w fun e w' => e = .returned (.bool (isInF r p)) ∧ w.grownBy w' none := by
  have hcb := hide fun i => cor_bd hb h0 i
  replace hp := hide hp
  obtain ⟨g, o, rfl, -, hbg, hcell⟩ := hl.pt h0
  clear hb hl
  go_enter Tryz.func51, Tryz.ntmps51
  go_upto_region 1 with fail
  obtain ⟨w3, hw3⟩ : ∃ x, x = (w).alloc (.cells [.int .i64 p.x, .int .i64 p.y].toArray 29) := ⟨_, rfl⟩
  have hg3 : (w).grownBy w3 none := by rw [hw3]; exact gr_alloc (World.grownBy.refl _ _) _
  have hb3 : Box w3 (w).heap.size 29 [.int .i64 p.x, .int .i64 p.y] := by rw [hw3]; exact Box.new _ _ _
  have hxs3 := hb3.lt
  rw [← hw3]
  clear hw3
  obtain ⟨x3, hx3⟩ : ∃ x, x = (w).heap.size := ⟨_, rfl⟩
  rw [← hx3] at hb3 hxs3 ⊢
  have hxl3 : (w).heap.size ≤ x3 := by omega
  clear hx3
  go_wp2_with fail
  go_loopw [5, 11] (fun s i wr => ∃ k : Nat, k ≤ r.length ∧ i = .int .i64 k ∧ s = .bool (isInK r p k) ∧ w3.grownBy wr none) (fun _ i _ => r.length - (intOf i).toNat)
  case atStart => exact ⟨0, Nat.zero_le _, rfl, rfl, World.grownBy.refl _ _⟩
  case round =>
    obtain ⟨m, hm, rfl, rfl, hg⟩ := hrel
    have hgw := gr_trans hg3 hg
    by_cases hml : m < r.length
    · obtain ⟨j1, hj1⟩ : ∃ j, j = (m + 1) % r.length := ⟨_, rfl⟩
      have hj1b : ((m : Int) + 1) % r.length = j1 := by rw [hj1]; simp
      have hj1l : j1 < r.length := by rw [hj1]; exact Nat.mod_lt _ (by omega)
      have q0 := hgw.k (hcell m hml).1
      have q1 := hgw.k (hcell m hml).2
      have s0 := hgw.k (hcell j1 hj1l).1
      have s1 := hgw.k (hcell j1 hj1l).2
      have e1 : cor r m = r[m] := cor_lt hml
      have e2 : cor r (m + 1) = r[j1] := by unfold cor; rw [← hj1]; simp [List.getD, hj1l]
      have hT := hide fun w => turn_any (cor r m) (cor r (m + 1)) p w (hcb.out m) (hcb.out (m + 1)) hp.out
      have hX : Hid (crossG r p m = ((decide ((cor r m).y > p.y) != decide ((cor r (m + 1)).y > p.y)) && (decide (turnP (cor r m) (cor r (m + 1)) p > 0) == decide ((cor r (m + 1)).y > (cor r m).y)))) := rfl
      have hK : Hid (isInK r p (m + 1) = if crossG r p m then !isInK r p m else isInK r p m) := rfl
      rw [← e1] at q0 q1
      rw [← e2] at s0 s1
      generalize turnP (cor r m) (cor r (m + 1)) p = t at *
      generalize cor r m = a at *
      generalize cor r (m + 1) = b at *
      generalize crossG r p m = cb at *
      generalize isInK r p m = I at *
      replace hj1 := hide hj1
      clear e1 e2
      go_upto_region 5 with fail
      obtain ⟨w7, hw7⟩ : ∃ x, x = (wr).alloc (.cells [.int .i64 a.x, .int .i64 a.y].toArray 29) := ⟨_, rfl⟩
      have hg7 : (wr).grownBy w7 none := by rw [hw7]; exact gr_alloc (World.grownBy.refl _ _) _
      have hb7 : Box w7 (wr).heap.size 29 [.int .i64 a.x, .int .i64 a.y] := by rw [hw7]; exact Box.new _ _ _
      have hxs7 := hb7.lt
      rw [← hw7]
      clear hw7
      obtain ⟨x7, hx7⟩ : ∃ x, x = (wr).heap.size := ⟨_, rfl⟩
      rw [← hx7] at hb7 hxs7 ⊢
      have hxl7 : (wr).heap.size ≤ x7 := by omega
      clear hx7
      replace s0 := hg7.k s0
      replace s1 := hg7.k s1
      replace hg := gr_trans hg hg7
      go_upto_region 6 with fail
      obtain ⟨w8, hw8⟩ : ∃ x, x = (w7).alloc (.cells [.int .i64 b.x, .int .i64 b.y].toArray 29) := ⟨_, rfl⟩
      have hg8 : (w7).grownBy w8 none := by rw [hw8]; exact gr_alloc (World.grownBy.refl _ _) _
      have hb8 : Box w8 (w7).heap.size 29 [.int .i64 b.x, .int .i64 b.y] := by rw [hw8]; exact Box.new _ _ _
      have hxs8 := hb8.lt
      rw [← hw8]
      clear hw8
      obtain ⟨x8, hx8⟩ : ∃ x, x = (w7).heap.size := ⟨_, rfl⟩
      rw [← hx8] at hb8 hxs8 ⊢
      have hxl8 : (w7).heap.size ≤ x8 := by omega
      clear hx8
      replace hg := gr_trans hg hg8
      replace hb7 := hb7.pure hg8
      have hb3' := hb3.pure hg
      clear q0 q1 s0 s1 hg7 hg8
      obtain ⟨a0, -⟩ := hb7.c 0 rfl
      obtain ⟨a1, -⟩ := hb7.c 1 rfl
      obtain ⟨b0, -⟩ := hb8.c 0 rfl
      obtain ⟨b1, -⟩ := hb8.c 1 rfl
      obtain ⟨p0, -⟩ := hb3'.c 0 rfl
      obtain ⟨p1, -⟩ := hb3'.c 1 rfl
      simp only [hj1b]
      clear hj1b
      obtain ⟨d1, hd1⟩ : ∃ d, d = decide (a.y > p.y) := ⟨_, rfl⟩
      obtain ⟨d2, hd2⟩ : ∃ d, d = decide (b.y > p.y) := ⟨_, rfl⟩
      rw [← hd1, ← hd2] at hX
      have hd1' : decide (p.y < a.y) = d1 := hd1.symm
      have hd2' : decide (p.y < b.y) = d2 := hd2.symm
      clear hd1 hd2
      rcases hd : (d1 != d2) with _ | _
      · have hdd : (d1 == d2) = true := by simpa using hd
        rw [hd, Bool.false_and] at hX
        clear hd
        have hK2 : Hid (isInK r p (m + 1) = I) := by rw [Hid, hK.out, hX.out]; rfl
        clear hT hK
        refine wp_region_tree (fun wx => w8.grownBy wx none) [2, 1, 2, 1, 2, 2, 1, 2, 1, 2, 2, 2, 1, 1, 1, 0, 2, 2, 1, 2, 1, 2, 2, 2] (.bl 0 (.bl 1 (.bl 2 (.bl 3 (.bl 4 (.bl 5 (.bl 6 (.bl 7 (.bl 8 (.bl 9 (.bl 10 (.bl 11 (.bl 12 (.bl 13 (.bl 14 (.bl 17 (.bl 18 (.bl 19 (.bl 20 (.bl 21 (.ef 15 (.bl 16 (.bl 22 (.bl 23 .done)))))))))))))))))))))))) (by kernel_rfl) (by kernel_rfl) (gr_drew (World.grownBy.refl _ _)) ?_
        obtain ⟨W1, hW1⟩ : ∃ x, x = (w8).drew := ⟨_, rfl⟩
        rw [← hW1]
        have hgW1 : (w8).grownBy W1 none := by rw [hW1]; exact gr_drew (World.grownBy.refl _ _)
        clear hW1
        refine tree_p rfl rfl rfl rfl _ rfl (by simp) (fun K hK => ?_)
        apply Exists.intro
        refine ⟨fun wq K' hK' => ?_, ?_⟩
        · go_wp2_with fail
          exact hK'
        go_simp
        refine hK _ ?_
        clear hK K
        refine tree_b rfl rfl rfl rfl _ rfl (by simp) (fun K hK => ?_)
        apply Exists.intro
        refine ⟨fun wq hq K' hK' => ?_, ?_⟩
        · have aa0 := hq.k a0
          have aa1 := hq.k a1
          have bb0 := hq.k b0
          have bb1 := hq.k b1
          have pp0 := hq.k p0
          have pp1 := hq.k p1
          go_wp2_with fail
          exact hK'
        go_simp
        refine hK _ ?_
        clear hK K
        refine tree_p rfl rfl rfl rfl _ rfl (by simp) (fun K hK => ?_)
        apply Exists.intro
        refine ⟨fun wq K' hK' => ?_, ?_⟩
        · go_wp2_with fail
          exact hK'
        go_simp
        refine hK _ ?_
        clear hK K
        refine tree_b rfl rfl rfl rfl _ rfl (by simp) (fun K hK => ?_)
        apply Exists.intro
        refine ⟨fun wq hq K' hK' => ?_, ?_⟩
        · have aa0 := hq.k a0
          have aa1 := hq.k a1
          have bb0 := hq.k b0
          have bb1 := hq.k b1
          have pp0 := hq.k p0
          have pp1 := hq.k p1
          go_wp2_with fail
          exact hK'
        go_simp
        refine hK _ ?_
        clear hK K
        refine tree_p rfl rfl rfl rfl _ rfl (by simp) (fun K hK => ?_)
        apply Exists.intro
        refine ⟨fun wq K' hK' => ?_, ?_⟩
        · go_wp2_with fail
          exact hK'
        go_simp
        refine hK _ ?_
        clear hK K
        refine tree_p rfl rfl rfl rfl _ rfl (by simp) (fun K hK => ?_)
        apply Exists.intro
        refine ⟨fun wq K' hK' => ?_, ?_⟩
        · go_wp2_with fail
          exact hK'
        go_simp
        refine hK _ ?_
        clear hK K
        refine tree_b rfl rfl rfl rfl _ rfl (by simp) (fun K hK => ?_)
        apply Exists.intro
        refine ⟨fun wq hq K' hK' => ?_, ?_⟩
        · have aa0 := hq.k a0
          have aa1 := hq.k a1
          have bb0 := hq.k b0
          have bb1 := hq.k b1
          have pp0 := hq.k p0
          have pp1 := hq.k p1
          go_wp2_with fail
          exact hK'
        go_simp
        refine hK _ ?_
        clear hK K
        refine tree_p rfl rfl rfl rfl _ rfl (by simp) (fun K hK => ?_)
        apply Exists.intro
        refine ⟨fun wq K' hK' => ?_, ?_⟩
        · go_wp2_with fail
          exact hK'
        go_simp
        refine hK _ ?_
        clear hK K
        refine tree_b rfl rfl rfl rfl _ rfl (by simp) (fun K hK => ?_)
        apply Exists.intro
        refine ⟨fun wq hq K' hK' => ?_, ?_⟩
        · have aa0 := hq.k a0
          have aa1 := hq.k a1
          have bb0 := hq.k b0
          have bb1 := hq.k b1
          have pp0 := hq.k p0
          have pp1 := hq.k p1
          go_wp2_with fail
          exact hK'
        go_simp
        refine hK _ ?_
        clear hK K
        refine tree_p rfl rfl rfl rfl _ rfl (by simp) (fun K hK => ?_)
        apply Exists.intro
        refine ⟨fun wq K' hK' => ?_, ?_⟩
        · go_wp2_with fail
          exact hK'
        go_simp
        refine hK _ ?_
        clear hK K
        refine tree_p rfl rfl rfl rfl _ rfl (by simp) (fun K hK => ?_)
        apply Exists.intro
        refine ⟨fun wq K' hK' => ?_, ?_⟩
        · go_wp2_with fail
          exact hK'
        go_simp
        refine hK _ ?_
        clear hK K
        refine tree_p rfl rfl rfl rfl _ rfl (by simp) (fun K hK => ?_)
        apply Exists.intro
        refine ⟨fun wq K' hK' => ?_, ?_⟩
        · go_wp2_with fail
          exact hK'
        go_simp
        refine hK _ ?_
        clear hK K
        refine tree_skip rfl rfl ?_
        try go_simp
        refine tree_skip rfl rfl ?_
        try go_simp
        refine tree_skip rfl rfl ?_
        try go_simp
        refine tree_skip rfl rfl ?_
        try go_simp
        refine tree_skip rfl rfl ?_
        try go_simp
        refine tree_skip rfl rfl ?_
        try go_simp
        refine tree_skip rfl rfl ?_
        try go_simp
        refine tree_skip rfl rfl ?_
        try go_simp
        refine tree_eskip (fun _ => hgW1) rfl rfl ?_
        try go_simp
        refine tree_skip rfl rfl ?_
        try go_simp
        refine tree_skip rfl rfl ?_
        try go_simp
        refine tree_p rfl rfl rfl rfl _ rfl (by simp) (fun K hK => ?_)
        apply Exists.intro
        refine ⟨fun wq K' hK' => ?_, ?_⟩
        · go_wp2_with fail
          exact hK'
        go_simp
        refine hK _ ?_
        clear hK K
        refine tree_done ?_
        replace hg := gr_trans hg hgW1
        go_wp2_with fail
        (go_roundw; (case rel => exact ⟨m + 1, by omega, by go_num, by rw [hK2.out], hg⟩); (case measure => simp [intOf]; omega))
      · have hdd : (d1 == d2) = false := by simpa using hd
        rw [hd, Bool.true_and] at hX
        clear hd
        refine wp_region_tree (fun wx => w8.grownBy wx none) [2, 1, 2, 1, 2, 2, 1, 2, 1, 2, 2, 2, 1, 1, 1, 0, 2, 2, 1, 2, 1, 2, 2, 2] (.bl 0 (.bl 1 (.bl 2 (.bl 3 (.bl 4 (.bl 5 (.bl 6 (.bl 7 (.bl 8 (.bl 9 (.bl 10 (.bl 11 (.bl 12 (.bl 13 (.bl 14 (.bl 17 (.bl 18 (.bl 19 (.bl 20 (.bl 21 (.ef 15 (.bl 16 (.bl 22 (.bl 23 .done)))))))))))))))))))))))) (by kernel_rfl) (by kernel_rfl) (gr_drew (World.grownBy.refl _ _)) ?_
        obtain ⟨W1, hW1⟩ : ∃ x, x = (w8).drew := ⟨_, rfl⟩
        rw [← hW1]
        have hgW1 : (w8).grownBy W1 none := by rw [hW1]; exact gr_drew (World.grownBy.refl _ _)
        clear hW1
        refine tree_p rfl rfl rfl rfl _ rfl (by simp) (fun K hK => ?_)
        apply Exists.intro
        refine ⟨fun wq K' hK' => ?_, ?_⟩
        · go_wp2_with fail
          exact hK'
        go_simp
        refine hK _ ?_
        clear hK K
        refine tree_b rfl rfl rfl rfl _ rfl (by simp) (fun K hK => ?_)
        apply Exists.intro
        refine ⟨fun wq hq K' hK' => ?_, ?_⟩
        · have aa0 := hq.k a0
          have aa1 := hq.k a1
          have bb0 := hq.k b0
          have bb1 := hq.k b1
          have pp0 := hq.k p0
          have pp1 := hq.k p1
          go_wp2_with fail
          exact hK'
        go_simp
        refine hK _ ?_
        clear hK K
        refine tree_p rfl rfl rfl rfl _ rfl (by simp) (fun K hK => ?_)
        apply Exists.intro
        refine ⟨fun wq K' hK' => ?_, ?_⟩
        · go_wp2_with fail
          exact hK'
        go_simp
        refine hK _ ?_
        clear hK K
        refine tree_b rfl rfl rfl rfl _ rfl (by simp) (fun K hK => ?_)
        apply Exists.intro
        refine ⟨fun wq hq K' hK' => ?_, ?_⟩
        · have aa0 := hq.k a0
          have aa1 := hq.k a1
          have bb0 := hq.k b0
          have bb1 := hq.k b1
          have pp0 := hq.k p0
          have pp1 := hq.k p1
          go_wp2_with fail
          exact hK'
        go_simp
        refine hK _ ?_
        clear hK K
        refine tree_p rfl rfl rfl rfl _ rfl (by simp) (fun K hK => ?_)
        apply Exists.intro
        refine ⟨fun wq K' hK' => ?_, ?_⟩
        · go_wp2_with fail
          exact hK'
        go_simp
        refine hK _ ?_
        clear hK K
        refine tree_p rfl rfl rfl rfl _ rfl (by simp) (fun K hK => ?_)
        apply Exists.intro
        refine ⟨fun wq K' hK' => ?_, ?_⟩
        · go_wp2_with fail
          exact hK'
        go_simp
        refine hK _ ?_
        clear hK K
        refine tree_b rfl rfl rfl rfl _ rfl (by simp) (fun K hK => ?_)
        apply Exists.intro
        refine ⟨fun wq hq K' hK' => ?_, ?_⟩
        · have aa0 := hq.k a0
          have aa1 := hq.k a1
          have bb0 := hq.k b0
          have bb1 := hq.k b1
          have pp0 := hq.k p0
          have pp1 := hq.k p1
          go_wp2_with fail
          exact hK'
        go_simp
        refine hK _ ?_
        clear hK K
        refine tree_p rfl rfl rfl rfl _ rfl (by simp) (fun K hK => ?_)
        apply Exists.intro
        refine ⟨fun wq K' hK' => ?_, ?_⟩
        · go_wp2_with fail
          exact hK'
        go_simp
        refine hK _ ?_
        clear hK K
        refine tree_b rfl rfl rfl rfl _ rfl (by simp) (fun K hK => ?_)
        apply Exists.intro
        refine ⟨fun wq hq K' hK' => ?_, ?_⟩
        · have aa0 := hq.k a0
          have aa1 := hq.k a1
          have bb0 := hq.k b0
          have bb1 := hq.k b1
          have pp0 := hq.k p0
          have pp1 := hq.k p1
          go_wp2_with fail
          exact hK'
        go_simp
        refine hK _ ?_
        clear hK K
        refine tree_p rfl rfl rfl rfl _ rfl (by simp) (fun K hK => ?_)
        apply Exists.intro
        refine ⟨fun wq K' hK' => ?_, ?_⟩
        · go_wp2_with fail
          exact hK'
        go_simp
        refine hK _ ?_
        clear hK K
        refine tree_p rfl rfl rfl rfl _ rfl (by simp) (fun K hK => ?_)
        apply Exists.intro
        refine ⟨fun wq K' hK' => ?_, ?_⟩
        · go_wp2_with fail
          exact hK'
        go_simp
        refine hK _ ?_
        clear hK K
        refine tree_p rfl rfl rfl rfl _ rfl (by simp) (fun K hK => ?_)
        apply Exists.intro
        refine ⟨fun wq K' hK' => ?_, ?_⟩
        · go_wp2_with fail
          exact hK'
        go_simp
        refine hK _ ?_
        clear hK K
        refine tree_b rfl rfl rfl rfl _ rfl (by simp) (fun K hK => ?_)
        apply Exists.intro
        refine ⟨fun wq hq K' hK' => ?_, ?_⟩
        · have aa0 := hq.k a0
          have aa1 := hq.k a1
          have bb0 := hq.k b0
          have bb1 := hq.k b1
          have pp0 := hq.k p0
          have pp1 := hq.k p1
          go_wp2_with fail
          exact hK'
        go_simp
        refine hK _ ?_
        clear hK K
        refine tree_b rfl rfl rfl rfl _ rfl (by simp) (fun K hK => ?_)
        apply Exists.intro
        refine ⟨fun wq hq K' hK' => ?_, ?_⟩
        · have aa0 := hq.k a0
          have aa1 := hq.k a1
          have bb0 := hq.k b0
          have bb1 := hq.k b1
          have pp0 := hq.k p0
          have pp1 := hq.k p1
          go_wp2_with fail
          exact hK'
        go_simp
        refine hK _ ?_
        clear hK K
        refine tree_b rfl rfl rfl rfl _ rfl (by simp) (fun K hK => ?_)
        apply Exists.intro
        refine ⟨fun wq hq K' hK' => ?_, ?_⟩
        · have aa0 := hq.k a0
          have aa1 := hq.k a1
          have bb0 := hq.k b0
          have bb1 := hq.k b1
          have pp0 := hq.k p0
          have pp1 := hq.k p1
          go_wp2_with fail
          exact hK'
        go_simp
        refine hK _ ?_
        clear hK K
        refine tree_p rfl rfl rfl rfl _ rfl (by simp) (fun K hK => ?_)
        apply Exists.intro
        refine ⟨fun wq K' hK' => ?_, ?_⟩
        · go_wp2_with fail
          exact hK'
        go_simp
        refine hK _ ?_
        clear hK K
        refine tree_b rfl rfl rfl rfl _ rfl (by simp) (fun K hK => ?_)
        apply Exists.intro
        refine ⟨fun wq hq K' hK' => ?_, ?_⟩
        · have aa0 := hq.k a0
          have aa1 := hq.k a1
          have bb0 := hq.k b0
          have bb1 := hq.k b1
          have pp0 := hq.k p0
          have pp1 := hq.k p1
          go_wp2_with fail
          exact hK'
        go_simp
        refine hK _ ?_
        clear hK K
        refine tree_p rfl rfl rfl rfl _ rfl (by simp) (fun K hK => ?_)
        apply Exists.intro
        refine ⟨fun wq K' hK' => ?_, ?_⟩
        · go_wp2_with fail
          exact hK'
        go_simp
        refine hK _ ?_
        clear hK K
        refine tree_b rfl rfl rfl rfl _ rfl (by simp) (fun K hK => ?_)
        apply Exists.intro
        refine ⟨fun wq hq K' hK' => ?_, ?_⟩
        · have aa0 := hq.k a0
          have aa1 := hq.k a1
          have bb0 := hq.k b0
          have bb1 := hq.k b1
          have pp0 := hq.k p0
          have pp1 := hq.k p1
          go_wp2_with fail
          exact hK'
        go_simp
        refine hK _ ?_
        clear hK K
        refine tree_p rfl rfl rfl rfl _ rfl (by simp) (fun K hK => ?_)
        apply Exists.intro
        refine ⟨fun wq K' hK' => ?_, ?_⟩
        · go_wp2_with fail
          exact hK'
        go_simp
        refine hK _ ?_
        clear hK K
        refine tree_e rfl rfl (fun K hK => ?_)
        go_wp2_with fail
        refine (hT.out _).mono ?_
        rintro e w15 ⟨rfl, hg15⟩
        go_wp2_with fail
        try go_simp
        refine hK _ _ (gr_trans hgW1 hg15) ?_
        clear hK K
        refine tree_p rfl rfl rfl rfl _ rfl (by simp) (fun K hK => ?_)
        apply Exists.intro
        refine ⟨fun wq K' hK' => ?_, ?_⟩
        · go_wp2_with fail
          exact hK'
        go_simp
        refine hK _ ?_
        clear hK K
        refine tree_p rfl rfl rfl rfl _ rfl (by simp) (fun K hK => ?_)
        apply Exists.intro
        refine ⟨fun wq K' hK' => ?_, ?_⟩
        · go_wp2_with fail
          exact hK'
        go_simp
        refine hK _ ?_
        clear hK K
        refine tree_p rfl rfl rfl rfl _ rfl (by simp) (fun K hK => ?_)
        apply Exists.intro
        refine ⟨fun wq K' hK' => ?_, ?_⟩
        · go_wp2_with fail
          exact hK'
        go_simp
        refine hK _ ?_
        clear hK K
        refine tree_done ?_
        replace hg := gr_trans (gr_trans hg hgW1) hg15
        clear hT
        have hX2 : (decide (0 < t) == decide (a.y < b.y)) = cb := hX.out.symm
        clear hX
        replace hX2 := hide hX2
        go_wp2_with fail
        all_goals
          (go_roundw; (case rel => exact ⟨m + 1, by omega, by go_num, by rw [hK.out, ← hX2.out]; simp [*], hg⟩); (case measure => simp [intOf]; omega))
    · have hme : m = r.length := by omega
      subst hme
      go_wp2_with fail
      go_ret
      exact ⟨rfl, hgw⟩

def dptK (rs : List (List Pt)) (i : Nat) : Nat → Int
  | 0 => 0
  | k + 1 => if i != k && isInF (rs.getD k []) (cor (rs.getD i []) 0) then dptK rs i k + 1 else dptK rs i k

def dptF (rs : List (List Pt)) (i : Nat) : Int := dptK rs i rs.length

def dptsK (rs : List (List Pt)) (k : Nat) : List Int := (List.range rs.length).map fun i => if i < k then dptF rs i else 0

def dptsF (rs : List (List Pt)) : List Int := dptsK rs rs.length

theorem dptsK_len (rs : List (List Pt)) (k : Nat) : (dptsK rs k).length = rs.length := by simp [dptsK]

theorem dptsK_zero (rs : List (List Pt)) : dptsK rs 0 = List.replicate rs.length 0 := by
  apply List.ext_getElem <;> simp [dptsK]

theorem dptsK_get {rs : List (List Pt)} {k i : Nat} (h : i < (dptsK rs k).length) : (dptsK rs k)[i] = if i < k then dptF rs i else 0 := by simp [dptsK]

theorem dptsK_succ {rs : List (List Pt)} {k : Nat} (h : k < rs.length) : dptsK rs (k + 1) = (dptsK rs k).set k (dptF rs k) := by
  apply List.ext_getElem
  · simp [dptsK]
  · intro j h1 h2
    rw [List.getElem_set, dptsK_get]
    by_cases e : k = j
    · subst e; simp
    · rw [if_neg e, dptsK_get]
      by_cases h3 : j < k
      · rw [if_pos h3, if_pos (by omega)]
      · rw [if_neg h3, if_neg (by omega)]

theorem dptK_bd (rs : List (List Pt)) (i : Nat) : ∀ k : Nat, 0 ≤ dptK rs i k ∧ dptK rs i k ≤ k
  | 0 => by simp [dptK]
  | k + 1 => by
    have ih := dptK_bd rs i k
    unfold dptK
    split <;> (constructor <;> (push_cast; omega))

set_option maxHeartbeats 8000000 in
set_option maxRecDepth 100000 in
theorem depths_any (A : Option Addr) (c : Nat) (rs : List (List Pt)) (w : World) (hl : Sl w 0 A rs) (hok : ROk rs) :
    Calls Tryz.prog 32 #[.slice A rs.length c] w fun e w' => ∃ g, e = .returned (.slice (some ⟨g, 0, none⟩) rs.length rs.length) ∧ Own w' w.heap.size 3 (some ⟨g, 0, none⟩) rs.length (dptsF rs) ∧ w.grownBy w' none := by
  have hfew := hok.few
  obtain ⟨i0, hi, hz, hi1, hi2⟩ := info_parts info_int
  obtain ⟨w2, hrun, hoO, hg2⟩ := run_makeOwn (P := Tryz.prog) w 22 3 i0 _ (0 : Int) Tryz.underlying22 hi hz hi1 rfl rfl .i64 .i64 rs.length (by rw [hi2]; omega) (by simp [maxLen]; omega)
  clear hi hz hi1 hi2 i0
  obtain ⟨gs, hgs⟩ : ∃ g, g = w.heap.size := ⟨_, rfl⟩
  rw [← hgs] at hrun hoO
  have hgs0 : w.heap.size ≤ gs := by omega
  clear hgs
  replace hoO := hoO.lower hgs0
  rw [← dptsK_zero] at hoO
  replace hok := hide hok
  go_enter Tryz.func32, Tryz.ntmps32
  go_wp2_with fail
  clear hrun
  go_loopw [13] (fun i wr => ∃ k : Nat, k ≤ rs.length ∧ i = .int .i64 k ∧ Own wr w.heap.size 3 (some ⟨gs, 0, none⟩) rs.length (dptsK rs k) ∧ w.grownBy wr none) (fun i _ => rs.length - (intOf i).toNat)
  case atStart => exact ⟨0, Nat.zero_le _, rfl, hoO, hg2⟩
  case round =>
    clear hoO hg2
    obtain ⟨k, hk, rfl, hoO, hg⟩ := hrel
    by_cases hlt : k < rs.length
    · obtain ⟨g, o, Bk, dk, rfl, hb1, c0, -, hsl⟩ := sl_inner' hl hlt
      replace c0 := hg.k c0
      have hlk := hok.out.len _ (List.getElem_mem hlt)
      have hbk := hok.out.bd _ (List.getElem_mem hlt)
      have hek : rs.getD k [] = rs[k] := by simp [List.getD, hlt]
      have hst := hide (dptsK_succ hlt)
      have h0k : 0 < rs[k].length := by omega
      obtain ⟨gk, ok, rfl, -, hbgk, hcell⟩ := hsl.pt h0k
      have p0 := (hcell 0 h0k).1
      have p1 := (hcell 0 h0k).2
      rw [Nat.zero_mul, Nat.add_zero] at p0 p1
      have ec : cor rs[k] 0 = rs[k][0] := cor_lt h0k
      have hpb : bdP (cor rs[k] 0) := cor_bd hbk h0k 0
      have hS : Hid (∀ m (hm : m < rs.length), dptK rs k (m + 1) = if k != m && isInF rs[m] (cor rs[k] 0) then dptK rs k m + 1 else dptK rs k m) := fun m hm => by
        show (if k != m && isInF (rs.getD m []) (cor (rs.getD k []) 0) then _ else _) = _
        simp [List.getD, hlt, hm]
      rw [← ec] at p0 p1
      generalize cor rs[k] 0 = P at *
      replace hpb := hide hpb
      have hstart : Own wr w.heap.size 3 (some ⟨gs, 0, none⟩) rs.length ((dptsK rs k).set k (dptK rs k 0)) := by
        have : (dptsK rs k).set k (dptK rs k 0) = dptsK rs k := by
          apply List.ext_getElem
          · simp
          · intro j h1 h2
            rw [List.getElem_set]
            by_cases e : k = j
            · subst e; rw [if_pos rfl, dptsK_get, if_neg (by omega)]; rfl
            · rw [if_neg e]
        rw [this]; exact hoO
      clear ec hbk hek hcell hsl
      go_wp2_with fail
      go_loopw [20] (fun i wr => ∃ m : Nat, m ≤ rs.length ∧ i = .int .i64 m ∧ Own wr w.heap.size 3 (some ⟨gs, 0, none⟩) rs.length ((dptsK rs k).set k (dptK rs k m)) ∧ w.grownBy wr none) (fun i _ => rs.length - (intOf i).toNat)
      case atStart => exact ⟨0, Nat.zero_le _, rfl, hstart, hg⟩
      case round =>
        clear hoO hstart hg c0
        obtain ⟨m, hm, rfl, hoO, hg⟩ := hrel
        by_cases hml : m < rs.length
        · obtain ⟨g2, o2, Bm, dm, e2, hb2, c0, -, hsl⟩ := sl_inner' hl hml
          injection e2 with e2
          injection e2 with e2 e3
          subst e2
          subst e3
          replace c0 := hg.k c0
          have hlm := hok.out.len _ (List.getElem_mem hml)
          have hIn := hide fun (wx : World) (hx : w.grownBy wx none) => isIn_any Bm dm rs[m] P wx (hsl.pure hx) (by omega) (by omega) (hok.out.bd _ (List.getElem_mem hml)) hpb.out
          have hs1 := hide (hS.out m hml)
          have pp0 := hg.k p0
          have pp1 := hg.k p1
          have hbd := dptK_bd rs k m
          have hlen : k < ((dptsK rs k).set k (dptK rs k m)).length := by rw [List.length_set, dptsK_len]; exact hlt
          have d0 := hoO.cell_int hlen
          have df := hoO.frozen k
          rw [List.getElem_set_self] at d0
          have hset := hoO.set_int k (dptK rs k m + 1)
          rw [List.set_set] at hset
          generalize dptK rs k m = D at *
          generalize isInF rs[m] P = b at *
          by_cases hkm : k = m
          · have hb : ((k : Int) != m) = false := by simp [hkm]
            have hs2 : Hid (dptK rs k (m + 1) = D) := by rw [Hid, hs1.out]; simp [hkm]
            clear hs1 hset hkm
            go_wp2_with fail
            (go_roundw; (case rel => exact ⟨m + 1, by omega, by go_num, by rw [hs2.out]; exact hoO, hg⟩); (case measure => simp [intOf]; omega))
          · have hb : ((k : Int) != m) = true := by simp; omega
            have hs2 : Hid (dptK rs k (m + 1) = if b then D + 1 else D) := by rw [Hid, hs1.out]; simp [hkm]
            clear hs1 hkm
            go_wp2_with fail
            refine (hIn.out wr hg).mono ?_
            rintro e w5 ⟨rfl, hg5⟩
            cases b with
            | false =>
              go_wp2_with fail
              (go_roundw; (case rel => exact ⟨m + 1, by omega, by go_num, by rw [hs2.out]; exact hoO.pure hg5, gr_trans hg hg5⟩); (case measure => simp [intOf]; omega))
            | true =>
              replace hoO := hoO.pure hg5
              replace hg := gr_trans hg hg5
              replace d0 := hoO.cell_int hlen
              rw [List.getElem_set_self] at d0
              replace df := hoO.frozen k
              replace hset := hoO.set_int k (D + 1)
              rw [List.set_set] at hset
              have hgs := gr_set hg (p := ⟨gs, k, none⟩) (.inr hgs0) (.int .i64 (D + 1))
              go_wp2_with fail
              (go_roundw; (case rel => exact ⟨m + 1, by omega, by go_num, by rw [hs2.out]; exact hset, hgs⟩); (case measure => simp [intOf]; omega))
        · have hme : m = rs.length := by omega
          subst hme
          rw [show dptK rs k rs.length = dptF rs k from rfl, ← hst.out] at hoO
          go_wp2_with fail
          (go_roundw; (case rel => exact ⟨k + 1, by omega, by go_num, hoO, hg⟩); (case measure => simp [intOf]; omega))
    · have hke : k = rs.length := by omega
      subst hke
      go_wp2_with fail
      go_ret
      exact ⟨gs, rfl, hoO, hg⟩

end Go.Proofs.YtejmbaiioblfeaaGreatDoor

namespace Go.Bl
open Go

def absG (n : Int) : Int := max n (-n)

end Go.Bl
namespace Go.Proofs.YtejmbaiioblfeaaGreatDoor
open Go Go.RowKit Go.Bl

def areaK (rs : List (List Pt)) : Nat → Int
  | 0 => 0
  | k + 1 => if dptF rs k % 2 = 0 then areaK rs k + absG (dblF (rs.getD k [])) else areaK rs k - absG (dblF (rs.getD k []))

def areaF (rs : List (List Pt)) : Int := areaK rs rs.length

def areaT (rs : List (List Pt)) : Int := if regF rs = 0 then areaF rs else 0

theorem areaK_bd {rs : List (List Pt)} (h : ROk rs) : ∀ k : Nat, k ≤ rs.length → -(10000000000000 * (k : Int)) ≤ areaK rs k ∧ areaK rs k ≤ 10000000000000 * (k : Int)
  | 0, _ => by simp [areaK]
  | k + 1, hk => by
    have ih := areaK_bd h k (by omega)
    have e : rs.getD k [] = rs[k] := by simp [List.getD, show k < rs.length by omega]
    have hl := h.len _ (List.getElem_mem (show k < rs.length by omega))
    have hb := dblK_bd (fun i => cor_bd (h.bd _ (List.getElem_mem (show k < rs.length by omega))) (by omega) i) rs[k].length
    unfold areaK
    rw [e]
    unfold dblF absG
    split <;> (constructor <;> (push_cast; omega))

set_option maxHeartbeats 4000000 in
set_option maxRecDepth 100000 in
theorem area_any (A : Option Addr) (c : Nat) (rs : List (List Pt)) (w : World) (hl : Sl w 0 A rs) (hs : (flatK rs rs.length).length ≤ 1000000) :
    Calls Tryz.prog 14 #[.slice A rs.length c] w fun e w' => e = .returned (.tuple #[.int .i64 (areaT rs), .int .i64 (regF rs)]) ∧ w.grownBy w' none := by
  have hC := checkRegion_any A c rs w hl hs
  by_cases h0 : regF rs = 0
  · have hT : areaT rs = areaF rs := if_pos h0
    have hok := rok_of h0
    have hfew := hok.few
    rw [hT]
    rw [h0] at hC ⊢
    clear hT h0
    replace hok := hide hok
    go_enter Tryz.func14, Tryz.ntmps14
    go_wp2_with fail
    refine hC.mono ?_
    rintro e w1 ⟨rfl, hg1⟩
    go_wp2_with fail
    refine (depths_any A c rs w1 (hl.pure hg1) hok.out).mono ?_
    rintro e w2 ⟨g, rfl, hoD, hg2⟩
    have hD := hoD.sl.mono (Nat.zero_le _)
    have hgw := gr_trans hg1 hg2
    have hDl : Hid ((dptsF rs).length = rs.length) := dptsK_len rs rs.length
    have hDg : Hid (∀ k (h : k < (dptsF rs).length), (dptsF rs)[k] = dptF rs k ∧ 0 ≤ dptF rs k) := fun k h => ⟨by
      have : k < rs.length := by rw [← hDl.out]; exact h
      show (dptsK rs rs.length)[k] = _
      rw [dptsK_get (k := rs.length) h, if_pos this], (dptK_bd rs k rs.length).1⟩
    clear hoD hg1 hg2 hC
    go_wp2_with fail
    go_loopw [5, 16] (fun s i wr => ∃ k : Nat, k ≤ rs.length ∧ i = .int .i64 k ∧ s = .int .i64 (areaK rs k) ∧ w2.grownBy wr none) (fun _ i _ => rs.length - (intOf i).toNat)
    case atStart => exact ⟨0, Nat.zero_le _, rfl, rfl, World.grownBy.refl _ _⟩
    case round =>
      obtain ⟨k, hk, rfl, rfl, hg⟩ := hrel
      have hgx := gr_trans hgw hg
      by_cases hlt : k < rs.length
      · obtain ⟨g1, o1, Bk, dk, rfl, hb1, c0, -, hsl⟩ := sl_inner' hl hlt
        replace c0 := hgx.k c0
        have hltD : k < (dptsF rs).length := by rw [hDl.out]; exact hlt
        obtain ⟨g3, o3, cx, e3, _, hb3', rfl, hc⟩ := (hD.pure hg).at_ (by decide) hltD
        injection e3 with e3
        injection e3 with e3 e4
        subst e3
        subst e4
        have r1 : _ := hc 0 _ rfl
        rw [show Enc.sz Int = 1 from rfl, Nat.mul_one, Nat.add_zero, Nat.zero_add, (hDg.out k hltD).1] at r1
        have hd0 := (hDg.out k hltD).2
        clear hc
        have hlk := hok.out.len _ (List.getElem_mem hlt)
        have hDb := hide fun (wx : World) (hx : w.grownBy wx none) => doubled_any Bk dk rs[k] wx (hsl.pure hx) (by omega) (by omega) (hok.out.bd _ (List.getElem_mem hlt))
        have hbd := dblK_bd (fun i => cor_bd (hok.out.bd _ (List.getElem_mem hlt)) (by omega) i) rs[k].length
        have hab := areaK_bd hok.out k hk
        have hAk : Hid (areaK rs (k + 1) = if dptF rs k % 2 = 0 then areaK rs k + absG (dblF rs[k]) else areaK rs k - absG (dblF rs[k])) := by
          rw [Hid]
          show (if dptF rs k % 2 = 0 then areaK rs k + absG (dblF (rs.getD k [])) else areaK rs k - absG (dblF (rs.getD k []))) = _
          simp [List.getD, hlt]
        rw [show dblK rs[k] rs[k].length = dblF rs[k] from rfl] at hbd
        have hrl : (rs[k].length : Int) ≤ 500 := by omega
        unfold absG at hAk
        generalize dblF rs[k] = D at *
        generalize dptF rs k = P at *
        generalize areaK rs k = S at *
        have hAb := hide fun wx => absR_any D wx (by omega)
        by_cases hp : P % 2 = 0
        · rw [Hid, if_pos hp] at hAk
          replace hAk := hide hAk
          have hp2 : ((P % 2 : Int) == 0) = true := by simp [hp]
          clear hp
          go_wp2_with fail
          refine (hDb.out wr hgx).mono ?_
          rintro e w5 ⟨rfl, hg5⟩
          go_wp2_with fail
          refine (hAb.out w5).mono ?_
          rintro e _ ⟨rfl, rfl⟩
          generalize hmx : max D (-D) = M at *
          have hM : 0 ≤ M ∧ M ≤ 10000000000000 := by omega
          replace hmx := hide hmx
          go_wp2_with fail
          (go_roundw; (case rel => exact ⟨k + 1, by omega, by go_num, by rw [hAk.out], gr_trans hg hg5⟩); (case measure => simp [intOf]; omega))
        · rw [Hid, if_neg hp] at hAk
          replace hAk := hide hAk
          have hp2 : ((P % 2 : Int) == 0) = false := by simp [hp]
          clear hp
          go_wp2_with fail
          refine (hDb.out wr hgx).mono ?_
          rintro e w5 ⟨rfl, hg5⟩
          go_wp2_with fail
          refine (hAb.out w5).mono ?_
          rintro e _ ⟨rfl, rfl⟩
          generalize hmx : max D (-D) = M at *
          have hM : 0 ≤ M ∧ M ≤ 10000000000000 := by omega
          replace hmx := hide hmx
          go_wp2_with fail
          (go_roundw; (case rel => exact ⟨k + 1, by omega, by go_num, by rw [hAk.out], gr_trans hg hg5⟩); (case measure => simp [intOf]; omega))
      · have hke : k = rs.length := by omega
        subst hke
        go_wp2_with fail
        exact bodyPost_ret (v := .tuple #[.int .i64 (areaF rs), .int .i64 0]) (by simp [results, Tryz.results14, go_sem, areaF]) rfl ⟨rfl, hgx⟩
  · have hT : areaT rs = 0 := if_neg h0
    rw [hT]
    generalize regF rs = F at *
    have hb : (F != 0) = true := by simp [h0]
    clear hT h0
    go_enter Tryz.func14, Tryz.ntmps14
    go_wp2_with fail
    refine hC.mono ?_
    rintro e w1 ⟨rfl, hg1⟩
    go_wp2_with fail
    exact bodyPost_ret (v := .tuple #[.int .i64 0, .int .i64 F]) (by simp [results, Tryz.results14, go_sem]) rfl ⟨rfl, hg1⟩

end Go.Proofs.YtejmbaiioblfeaaGreatDoor

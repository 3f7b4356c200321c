/- Contracts of functions that this seat's laws reach, each: what one call returns and what it leaves in memory; no condition beyond each theorem's own hypotheses. -/
import Derived.Test.YtmhnjpcjagbdhaaGreatDoorZqSimpA
import Derived.Test.YtmhnjpcjagbdhaaGreatDoorZqRegSame
import Derived.Test.YtmhnjpcjagbdhaaGreatDoorZqRegRefC
import Derived.Test.YtmhnjpcjagbdhaaGreatDoorZqReady
set_option linter.unusedVariables false
set_option linter.unusedSimpArgs false
namespace Go.Proofs.YtmhnjpcjagbdhaaGreatDoor
open Go Go.RowKit Go.Bl

set_option maxHeartbeats 1000000 in
set_option maxRecDepth 100000 in
theorem simpClo_any (q : Pt) (g4 g12 : Nat) (A : Option Addr) (c : Nat) (rs : List (List Pt)) (i : Nat) (w : World) (hi : i < rs.length) (hl : Sl w 0 A rs) (h4 : w.cell? ⟨g4, 0, none⟩ = some (.slice A rs.length c)) (h12 : w.cell? ⟨g12, 0, none⟩ = some (.int .i64 i)) (hq : q ∈ rs[i]) :
    Calls Tryz.prog 9 #[.agg #[.int .i64 q.x, .int .i64 q.y], .pointer (some ⟨g4, 0, none⟩), .pointer (some ⟨g12, 0, none⟩)] w fun e w' => e = .returned (.bool false) ∧ w.grownBy w' none := by
  obtain ⟨g, o, Bk, dk, rfl, hb1, c0, -, hsl⟩ := sl_inner' hl hi
  generalize rs[i] = r at *
  go_enter Tryz.func9, Tryz.ntmps9
  go_upto_region 1 with fail
  obtain ⟨w3, hw3⟩ : ∃ x, x = (w).alloc (.cells [.int .i64 q.x, .int .i64 q.y].toArray 38) := ⟨_, rfl⟩
  have hg3 : (w).grownBy w3 none := by rw [hw3]; exact gr_alloc (World.grownBy.refl _ _) _
  have hb3 : Box w3 (w).heap.size 38 [.int .i64 q.x, .int .i64 q.y] := by rw [hw3]; exact Box.new _ _ _
  have hxs3 := hb3.lt
  rw [← hw3]
  clear hw3
  obtain ⟨x3, hx3⟩ : ∃ x, x = (w).heap.size := ⟨_, rfl⟩
  rw [← hx3] at hb3 hxs3 ⊢
  have hxl3 : (w).heap.size ≤ x3 := by omega
  clear hx3
  obtain ⟨b0, _⟩ := hb3.c 0 rfl
  obtain ⟨b1, _⟩ := hb3.c 1 rfl
  replace h4 := hg3.k h4
  replace h12 := hg3.k h12
  replace c0 := hg3.k c0
  replace hsl := hsl.pure hg3
  have hi0 : (0 : Int) ≤ (i : Int) ∧ (i : Int) < rs.length := by omega
  clear hl
  refine wp_region_tree (fun wx => w3.grownBy wx none) [1, 1, 2, 1, 1, 0, 2, 2] (.bl 0 (.bl 1 (.bl 2 (.bl 3 (.bl 4 (.ef 5 (.bl 6 (.bl 7 .done)))))))) (by kernel_rfl) (by kernel_rfl) (gr_drew (World.grownBy.refl _ _)) ?_
  obtain ⟨W1, hW1⟩ : ∃ x, x = (w3).drew := ⟨_, rfl⟩
  rw [← hW1]
  have hgW1 : (w3).grownBy W1 none := by rw [hW1]; exact gr_drew (World.grownBy.refl _ _)
  clear hW1
  refine tree_b rfl rfl rfl rfl _ rfl (by simp) (fun K hK => ?_)
  apply Exists.intro
  refine ⟨fun wq hq K' hK' => ?_, ?_⟩
  · have y0 := hq.k h4
    have y1 := hq.k h12
    have y2 := hq.k c0
    have y3 := hq.k b0
    have y4 := hq.k b1
    go_wp2_with fail
    exact hK'
  go_simp
  refine hK _ ?_
  clear hK K
  refine tree_b rfl rfl rfl rfl _ rfl (by simp) (fun K hK => ?_)
  apply Exists.intro
  refine ⟨fun wq hq K' hK' => ?_, ?_⟩
  · have y0 := hq.k h4
    have y1 := hq.k h12
    have y2 := hq.k c0
    have y3 := hq.k b0
    have y4 := hq.k b1
    go_wp2_with fail
    exact hK'
  go_simp
  refine hK _ ?_
  clear hK K
  refine tree_p rfl rfl rfl rfl _ rfl (by simp) (fun K hK => ?_)
  apply Exists.intro
  refine ⟨fun wq K' hK' => ?_, ?_⟩
  · go_wp2_with fail
    exact hK'
  go_simp
  refine hK _ ?_
  clear hK K
  refine tree_b rfl rfl rfl rfl _ rfl (by simp) (fun K hK => ?_)
  apply Exists.intro
  refine ⟨fun wq hq K' hK' => ?_, ?_⟩
  · have y0 := hq.k h4
    have y1 := hq.k h12
    have y2 := hq.k c0
    have y3 := hq.k b0
    have y4 := hq.k b1
    go_wp2_with fail
    exact hK'
  go_simp
  refine hK _ ?_
  clear hK K
  refine tree_b rfl rfl rfl rfl _ rfl (by simp) (fun K hK => ?_)
  apply Exists.intro
  refine ⟨fun wq hq K' hK' => ?_, ?_⟩
  · have y0 := hq.k h4
    have y1 := hq.k h12
    have y2 := hq.k c0
    have y3 := hq.k b0
    have y4 := hq.k b1
    go_wp2_with fail
    exact hK'
  go_simp
  refine hK _ ?_
  clear hK K
  refine tree_e0 (by kernel_rfl) rfl rfl (fun K hK => ?_)
  go_wp2_with fail
  refine (containsPt_any Bk _ dk r q W1 (hsl.pure (gr_trans hgW1 (World.grownBy.refl _ _))) rfl).mono ?_
  rintro e w5 ⟨rfl, hg5⟩
  have hW5 : w3.grownBy w5 none := gr_trans (gr_trans hgW1 (World.grownBy.refl _ _)) hg5
  rw [decide_eq_true (by assumption)]
  go_wp2_with fail
  try go_simp
  refine hK _ _ trivial ?_
  clear hK K
  refine tree_p rfl rfl rfl rfl _ rfl (by simp) (fun K hK => ?_)
  apply Exists.intro
  refine ⟨fun wq K' hK' => ?_, ?_⟩
  · go_wp2_with fail
    exact hK'
  go_simp
  refine hK _ ?_
  clear hK K
  refine tree_p rfl rfl rfl rfl _ rfl (by simp) (fun K hK => ?_)
  apply Exists.intro
  refine ⟨fun wq K' hK' => ?_, ?_⟩
  · go_wp2_with fail
    exact hK'
  go_simp
  refine hK _ ?_
  clear hK K
  refine tree_done ?_
  go_wp2_with fail
  go_ret
  exact ⟨rfl, hg3.t hW5⟩

set_option maxHeartbeats 800000 in
set_option maxRecDepth 100000 in
theorem simpNone_any (B : Option Addr) (d : Nat) (l : List Pt) (g4 g12 : Nat) (A : Option Addr) (c : Nat) (rs : List (List Pt)) (i : Nat) (w : World) (hm : Sl w 0 B l) (hi : i < rs.length) (hl : Sl w 0 A rs) (h4 : w.cell? ⟨g4, 0, none⟩ = some (.slice A rs.length c)) (h12 : w.cell? ⟨g12, 0, none⟩ = some (.int .i64 i)) (hq : ∀ q ∈ l, q ∈ rs[i]) :
    Calls Tryz.prog 8 #[.slice B l.length d, .func (.func 9) #[] #[.pointer (some ⟨g4, 0, none⟩), .pointer (some ⟨g12, 0, none⟩)]] w fun e w' => e = .returned (.bool false) ∧ w.grownBy w' none := by
  have hI : Calls Tryz.prog 21 #[.slice B l.length d, .func (.func 9) #[] #[.pointer (some ⟨g4, 0, none⟩), .pointer (some ⟨g12, 0, none⟩)]] w fun e w' => e = .returned (.int .i64 (-1)) ∧ w.grownBy w' none := by
    have hmm := hm.1
    unfold maxLen at hmm
    replace hq := hide hq
    go_enter Tryz.func21, Tryz.ntmps21
    go_wp2
    go_loopw [8] (fun i wr => ∃ k : Nat, k ≤ l.length ∧ i = .int .i64 k ∧ w.grownBy wr none) (fun i _ => l.length - (intOf i).toNat)
    case atStart => exact ⟨0, Nat.zero_le _, rfl, World.grownBy.refl _ _⟩
    case round =>
      obtain ⟨k, hk, rfl, hg⟩ := hrel
      by_cases hlt : k < l.length
      · obtain ⟨g, o, cx, rfl, hb0, hb1, rfl, hc⟩ := (hm.pure hg).at_ (by decide) hlt
        have c0 : wr.cell? ⟨g, o + k * 2, none⟩ = some (.int .i64 l[k].x) := hc 0 _ rfl
        have c1 : wr.cell? ⟨g, o + k * 2 + 1, none⟩ = some (.int .i64 l[k].y) := hc 1 _ rfl
        clear hc
        have hcon := simpClo_any l[k] g4 g12 A c rs i wr hi (hl.pure hg) (hg.k h4) (hg.k h12) (hq.out _ (List.getElem_mem hlt))
        generalize l[k] = q at *
        replace hcon := hide hcon
        go_wp2_with fail
        refine hcon.out.mono ?_
        rintro e w5 ⟨rfl, hg5⟩
        go_wp2_with fail
        (go_roundw; (case rel => exact ⟨k + 1, by omega, by go_num, hg.t hg5⟩); (case measure => simp [intOf]; omega))
      · go_wp2
        go_ret
        exact ⟨rfl, hg⟩
  go_enter Tryz.func8, Tryz.ntmps8
  go_wp2_with fail
  refine hI.mono ?_
  rintro e w1 ⟨rfl, hg⟩
  go_wp2_with fail
  go_ret
  exact ⟨rfl, hg⟩

set_option maxHeartbeats 4000000 in
set_option maxRecDepth 100000 in
theorem simplifiedIsAsLarge_law (A : Option Addr) (n c : Nat) (L : List Int) (w : World) (hL : Sl w 0 A L) (hn : L.length = n) :
    Calls Tryz.prog 3 #[.slice A n c] w fun e w' => e = .returned (.bool true) ∧ w.grownBy w' none := by
  have hs0 := strm_new (c := c) 25 hL hn
  have hg0 := gr_alloc (World.grownBy.refl w none) (.cells #[.slice A n c, .int .i64 0] 25)
  have hR := rightRegion_any _ 0 _ hs0 (by omega)
  go_enter Tryz.func3, Tryz.ntmps3
  go_wp2_with fail
  refine hR.mono ?_
  rintro e w1 ⟨A1, c1, rs, rfl, hl0, -, hrF, ho1⟩
  have hgw : w.grownBy w1 none := gr_new hg0 ho1.1 (Nat.le_refl _)
  have hl1 := hl0.mono (Nat.zero_le _)
  clear hl0 ho1 hs0 hg0 hL hR
  have hfl : (flatK rs rs.length).length ≤ 1000000 := by have := (rok2_of hrF).flat; omega
  obtain ⟨hmF, hmA⟩ := simp_areaT hrF
  have hfl2 : (flatK (simpS rs) (simpS rs).length).length ≤ 1000000 := by have := (rok2_of hmF).flat; omega
  have htw := simpS_twice hrF
  have hml := simpS_len rs
  have hsub : Hid (∀ i (h1 : i < (simpS rs).length) (h2 : i < rs.length), ∀ q ∈ (simpS rs)[i], q ∈ rs[i]) := fun i h1 h2 q hq => by
    have e : (simpS rs)[i] = simpR rs[i] := by
      have h3 := simpS_getD rs i
      rwa [List.getD_eq_getElem?_getD, List.getElem?_eq_getElem h1, Option.getD_some, List.getD_eq_getElem?_getD, List.getElem?_eq_getElem h2, Option.getD_some] at h3
    rw [e] at hq
    exact simp_sub (by have := ((rok_of hrF).len _ (List.getElem_mem h2)).1; omega) q hq
  have hfew := (rok_of hrF).few
  have hS1 := fun wx (hx : w1.grownBy wx none) => simplified_any A1 c1 rs wx (hl1.pure hx) hrF hfl
  have hA1 := fun wx (hx : w1.grownBy wx none) => area_any A1 c1 rs wx (hl1.pure hx) hfl
  rw [hrF] at hA1
  have hS2 := fun (B : Option Addr) (d : Nat) wx (hx : Sl wx 0 B (simpS rs)) => simplified_any B d (simpS rs) wx hx hmF hfl2
  have hA2 := fun (B : Option Addr) (d : Nat) wx (hx : Sl wx 0 B (simpS rs)) => area_any B d (simpS rs) wx hx hfl2
  rw [hmF, hmA] at hA2
  rw [htw] at hS2
  generalize areaT rs = AR at *
  generalize simpS rs = M at *
  replace hS1 := hide hS1
  replace hA1 := hide hA1
  replace hS2 := hide hS2
  replace hA2 := hide hA2
  clear hrF hmF hmA htw hfl hfl2
  replace hml := hide hml
  go_upto_region 3 with fail
  obtain ⟨w4, hw4⟩ : ∃ x, x = (w1).alloc (.cells [.slice A1 rs.length c1].toArray 26) := ⟨_, rfl⟩
  have hg4 : (w1).grownBy w4 none := by rw [hw4]; exact gr_alloc (World.grownBy.refl _ _) _
  have hb4 : Box w4 (w1).heap.size 26 [.slice A1 rs.length c1] := by rw [hw4]; exact Box.new _ _ _
  have hxs4 := hb4.lt
  rw [← hw4]
  clear hw4
  obtain ⟨x4, hx4⟩ : ∃ x, x = (w1).heap.size := ⟨_, rfl⟩
  rw [← hx4] at hb4 hxs4 ⊢
  have hxl4 : (w1).heap.size ≤ x4 := by omega
  clear hx4
  obtain ⟨b0, _⟩ := hb4.c 0 rfl
  go_wp2_with fail
  refine (hS1.out _ hg4).mono ?_
  rintro e w5 ⟨A2, c2, rfl, hN2, hg5⟩
  have hM5 := hN2.sl.mono (Nat.zero_le _)
  clear hN2 hS1 b0
  have hg45 := hg4.t hg5
  obtain ⟨b0, _⟩ := (hb4.pure hg5).c 0 rfl
  go_wp2_with fail
  refine (hA1.out _ hg45).mono ?_
  rintro e w6 ⟨rfl, hg6⟩
  clear hA1 b0
  go_wp2_with fail
  refine (hA2.out A2 c2 _ (hM5.pure hg6)).mono ?_
  rintro e w7 ⟨rfl, hg7⟩
  clear hA2
  have hg67 := hg6.t hg7
  go_wp2_with fail
  refine (hS2.out A2 c2 _ (hM5.pure hg67)).mono ?_
  rintro e w8 ⟨A3, c3, rfl, hN3, hg8⟩
  clear hS2
  have hg58 := hg67.t hg8
  have hM8 := hM5.pure hg58
  have hSR := sameRegion_same A3 c3 M A2 c2 w8 (hN3.sl.mono (Nat.zero_le _)) hM8
  obtain ⟨b0, _⟩ := (hb4.pure (hg5.t hg58)).c 0 rfl
  have hbl : ((M.length : Int) != (rs.length : Int)) = false := by rw [hml.out]; simp
  have hba : (AR != AR) = false := by simp
  clear hN3
  go_wp2_with fail
  refine hSR.mono ?_
  rintro e w9 ⟨rfl, hg9⟩
  clear hSR b0
  have hM9 := hM8.pure hg9
  have hg19 : w1.grownBy w9 none := hg45.t (hg58.t hg9)
  have hb9 := hb4.pure (hg5.t (hg58.t hg9))
  have hl9 := hl1.pure hg19
  have hgz := hgw.t hg19
  clear hb4 hM5 hM8 hl1 hg4 hg5 hg6 hg7 hg8 hg9 hg45 hg58 hg67 hg19 hgw
  go_wp2_with fail
  go_loopw [71] (fun i wr => ∃ k : Nat, k ≤ M.length ∧ i = .int .i64 k ∧ w9.grownBy wr none) (fun i _ => M.length - (intOf i).toNat)
  case atStart => exact ⟨0, Nat.zero_le _, rfl, World.grownBy.refl _ _⟩
  case round =>
    obtain ⟨k, hk, rfl, hg⟩ := hrel
    by_cases hlt : k < M.length
    · have hkr : k < rs.length := by have := hml.out; omega
      obtain ⟨g, o, Bk, dk, rfl, hb1, c0, -, hsl⟩ := sl_inner' hM9 hlt
      replace c0 := hg.k c0
      have hlr := hl9.pure hg
      have hbx := hb9.pure hg
      have hss := hsub.out k hlt hkr
      generalize M[k] = r at *
      go_upto_region 14 with fail
      obtain ⟨w12, hw12⟩ : ∃ x, x = (wr).alloc (.cells [.int .i64 (k : Int)].toArray 3) := ⟨_, rfl⟩
      have hg12 : (wr).grownBy w12 none := by rw [hw12]; exact gr_alloc (World.grownBy.refl _ _) _
      have hb12 : Box w12 (wr).heap.size 3 [.int .i64 (k : Int)] := by rw [hw12]; exact Box.new _ _ _
      have hxs12 := hb12.lt
      rw [← hw12]
      clear hw12
      obtain ⟨x12, hx12⟩ : ∃ x, x = (wr).heap.size := ⟨_, rfl⟩
      rw [← hx12] at hb12 hxs12 ⊢
      have hxl12 : (wr).heap.size ≤ x12 := by omega
      clear hx12
      obtain ⟨z0, _⟩ := hb12.c 0 rfl
      obtain ⟨b0, _⟩ := (hbx.pure hg12).c 0 rfl
      have hcon := simpNone_any Bk dk r x4 x12 A1 c1 rs k w12 (hsl.pure (hg.t hg12)) hkr (hlr.pure hg12) b0 z0 hss
      replace hcon := hide hcon
      clear hss
      go_wp2_with fail
      refine hcon.out.mono ?_
      rintro e w13 ⟨rfl, hg13⟩
      go_wp2_with fail
      (go_roundw; (case rel => exact ⟨k + 1, by omega, by go_num, hg.t (hg12.t hg13)⟩); (case measure => simp [intOf]; omega))
    · go_wp2_with fail
      refine (ready_any _).mono ?_
      rintro e w14 ⟨rfl, hg14⟩
      go_wp2_with fail
      go_ret
      exact ⟨rfl, hgz.t (hg.t hg14)⟩

end Go.Proofs.YtmhnjpcjagbdhaaGreatDoor

/- Contracts of functions that this seat's laws reach, each: what one call returns and what it leaves in memory; no condition beyond each theorem's own hypotheses. -/
import Derived.Test.YtgcpegjggakemaaGreatDoorZqSrtA
import Derived.Test.YtgcpegjggakemaaGreatDoorZqClosData
import Derived.Test.YtgcpegjggakemaaGreatDoorZqQueA
import Derived.Test.YtgcpegjggakemaaGreatDoorZqPartsB
import Derived.Test.YtgcpegjggakemaaGreatDoorZqCntB
set_option linter.unusedVariables false
set_option linter.unusedSimpArgs false
namespace Go.Bl
open Go

theorem nb4_E (p q : Pt) : q ∈ nb4E p ↔ q ∈ nb4 p := by
  cases p; cases q
  simp only [nb4E, nb4, List.mem_cons, List.not_mem_nil, or_false, Pt.mk.injEq]
  omega

end Go.Bl
namespace Go.Proofs.YtgcpegjggakemaaGreatDoor
open Go Go.RowKit Go.Bl

set_option maxHeartbeats 8000000 in
set_option maxRecDepth 100000 in
theorem partsOf_any (c : Cel) (A : Option Addr) (n cc : Nat) (w : World) (ha : CArg w c A n) (hok : CellsOk c) :
    Calls Tryz.prog 32 #[.agg #[.int .i64 (c).step, .int .i64 (c).x, .int .i64 (c).y, .slice A n cc]] w fun e w' => ∃ (Ao : Option Addr) (co : Nat) (raws : List RawC), e = .returned (.slice Ao raws.length co) ∧ Own w' w.heap.size 34 Ao co raws ∧ CMatch w' w.heap.size raws (partsC c) ∧ w.grownBy w' none := by
  have hbd : Hid (∀ x y, onC c x y = true → (-2000000 ≤ x ∧ x ≤ 2000200) ∧ -2000000 ≤ y ∧ y ≤ 2000200) := fun x y h => on_bdG hok h
  have hsp := step_pos hok.step
  have hSa := hide (fun W (h : w.grownBy W none) => setOf_any c A n cc W (ha.pure h) hok.fit)
  have hGo := gridOf_ok hok
  have hat : (gridOf c).at = onC c := funext fun x => funext fun y => gridOf_at hok
  have hPC : Hid (∀ l : List Pt, l.Nodup → (∀ p, p ∈ l ↔ onC c p.x p.y = true) → (∀ i j (hi : i < l.length) (hj : j < l.length), i < j → ¬ (l[j].y < l[i].y ∨ l[j].y = l[i].y ∧ l[j].x < l[i].x)) → partsC c = partsG c.step (onC c) l) := fun l h1 h2 h3 => by
    have e : l = cellsG (gridOf c) (gridOf c).on.length := sorted_uniq (pair_of_sorted h1 h3) (cellsG_pair hGo) (fun p => by rw [h2, cellsG_all hGo, hat])
    unfold partsC
    rw [hat, ← e]
  clear hGo hat ha hok
  generalize onC c = S at *
  generalize partsC c = PC at *
  go_enter Tryz.func32, Tryz.ntmps32
  go_upto_region 1 with fail
  obtain ⟨w1, hw1⟩ : ∃ x, x = (w).alloc (.cells [.int .i64 (c).step, .int .i64 (c).x, .int .i64 (c).y, .slice A n cc].toArray 34) := ⟨_, rfl⟩
  have hg1 : (w).grownBy w1 none := by rw [hw1]; exact gr_alloc (World.grownBy.refl _ _) _
  have hb1 : Box w1 (w).heap.size 34 [.int .i64 (c).step, .int .i64 (c).x, .int .i64 (c).y, .slice A n cc] := by rw [hw1]; exact Box.new _ _ _
  have hxs1 := hb1.lt
  rw [← hw1]
  clear hw1
  obtain ⟨x1, hx1⟩ : ∃ x, x = (w).heap.size := ⟨_, rfl⟩
  rw [← hx1] at hb1 hxs1 ⊢
  have hxl1 : (w).heap.size ≤ x1 := by omega
  clear hx1
  obtain ⟨⟨a0, -⟩, ⟨a1, -⟩, ⟨a2, -⟩, ⟨a3, -⟩⟩ := box4_c hb1
  go_wp2_with fail
  refine (hSa.out w1 hg1).mono ?_
  rintro e w2 ⟨b, rfl, hSb, hg2, hbl⟩
  have hb12 := hb1.pure hg2
  have hbx : b ≠ x1 := by have := hb1.lt; omega
  have hbw : w.heap.size ≤ b := by have := hg1.size; omega
  have hb2 : b < w2.heap.size := hSb.lt
  have hgw2 := hg1.t hg2
  clear a0 a1 a2 a3 hSa hb1 hbl hxs1 hxl1 hg1 hg2
  have hSo := hide (sortedSet_any b S w2 hSb (fun x y h => by have := hbd.out x y h; omega))
  go_upto_region 3 with fail
  go_wp2_with fail
  refine hSo.out.mono ?_
  rintro e w3 ⟨A3, c3, l, rfl, hO3, hnd, hmem, hsrt, hl3, hg3⟩
  have hPl := hPC.out l hnd hmem hsrt
  have hsl := hO3.sl
  have hSb3 := hSb.pure hg3
  have hb13 := hb12.pure hg3
  have hgw3 := hgw2.t hg3
  have hb3 : b < w3.heap.size := hSb3.lt
  replace hPl := hide hPl
  replace hmem := hide hmem
  replace hnd := hide hnd
  clear hSo hO3 hsrt hPC hSb hb12 hgw2 hg3
  have hSb0 := hSb3.congr (T := fun x y => S x y && !unB S (repsL S (l.take 0)) x y) (fun x y => by simp [repsL, unB])
  have hself := World.grownBy.refl w3 (some b)
  obtain ⟨i0, hi0, hz0, hi1, hi2⟩ := info_parts info_spot
  obtain ⟨j0, hj0, hjz, hj1, hj2⟩ := info_parts info_celP
  have hcs0 : Hid (([] : List Cel) = partsG c.step S (l.take 0)) := rfl
  clear hSb3
  go_wp2_with fail
  go_loopw [4, 17] (fun o i wr => ∃ (k : Nat) (raws : List RawC) (cs : List Cel) (Ao : Option Addr) (co : Nat), k ≤ l.length ∧ i = .int .i64 k ∧ o = .slice Ao raws.length co ∧ raws.length ≤ k ∧ Own wr w3.heap.size 34 Ao co raws ∧ CMatch wr w3.heap.size raws cs ∧ Hid (cs = partsG c.step S (l.take k)) ∧ SetAt wr b 1000000 (fun x y => S x y && !unB S (repsL S (l.take k)) x y) ∧ w3.grownBy wr (some b)) (fun _ i _ => l.length - (intOf i).toNat)
  case atStart => exact ⟨0, [], [], none, 0, Nat.zero_le _, rfl, rfl, by simp, Own.nil _ _ _, CMatch.nil, hcs0, hSb0, hself⟩
  case round =>
    clear hSb0 hself hcs0
    obtain ⟨k, raws, cs, Ao, co, hk, rfl, rfl, hrl, hO, hCM, hcs, hSs, hgr⟩ := hrel
    by_cases hlt : k < l.length
    · have hslr := hsl.gr hgr (fun q e => by injection e with e; omega)
      obtain ⟨q, o, cx, rfl, hq0, hq1, hrr, hcc⟩ := hslr.at_ (by decide) hlt
      have hkS := (hmem.out _).1 (List.getElem_mem hlt)
      have htk : Hid (l.take (k + 1) = l.take k ++ [l[k]]) := List.take_succ_eq_append_getElem hlt
      generalize l[k] = K at *
      subst hrr
      have p0 : wr.cell? ⟨q, o + k * 2, none⟩ = some (.int .i64 K.x) := hcc 0 _ rfl
      have p1 : wr.cell? ⟨q, o + k * 2 + 1, none⟩ = some (.int .i64 K.y) := hcc 1 _ rfl
      have hKb := hbd.out _ _ hkS
      replace hkS := hide hkS
      clear hcc hslr
      go_upto_region 6 with fail
      obtain ⟨w6, hw6⟩ : ∃ x, x = (wr).alloc (.cells [.int .i64 K.x, .int .i64 K.y].toArray 89) := ⟨_, rfl⟩
      have hg6 : (wr).grownBy w6 none := by rw [hw6]; exact gr_alloc (World.grownBy.refl _ _) _
      have hb6 : Box w6 (wr).heap.size 89 [.int .i64 K.x, .int .i64 K.y] := by rw [hw6]; exact Box.new _ _ _
      have hxs6 := hb6.lt
      rw [← hw6]
      clear hw6
      obtain ⟨x6, hx6⟩ : ∃ x, x = (wr).heap.size := ⟨_, rfl⟩
      rw [← hx6] at hb6 hxs6 ⊢
      have hxl6 : (wr).heap.size ≤ x6 := by omega
      clear hx6
      have hokK : okSp ⟨K.x, K.y⟩ := okSp_of (by omega) (by omega)
      have hlk := (hSs.pure hg6).look hokK
      obtain ⟨d0, -⟩ := hb6.c 0 rfl
      obtain ⟨d1, -⟩ := hb6.c 1 rfl
      have hU : Hid (∀ x y, (fun x y => S x y && !unB S (repsL S (l.take k)) x y) x y = (S x y && !unB S (repsL S (l.take k)) x y)) := fun x y => rfl
      obtain ⟨v, hv⟩ : ∃ v, v = unB S (repsL S (l.take k)) K.x K.y := ⟨_, rfl⟩
      have hlv : (S K.x K.y && !unB S (repsL S (l.take k)) K.x K.y) = !v := by rw [hkS.out, ← hv]; rfl
      rw [hlv] at hlk
      clear hlv p0 p1
      cases v
      · have hRn : Hid (repsL S (l.take (k + 1)) = repsL S (l.take k) ++ [K]) := by rw [Hid, htk.out, reps_snoc, ← hv]; rfl
        have hPn : Hid (partsG c.step S (l.take (k + 1)) = cs ++ [celOf c.step (compB S K)]) := by rw [Hid, htk.out, parts_snoc, ← hv, hcs.out]; rfl
        have hUK : (S K.x K.y && !unB S (repsL S (l.take k)) K.x K.y) = true := by rw [hkS.out, ← hv]; rfl
        generalize hRd : repsL S (l.take k) = R at *
        replace hRd := hide hRd
        obtain ⟨U, hUe⟩ : ∃ U : Int → Int → Bool, U = fun x y => S x y && !unB S R x y := ⟨_, rfl⟩
        have hUi : Hid (∀ x y, U x y = (S x y && !unB S R x y)) := fun x y => by rw [hUe]
        rw [← hUe] at hSs
        have hUK2 : Hid (U K.x K.y = true) := by rw [Hid, hUi.out]; exact hUK
        have hcomp : Hid (∀ L : List Pt, (∀ p, p ∈ L ↔ Rch nb4 U K p) → ∀ x y, memL L x y = compB S K x y) := fun L hL x y => by
          rw [Bool.eq_iff_iff, compB_iff, ← left_comp hUi.out hUK2.out, ← hL]
          simp [memL]
        have hUS : Hid (∀ x y, U x y = true → S x y = true) := fun x y h => by rw [hUi.out] at h; simp only [Bool.and_eq_true] at h; exact h.1
        clear hUe hU hv hcs hUK
        have hSU := hSs.pure hg6
        have hO6 := hO.pure hg6
        have hCM6 := hCM.pure hg6
        have hgr6 := gr_trans hgr (gr_any hg6)
        have hbl6 : b < w6.heap.size := hSU.lt
        have h36 : w3.heap.size ≤ w6.heap.size := hgr6.size
        clear hO hCM hSs hgr
        go_upto_region 7 with fail
        clear d0 d1 hlk
        go_cut [7, 8] (fun s7 s8 wx => ∃ m7 Aq cq, s7 = .map (some m7) ∧ s8 = .slice Aq 1 cq ∧ SetAt wx m7 0 (fun _ _ => false) ∧ Que wx w6.heap.size Aq cq [K] ∧ w6.heap.size ≤ m7 ∧ blk Aq ≠ some m7 ∧ w6.grownBy wx none)
        case first =>
          refine wp_region_tree (fun wx => w6.grownBy wx none) [0, 1, 0, 2, 2] (.bl 1 (.alt (.ef 0 (.bl 3 (.ef 2 (.bl 4 .done)))) (.ef 2 (.ef 0 (.bl 3 (.bl 4 .done)))))) (by kernel_rfl) (by kernel_rfl) (gr_drew (World.grownBy.refl _ _)) ?_
          obtain ⟨uS, huS⟩ : ∃ x, x = (w6).drew := ⟨_, rfl⟩
          rw [← huS]
          have hguS : (w6).grownBy uS none := by rw [huS]; exact gr_drew (World.grownBy.refl _ _)
          clear huS
          have hcur := hguS
          refine tree_b rfl rfl rfl rfl _ rfl (by simp) (fun K hK => ?_)
          apply Exists.intro
          refine ⟨fun wq hq K' hK' => ?_, ?_⟩
          · obtain ⟨c0, -⟩ := (hb6.pure hq).c 0 rfl
            obtain ⟨c1, -⟩ := (hb6.pure hq).c 1 rfl
            go_wp2_with fail
            exact hK'
          go_simp
          refine hK _ ?_
          clear hK K
          refine tree_alt ?_ ?_
          · refine tree_e rfl rfl (fun K hK => ?_)
            have hmk := run_makeMap (P := Tryz.prog) 92 uS
            go_wp2_with fail
            try go_simp
            refine hK _ _ (gr_trans hcur (gr_alloc (World.grownBy.refl _ _) _)) ?_
            clear hK K
            have hM0 := SetAt.made uS
            obtain ⟨v0, hv0⟩ : ∃ x, x = (uS).alloc (.map #[] 0) := ⟨_, rfl⟩
            have hg0v : (uS).grownBy v0 none := by rw [hv0]; exact gr_alloc (World.grownBy.refl _ _) _
            rw [← hv0] at hM0 ⊢
            obtain ⟨mo, hmo⟩ : ∃ x, x = (uS).heap.size := ⟨_, rfl⟩
            rw [← hmo] at hM0 ⊢
            have hmol : w6.heap.size ≤ mo := by have := hcur.size; omega
            replace hcur := hcur.t hg0v
            clear hv0 hmo hmk hg0v
            refine tree_p rfl rfl rfl rfl _ rfl (by simp) (fun K hK => ?_)
            apply Exists.intro
            refine ⟨fun wq K' hK' => ?_, ?_⟩
            · go_wp2_with fail
              exact hK'
            go_simp
            refine hK _ ?_
            clear hK K
            refine tree_e0 (by kernel_rfl) rfl rfl (fun K hK => ?_)
            go_wp2_with fail
            try go_simp
            refine hK _ _ trivial ?_
            clear hK K
            have hOl := own_litF v0 w6.heap.size [.int .i64 K.x, .int .i64 K.y] 89 [K] (v0).heap.size 1 rfl rfl hcur.size (by simp [maxLen]) ⟨_, [], rfl, rfl, rfl⟩
            obtain ⟨v2, hv2⟩ : ∃ x, x = (v0).alloc (.cells #[.int .i64 K.x, .int .i64 K.y] 89) := ⟨_, rfl⟩
            have hg2v : (v0).grownBy v2 none := by rw [hv2]; exact gr_alloc (World.grownBy.refl _ _) _
            change Own ((v0).alloc (.cells #[.int .i64 K.x, .int .i64 K.y] 89)) _ _ _ _ _ at hOl
            rw [← hv2] at hOl ⊢
            obtain ⟨xq, hxq⟩ : ∃ x, x = (v0).heap.size := ⟨_, rfl⟩
            rw [← hxq] at hOl ⊢
            have hQ := Que.of hOl
            have hsep : xq ≠ mo := by have := hM0.lt; omega
            replace hM0 := hM0.pure hg2v
            replace hcur := hcur.t hg2v
            clear hv2 hxq hg2v hOl
            refine tree_p rfl rfl rfl rfl _ rfl (by simp) (fun K hK => ?_)
            apply Exists.intro
            refine ⟨fun wq K' hK' => ?_, ?_⟩
            · go_wp2_with fail
              exact hK'
            go_simp
            refine hK _ ?_
            clear hK K
            refine tree_done ?_
            go_wp2_with fail
            go_meet
            exact ⟨mo, some ⟨xq, 0, none⟩, 1, rfl, rfl, hM0, hQ, hmol, fun e => hsep (by simpa [blk] using e), hcur⟩
          · refine tree_e0 (by kernel_rfl) rfl rfl (fun K hK => ?_)
            go_wp2_with fail
            try go_simp
            refine hK _ _ trivial ?_
            clear hK K
            have hOl := own_litF uS w6.heap.size [.int .i64 K.x, .int .i64 K.y] 89 [K] (uS).heap.size 1 rfl rfl hcur.size (by simp [maxLen]) ⟨_, [], rfl, rfl, rfl⟩
            obtain ⟨v2, hv2⟩ : ∃ x, x = (uS).alloc (.cells #[.int .i64 K.x, .int .i64 K.y] 89) := ⟨_, rfl⟩
            have hg2v : (uS).grownBy v2 none := by rw [hv2]; exact gr_alloc (World.grownBy.refl _ _) _
            change Own ((uS).alloc (.cells #[.int .i64 K.x, .int .i64 K.y] 89)) _ _ _ _ _ at hOl
            rw [← hv2] at hOl ⊢
            obtain ⟨xq, hxq⟩ : ∃ x, x = (uS).heap.size := ⟨_, rfl⟩
            rw [← hxq] at hOl ⊢
            have hQ := Que.of hOl
            replace hcur := hcur.t hg2v
            clear hv2 hxq hg2v hOl
            refine tree_e rfl rfl (fun K hK => ?_)
            have hmk := run_makeMap (P := Tryz.prog) 92 v2
            go_wp2_with fail
            try go_simp
            refine hK _ _ (gr_trans hcur (gr_alloc (World.grownBy.refl _ _) _)) ?_
            clear hK K
            have hM0 := SetAt.made v2
            obtain ⟨v0, hv0⟩ : ∃ x, x = (v2).alloc (.map #[] 0) := ⟨_, rfl⟩
            have hg0v : (v2).grownBy v0 none := by rw [hv0]; exact gr_alloc (World.grownBy.refl _ _) _
            rw [← hv0] at hM0 ⊢
            obtain ⟨mo, hmo⟩ : ∃ x, x = (v2).heap.size := ⟨_, rfl⟩
            rw [← hmo] at hM0 ⊢
            have hmol : w6.heap.size ≤ mo := by have := hcur.size; omega
            replace hcur := hcur.t hg0v
            have hsep : xq ≠ mo := by have := (hQ.blk_lt (g := xq) rfl).2; omega
            replace hQ := hQ.pure hg0v
            clear hv0 hmo hmk hg0v
            refine tree_p rfl rfl rfl rfl _ rfl (by simp) (fun K hK => ?_)
            apply Exists.intro
            refine ⟨fun wq K' hK' => ?_, ?_⟩
            · go_wp2_with fail
              exact hK'
            go_simp
            refine hK _ ?_
            clear hK K
            refine tree_p rfl rfl rfl rfl _ rfl (by simp) (fun K hK => ?_)
            apply Exists.intro
            refine ⟨fun wq K' hK' => ?_, ?_⟩
            · go_wp2_with fail
              exact hK'
            go_simp
            refine hK _ ?_
            clear hK K
            refine tree_done ?_
            go_wp2_with fail
            go_meet
            exact ⟨mo, some ⟨xq, 0, none⟩, 1, rfl, rfl, hM0, hQ, hmol, fun e => hsep (by simpa [blk] using e), hcur⟩
        case rest =>
        obtain ⟨m7, Aq, cq, rfl, rfl, hM0, hQ0, hmol, hbq0, hgc⟩ := hcut
        generalize hwq : wc = w7 at *
        clear hwq
        have hFlo0 : Hid (Flo nb4 U K [] [K]) := Flo.start
        have hnr0 : Hid (∀ q ∈ [K], (-3000000 ≤ q.x ∧ q.x ≤ 3000000) ∧ -3000000 ≤ q.y ∧ q.y ≤ 3000000) := fun q hq => by
          rw [List.mem_singleton.1 hq]; omega
        have hM7 := hM0.congr (T := memL []) (fun x y => by simp [memL])
        have hS7 := (hSU.pure hgc).congr (T := fun x y => U x y && !memL [] x y) (fun x y => by simp [memL])
        have hg7 : w6.grownBy w7 (some b) := gr_any hgc
        have hbm : b ≠ m7 := by omega
        have hLb : Hid (∀ L : List Pt, L.Nodup → (∀ p ∈ L, U p.x p.y = true) → L.length ≤ 1000000) := fun L h1 h2 => Nat.le_trans (len_of_sub h1 fun p hp => (hmem.out p).2 (hUS.out _ _ (h2 p hp))) hl3
        have hb1f := hide fun W (h : w6.grownBy W (some b)) => ((hb13.gr hgr6 (by intro e; injection e with e; exact hbx e)).gr h (by intro e; injection e with e; exact hbx e))
        have hNb := hide fun (x y : Int) W hx hy => neighbours_any x y W hx hy
        clear hb6 hSU hM0 hgc hokK
        go_wp2_with fail
        go_loopg [8] (10 * 1000000 + 2) (fun kx s wr => ∃ (L Q : List Pt) (Aq : Option Addr) (cq : Nat), s = .slice Aq Q.length cq ∧ Que wr w6.heap.size Aq cq Q ∧ SetAt wr b 1000000 (fun x y => U x y && !memL L x y) ∧ SetAt wr m7 L.length (memL L) ∧ Hid (Flo nb4 U K L Q) ∧ Hid (∀ q ∈ Q, (-3000000 ≤ q.x ∧ q.x ≤ 3000000) ∧ -3000000 ≤ q.y ∧ q.y ≤ 3000000) ∧ Hid (Q.length ≤ 1 + 4 * L.length) ∧ Hid (10 * (1000000 - L.length) + Q.length < kx) ∧ blk Aq ≠ some m7 ∧ w6.grownBy wr (some b))
        case atStart => exact ⟨[], [K], Aq, cq, rfl, hQ0, hS7, hM7, hFlo0, hnr0, by simp [Hid], by simp [Hid], hbq0, hg7⟩
        case round =>
          clear hQ0 hS7 hM7 hFlo0 hnr0 hbq0 hg7
          obtain ⟨L, Q, Aq, cq, rfl, hQ, hSb, hM, hFlo, hnr, hql, hk, hbq, hgw⟩ := hrel
          have hLl := hLb.out L hFlo.out.nd (fun p hp => (hFlo.out.rch p hp).2)
          rcases Q with _ | ⟨hd, Q⟩
          · have hLc := hcomp.out L (fun p => hFlo.out.done p)
            have hMf := hM.congr (T := compB S K) hLc
            have hOf := hide (cellsOf_any m7 L.length (compB S K) c.step wr hMf hsp (fun x y h => by
              have h2 := hbd.out x y (comp_sub hkS.out h)
              omega))
            have hSN := hSb.congr (T := fun x y => S x y && !unB S (repsL S (l.take (k + 1))) x y) (fun x y => by
              rw [hRn.out, unB_snoc, hLc, hUi.out, Bool.not_or, Bool.and_assoc])
            have hb1z := hb1f.out wr hgw
            obtain ⟨a0, -⟩ := hb1z.c 0 rfl
            have hON := hO6.keep hgw (fun g e => by injection e with e; omega)
            have hCN := hCM6.keep hgw (fun A c rows ho g hb e => by injection e with e; have := (ho.blk_lt hb).1; omega)
            have hgN := gr_trans hgr6 hgw
            have hzN := hgN.size
            clear hQ hM hMf hFlo hnr hql hk hbq hLc hSb hb1z hNb hb1f
            rw [List.length_nil]
            go_wp2_with fail
            refine hOf.out.mono ?_
            rintro e w16 ⟨c9, er9, A9, cc9, rfl, hI9, hO9, hg16⟩
            have hc9 : celOf c.step (compB S K) = c9 := celOf_eq hI9
            obtain ⟨n9, hn9⟩ : ∃ n, n = c9.rows.length := ⟨_, rfl⟩
            rw [← hn9]
            replace hn9 := hide hn9
            replace hc9 := hide hc9
            clear hOf a0 hI9
            have hON2 := hON.pure hg16
            have hCN2 := hCN.pure hg16
            have hSN2 := hSN.pure hg16
            have hgN2 := gr_trans hgN (gr_any hg16)
            have hrl2 : raws.length ≤ 1000000 := by omega
            clear hON hCN hSN hgN
            go_upto_region 16 with fail
            obtain ⟨w10, hw10⟩ : ∃ x, x = (w16).alloc (.cells [.int .i64 c9.step, .int .i64 c9.x, .int .i64 c9.y, .slice A9 n9 cc9].toArray 34) := ⟨_, rfl⟩
            have hg10 : (w16).grownBy w10 none := by rw [hw10]; exact gr_alloc (World.grownBy.refl _ _) _
            have hb10 : Box w10 (w16).heap.size 34 [.int .i64 c9.step, .int .i64 c9.x, .int .i64 c9.y, .slice A9 n9 cc9] := by rw [hw10]; exact Box.new _ _ _
            have hxs10 := hb10.lt
            rw [← hw10]
            clear hw10
            obtain ⟨x10, hx10⟩ : ∃ x, x = (w16).heap.size := ⟨_, rfl⟩
            rw [← hx10] at hb10 hxs10 ⊢
            have hxl10 : (w16).heap.size ≤ x10 := by omega
            clear hx10
            have hON3 := hON2.pure hg10
            have hCN3 := hCN2.pure hg10
            have hSN3 := hSN2.pure hg10
            have hgN3 := gr_trans hgN2 (gr_any hg10)
            have hO10 := hO9.pure hg10
            have hbs3 : w3.heap.size ≤ w10.heap.size := hgN3.size
            obtain ⟨⟨a0, -⟩, ⟨a1, -⟩, ⟨a2, -⟩, ⟨a3, -⟩⟩ := box4_c hb10
            clear hON2 hCN2 hSN2 hgN2 hO9 hg10 hg16 hb10 hxs10 hxl10
            have hga := gr_alloc (World.grownBy.refl w10 none) (.cells #[.int .i64 c9.step, .int .i64 c9.x, .int .i64 c9.y, .slice A9 n9 cc9] 34)
            have hrow : Sl (w10.alloc (.cells #[.int .i64 c9.step, .int .i64 c9.x, .int .i64 c9.y, .slice A9 n9 cc9] 34)) 0 (some ⟨w10.heap.size, 0, none⟩) [rawOf c9 A9 cc9] := sl_oneAt _ 0 [.int .i64 c9.step, .int .i64 c9.x, .int .i64 c9.y, .slice A9 n9 cc9] _ _ _ rfl (Nat.zero_le _) (by rw [hn9.out]; rfl)
            go_wp2_with (at_builtin; refine wpList_pushAt (α := RawC) _ rfl (.tmp 54) (.tmp 56) _ rfl w3.heap.size 34 j0 _ 48 Tryz.underlying57 hj0 hjz hj1 hj2 rfl _ _ _ raws rfl rfl (by exact hON3.pure hga) 0 ⟨_, 0, none⟩ 1 1 [rawOf c9 A9 cc9] rfl rfl (by exact hrow) ?d2 ?d3 ?d4 ?_)
            case d2 => first | omega | (simp; omega)
            case d3 => first | (simp [maxLen]; omega) | (unfold maxLen; omega)
            case d4 => first | omega | (simp; omega)
            intro A17 c17 w17 hO17 hG17
            have hCN17 := ((hCN3.push (c := c9) (A := A9) (cc := cc9) (hO10.lower hzN)).pure hga).keep hG17.1 (fun A c rows ho x hx => ho.ne_own (hON3.pure hga) (by decide) hx)
            have hSN17 := (hSN3.pure hga).gr hG17.1 (fun e => by have := ((hON3.pure hga).blk_lt e).1; omega)
            have hgN17 := gr_row (gr_trans hgN3 (gr_any hga)) hG17.1 (fun g e => ((hON3.pure hga).blk_lt e).1)
            have hcs17 : Hid (cs ++ [c9] = partsG c.step S (l.take (k + 1))) := by rw [Hid, hPn.out, hc9.out]
            clear hON3 hCN3 hSN3 hgN3 hO10 hG17 hga hrow a0 a1 a2 a3
            go_wp2_with fail
            (go_roundw; (case rel => exact ⟨k + 1, raws ++ [rawOf c9 A9 cc9], cs ++ [c9], A17, c17, by omega, by go_num, by rw [List.length_append]; rfl, by rw [List.length_append]; simp; omega, hO17, hCN17, hcs17, hSN17, hgN17⟩); (case measure => simp [intOf]; omega))
          · obtain ⟨g, o, cx, rfl, hb0, hb1, hrr, hc⟩ := hQ.1.at_ (by decide) (show 0 < (hd :: Q).length by simp)
            have hrr' : cx = [.int .i64 hd.x, .int .i64 hd.y] := hrr
            subst hrr'
            have c0 : wr.cell? ⟨g, o, none⟩ = some (.int .i64 hd.x) := by have := hc 0 _ rfl; simpa using this
            have c1 : wr.cell? ⟨g, o + 1, none⟩ = some (.int .i64 hd.y) := by have := hc 1 _ rfl; simpa using this
            rw [List.length_cons]
            have hxb := hnr.out hd (by simp)
            have hcq := hQ.2.1
            have hql2 : Q.length ≤ 5000000 := by
              have h1 := hql.out
              simp only [List.length_cons] at h1
              omega
            rw [List.length_cons] at hcq
            have hqt := hQ.tail
            have hbt : ∀ A', A' = (if cq = 1 then (some ⟨g, o, none⟩ : Option Addr) else some ⟨g, o + Enc.sz Pt, none⟩) → blk A' ≠ some m7 := fun A' e => by
              subst e
              split <;> exact hbq
            have hmor : m7 < wr.heap.size := hM.lt
            have hbor : b < wr.heap.size := hSb.lt
            clear hc hrr
            go_upto_region 10 with fail
            obtain ⟨w9, hw9⟩ : ∃ x, x = (wr).alloc (.cells [.int .i64 hd.x, .int .i64 hd.y].toArray 89) := ⟨_, rfl⟩
            have hg9 : (wr).grownBy w9 none := by rw [hw9]; exact gr_alloc (World.grownBy.refl _ _) _
            have hb9 : Box w9 (wr).heap.size 89 [.int .i64 hd.x, .int .i64 hd.y] := by rw [hw9]; exact Box.new _ _ _
            have hxs9 := hb9.lt
            rw [← hw9]
            clear hw9
            obtain ⟨x9, hx9⟩ : ∃ x, x = (wr).heap.size := ⟨_, rfl⟩
            rw [← hx9] at hb9 hxs9 ⊢
            have hxl9 : (wr).heap.size ≤ x9 := by omega
            clear hx9
            go_cut [8] (fun s8 wx => ∃ A', s8 = .slice A' Q.length (cq - 1) ∧ Que wx w6.heap.size A' (cq - 1) Q ∧ blk A' ≠ some m7 ∧ w9.grownBy wx none)
            case first =>
              by_cases hc1 : cq = 1
              · subst hc1
                go_wp2_with fail
                go_meet
                exact ⟨some ⟨g, o, none⟩, by rw [show Q.length = 0 by omega], hqt.pure hg9, hbt _ rfl, World.grownBy.refl _ _⟩
              · go_wp2_with fail
                go_meet
                exact ⟨some ⟨g, o + 2, none⟩, rfl, by have h := hqt.pure hg9; rw [if_neg hc1] at h; exact h, hbt _ (by rw [if_neg hc1]; rfl), World.grownBy.refl _ _⟩
            case rest =>
            obtain ⟨A', rfl, hQ', hbq', hgc⟩ := hcut
            generalize hwq : wc = w11 at *
            clear hwq hqt hbt hbq hQ c0 c1
            have hM := hM.pure (hg9.t hgc)
            have hSb := hSb.pure (hg9.t hgc)
            have hb9' := hb9.pure hgc
            have hgw := gr_trans hgw (gr_any (hg9.t hgc))
            have hQ := hQ'
            have hbq := hbq'
            have hx9m : x9 ≠ m7 ∧ x9 ≠ b := by omega
            have hokx : okSp ⟨hd.x, hd.y⟩ := okSp_of (by omega) (by omega)
            have hlk := hSb.look hokx
            obtain ⟨d0, -⟩ := hb9'.c 0 rfl
            obtain ⟨d1, -⟩ := hb9'.c 1 rfl
            obtain ⟨v, hv⟩ : ∃ v, v = (U hd.x hd.y && !memL L hd.x hd.y) := ⟨_, rfl⟩
            rw [← hv] at hlk
            clear hg9 hgc hb9 hxs9 hxl9
            cases v
            · have hno : Hid (hd ∈ L ∨ U hd.x hd.y = false) := by
                rcases hu : U hd.x hd.y with _ | _
                · exact .inr rfl
                · left
                  rw [hu] at hv
                  simpa [memL] using hv
              clear hv
              go_wp2_with fail
              go_roundg (10 * (1000000 - L.length) + (Q.length + 1))
              case measure => exact hk.out
              case rel => exact ⟨L, Q, A', cq - 1, rfl, hQ, hSb, hM, hFlo.out.skip hUK2.out (hno.out), fun q hq => hnr.out q (List.mem_cons_of_mem _ hq), by have := hql.out; simp only [Hid, List.length_cons] at *; omega, by simp only [Hid]; omega, hbq, hgw⟩
            · have hUh : Hid (U hd.x hd.y = true) := by
                rw [eq_comm, Bool.and_eq_true] at hv; exact hv.1
              have hxL0 : hd ∉ L := fun hm => by
                rw [eq_comm, Bool.and_eq_true, Bool.not_eq_true'] at hv
                have h2 := hv.2
                unfold memL at h2
                rw [decide_eq_true (show (⟨hd.x, hd.y⟩ : Pt) ∈ L from hm)] at h2
                cases h2
              have hxL := hide hxL0
              clear hv hxL0
              have hLb2 : L.length + 1 ≤ 1000000 := by
                have h2 := hLb.out (L ++ [hd]) (by rw [List.nodup_append]; exact ⟨hFlo.out.nd, by simp, fun a ha b hb => by rw [List.mem_singleton.1 hb]; rintro rfl; exact hxL.out ha⟩) (fun p hp => by
                  rcases List.mem_append.1 hp with h | h
                  · exact (hFlo.out.rch p h).2
                  · rw [List.mem_singleton.1 h]; exact hUh.out)
                rw [List.length_append] at h2
                exact h2
              obtain ⟨w12, hdel, hSd, hgd⟩ := hSb.drop hokx 0
              have hM12 := hM.gr hgd (by intro e; injection e with e; exact hbm e)
              have hb12' := hb9'.gr hgd (by intro e; injection e with e; exact hx9m.2 e.symm)
              have hblb : ∀ g, blk A' = some g → g ≠ b := fun g h e => by
                have := (hQ.blk_lt h).1
                omega
              have hQ12 := hQ.gr hgd (fun g h e => by injection e with e; exact hblb g h e.symm)
              have hgw12 := gr_trans hgw hgd
              obtain ⟨w13, hrun, hM3, hg3⟩ := hM12.store (by unfold maxLen; omega) hokx
              have hM13 : SetAt w13 m7 (L ++ [hd]).length (memL (L ++ [hd])) := by
                rw [List.length_append]
                exact hM3.congr fun x y => (memL_snoc L hd x y).symm
              have hS13 := (hSd.gr hg3 (by intro e; injection e with e; exact hbm e.symm)).congr (T := fun x y => U x y && !memL (L ++ [hd]) x y) (fun x y => by rw [memL_snoc, Bool.not_or, Bool.and_assoc])
              have hQ13 := hQ12.gr hg3 (fun g h e => by injection e with e; subst e; exact hbq h)
              have hb13' := hb12'.gr hg3 (by intro e; injection e with e; exact hx9m.1 e.symm)
              have hgw13 := gr_new hgw12 hg3 hmol
              have hm13 : m7 < w13.heap.size := hM13.lt
              obtain ⟨e0, -⟩ := hb12'.c 0 rfl
              obtain ⟨e1, -⟩ := hb12'.c 1 rfl
              obtain ⟨f0, -⟩ := hb13'.c 0 rfl
              obtain ⟨f1, -⟩ := hb13'.c 1 rfl
              clear hSb hM hSd hgd hM12 hQ12 hM3 hg3 hQ hgw hgw12 hb9' hb12' hQ'
              go_wp2_with fail
              refine (hNb.out hd.x hd.y w13 (by omega) (by omega)).mono ?_
              rintro e w14 ⟨Ab, rfl, hsl14, hg14⟩
              have hM14 := hM13.pure hg14
              have hS14 := hS13.pure hg14
              have hQ14 := hQ13.pure hg14
              have hgw14 := gr_trans hgw13 (gr_any hg14)
              have hz14 := hg14.size
              have hgrz := hgw14.size
              replace hsl14 := hsl14.mono (Nat.zero_le _)
              clear d0 d1 e0 e1 f0 f1 hM13 hS13 hQ13 hgw13 hg14 hb13' hdel hrun hlk
              go_wp2_with (at_builtin; refine wpList_pushQ (α := Pt) _ rfl (.tmp 43) (.tmp 45) _ rfl w6.heap.size 89 i0 _ 16 Tryz.underlying122 hi0 hz0 hi1 hi2 rfl _ _ _ Q rfl rfl (by exact hQ14) 0 _ _ _ (nb4E ⟨hd.x, hd.y⟩) rfl rfl (by exact hsl14) ?d2 ?d3 ?d4 ?_)
              case d2 => simp only [nb4E, List.length_cons, List.length_nil]; omega
              case d3 => simp only [nb4E, List.length_cons, List.length_nil]; unfold maxLen; omega
              case d4 => exact hgrz
              intro A15 c15 w15 hQ15 hG15
              have hS15 := hS14.gr hG15.1 (fun e => hblb b e rfl)
              have hM15 := hM14.gr hG15.1 hbq
              have hgw15 := gr_row hgw14 hG15.1 (fun g e => (hQ14.blk_lt e).1)
              have hb15 : blk A15 ≠ some m7 := by
                rcases hG15.2 with h | h
                · rw [h]; exact hbq
                · intro e; have := h m7 e; omega
              have hF15 : Hid (Flo nb4 U K (L ++ [hd]) (Q ++ nb4E ⟨hd.x, hd.y⟩)) := hFlo.out.take hUh.out hxL.out (fun q => nb4_E _ q)
              have hn15 : Hid (∀ q ∈ Q ++ nb4E ⟨hd.x, hd.y⟩, (-3000000 ≤ q.x ∧ q.x ≤ 3000000) ∧ -3000000 ≤ q.y ∧ q.y ≤ 3000000) := fun q hq => by
                rcases List.mem_append.1 hq with h | h
                · exact hnr.out q (List.mem_cons_of_mem _ h)
                · have h3 := hbd.out _ _ (hUS.out _ _ hUh.out)
                  simp only [nb4E, List.mem_cons, List.not_mem_nil, or_false] at h
                  rcases h with rfl | rfl | rfl | rfl <;> simp only <;> omega
              have hl15 : Hid ((Q ++ nb4E ⟨hd.x, hd.y⟩).length ≤ 1 + 4 * (L ++ [hd]).length) := by
                have := hql.out
                simp only [Hid, nb4E, List.length_append, List.length_cons, List.length_nil] at *
                omega
              have hk15 : Hid (10 * (1000000 - (L ++ [hd]).length) + (Q ++ nb4E ⟨hd.x, hd.y⟩).length < 10 * (1000000 - L.length) + (Q.length + 1)) := by
                simp only [Hid, nb4E, List.length_append, List.length_cons, List.length_nil]
                omega
              have hle4 : (Q ++ nb4E ⟨hd.x, hd.y⟩).length = Q.length + 4 := by simp only [nb4E, List.length_append, List.length_cons, List.length_nil]
              replace hle4 := hide hle4
              clear hS14 hM14 hQ14 hgw14 hG15 hsl14 hz14 hgrz hm13
              go_wp2_with fail
              go_roundg (10 * (1000000 - L.length) + (Q.length + 1))
              case measure => exact hk.out
              case rel => exact ⟨L ++ [hd], Q ++ nb4E ⟨hd.x, hd.y⟩, A15, c15, by rw [List.length_append], hQ15, hS15, hM15, hF15, hn15, hl15, hk15, hb15, hgw15⟩
      · have hrp : Hid (repsL S (l.take (k + 1)) = repsL S (l.take k)) := by rw [Hid, htk.out, reps_snoc, if_pos hv.symm]
        have hcs2 : Hid (cs = partsG c.step S (l.take (k + 1))) := by rw [Hid, htk.out, parts_snoc, if_pos hv.symm]; exact hcs.out
        have hSN := (hSs.pure hg6).congr (T := fun x y => S x y && !unB S (repsL S (l.take (k + 1))) x y) (fun x y => by rw [hrp.out])
        have hON := hO.pure hg6
        have hCN := hCM.pure hg6
        have hgN := gr_trans hgr (gr_any hg6)
        replace hv := hide hv
        clear hO hCM hSs hgr hcs hg6 hb6
        go_wp2_with fail
        (go_roundw; (case rel => exact ⟨k + 1, raws, cs, Ao, co, by omega, by go_num, rfl, by omega, hON, hCN, hcs2, hSN, hgN⟩); (case measure => simp [intOf]; omega))
    · obtain rfl : k = l.length := by omega
      have hcE : cs = PC := by rw [hcs.out, List.take_length, hPl.out]
      have hz3 := hgw3.size
      have hgz := gr_new hgw3 hgr hbw
      have hCz : CMatch wr w.heap.size raws PC := by
        rw [← hcE]
        exact ⟨hCM.1, fun i h1 h2 => let ⟨A, c, e, ho⟩ := hCM.2 i h1 h2; ⟨A, c, e, ho.lower hz3⟩⟩
      replace hcE := hide hcE
      clear hCM hSs hgr hcs
      go_wp2_with fail
      go_ret
      exact ⟨Ao, co, raws, rfl, hO.lower hz3, hCz, hgz⟩

end Go.Proofs.YtgcpegjggakemaaGreatDoor

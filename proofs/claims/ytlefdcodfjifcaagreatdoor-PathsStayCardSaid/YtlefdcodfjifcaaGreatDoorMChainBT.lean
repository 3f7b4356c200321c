/- Contracts of functions that this seat's laws reach, each: what one call returns and what it leaves in memory; no condition beyond each theorem's own hypotheses. -/
import Derived.Test.YtlefdcodfjifcaaGreatDoorMChainData
import Derived.Test.YtlefdcodfjifcaaGreatDoorMDelP
import Derived.Test.YtlefdcodfjifcaaGreatDoorMPathG
import Derived.Test.YtlefdcodfjifcaaGreatDoorMPrintData
import Derived.Test.YtlefdcodfjifcaaGreatDoorMJm
import Derived.Test.YtlefdcodfjifcaaGreatDoorMPathF
import Derived.Test.YtlefdcodfjifcaaGreatDoorMPathE
set_option linter.unusedVariables false
set_option linter.unusedSimpArgs false
namespace Go.Proofs.YtlefdcodfjifcaaGreatDoor
open Go Go.RowKit Go.Bl

theorem getD_at {α : Type} [Inhabited α] {l : List α} {k : Nat} (h : k < l.length) : l.getD k default = l[k] := by rw [List.getD_eq_getElem?_getD, List.getElem?_eq_getElem h, Option.getD_some]

theorem Own.capMax {α : Type} [Enc α] {w : World} {lo : Nat} {e : TypeId} {g c : Nat} {l : List α} (h : Own w lo e (some ⟨g, 0, none⟩) c l) : c ≤ 9223372036854775807 := by
  obtain ⟨_, cs, _, ho⟩ := h
  rcases ho.2 with ⟨h1, _⟩ | ⟨g', cap, cur, hv, _, _, _, hc, _⟩
  · cases h1
  · injection hv with _ _ hx
    unfold maxLen at hc
    omega

theorem All2.erase {α β : Type} {R : α → β → Prop} {l : List α} {m : List β} (h : All2 R l m) (k : Nat) : All2 R (l.eraseIdx k) (m.eraseIdx k) := by
  induction h generalizing k with
  | nil => exact .nil
  | cons h h2 ih => cases k with
    | zero => exact h2
    | succ k => exact .cons h (ih k)

def SChain (lo : Nat) (w : World) (l : List PathV) (A : Option Addr) (c : Nat) (e : Ending) (w' : World) : Prop :=
  (chain1 l = none ∧ e = .returned (.tuple #[.slice A l.length c, .bool false]) ∧ w.grownBy w' none) ∨
  ∃ m, chain1 l = some m ∧ e = .returned (.tuple #[.slice A m.length c, .bool true]) ∧ OwnN RawP w' lo 36 A c m ∧ w.grownBy w' (blk A)

set_option maxHeartbeats 4000000 in
set_option maxRecDepth 100000 in
theorem chain_any (A : Option Addr) (c lo : Nat) (l : List PathV) (w : World) (hN : OwnN RawP w lo 36 A c l) (hlo : lo ≤ w.heap.size) (hne : ∀ p ∈ l, 0 < p.pts.length ∧ p.pts.length ≤ 400000) :
    Calls Tryz.prog 44 #[.slice A l.length c] w (SChain lo w l A c) := by
  have hl := hN.sl.mono (Nat.zero_le _)
  obtain ⟨raws, hO, hA2⟩ := hN
  have hrl := hA2.len
  have hm := hl.1
  unfold maxLen at hm
  replace hne := hide hne
  go_enter Tryz.func44, Tryz.ntmps44
  go_wp2_with fail
  go_loopw [12] (fun i wr => ∃ k : Nat, k ≤ l.length ∧ i = .int .i64 k ∧ w.grownBy wr none ∧ Hid (pairK l k = none)) (fun i _ => l.length - (intOf i).toNat)
  case atStart => exact ⟨0, Nat.zero_le _, rfl, World.grownBy.refl _ _, rfl⟩
  case round =>
    obtain ⟨i, hi, rfl, hg, hpk⟩ := hrel
    by_cases hlt : i < l.length
    · have hls := hl.pure hg
      obtain ⟨gg, rfl, hggl, hggr⟩ := hO.shape (by omega)
      obtain ⟨g, o, cx, e, hb0, hb1, ⟨A', c', rfl, hcp, hpts⟩, hc⟩ := hls.at_ (by decide) hlt
      cases e
      have c0 : wr.cell? ⟨gg, i * 2, none⟩ = some (.slice A' l[i].pts.length c') := by have := hc 0 _ rfl; rw [Nat.zero_add] at this; exact this
      have c1 : wr.cell? ⟨gg, i * 2 + 1, none⟩ = some (.bool l[i].cl) := by have := hc 1 _ rfl; rw [Nat.zero_add] at this; exact this
      clear hc
      have hp0 := (hne.out l[i] (List.getElem_mem _)).1
      have hgi := getD_at hlt
      go_upto_region 4 with fail
      obtain ⟨w5, hw5⟩ : ∃ x, x = (wr).alloc (.cells [.slice A' l[i].pts.length c', .bool l[i].cl].toArray 36) := ⟨_, rfl⟩
      have hg5 : (wr).grownBy w5 none := by rw [hw5]; exact gr_alloc (World.grownBy.refl _ _) _
      have hb5 : Box w5 (wr).heap.size 36 [.slice A' l[i].pts.length c', .bool l[i].cl] := by rw [hw5]; exact Box.new _ _ _
      have hxs5 := hb5.lt
      rw [← hw5]
      clear hw5
      obtain ⟨x5, hx5⟩ : ∃ x, x = (wr).heap.size := ⟨_, rfl⟩
      rw [← hx5] at hb5 hxs5 ⊢
      have hxl5 : (wr).heap.size ≤ x5 := by omega
      clear hx5
      obtain ⟨b0, _⟩ := hb5.c 0 rfl
      obtain ⟨b1, _⟩ := hb5.c 1 rfl
      replace hpts := (hpts.mono (Nat.zero_le _)).pure hg5
      replace hg := hg.t hg5
      clear c0 c1 hg5
      cases hcl : l[i].cl with
      | true =>
        have hp1 : Hid (pairK l (i + 1) = none) := pairK_cl hpk.out (by rw [hgi, hcl])
        rw [hcl] at b1
        clear hcl
        go_wp2_with fail
        (go_roundw; (case rel => exact ⟨i + 1, by omega, by go_num, hg, hp1⟩); (case measure => simp [intOf]; omega))
      | false =>
        rw [hcl] at b1
        obtain ⟨n, hn⟩ : ∃ n, l[i].pts.length = n + 1 := ⟨l[i].pts.length - 1, by omega⟩
        have hlast : n < l[i].pts.length := by omega
        have hnm := hpts.1
        unfold maxLen at hnm
        rw [hn] at hnm
        have hn0 : (0 : Int) ≤ n ∧ (n : Int) < (n : Int) + 1 := by omega
        obtain ⟨g2, o2, cx, rfl, hb2, hb3, rfl, hc⟩ := hpts.at_ (by decide) hlast
        have p0 : w5.cell? ⟨g2, o2 + n * 2, none⟩ = some (.int .i64 l[i].pts[n].x) := hc 0 _ rfl
        have p1 : w5.cell? ⟨g2, o2 + n * 2 + 1, none⟩ = some (.int .i64 l[i].pts[n].y) := hc 1 _ rfl
        clear hc
        have hend : Hid (endP l[i] = l[i].pts[n]) := by rw [Hid, endP, hn, Nat.add_sub_cancel, List.getD_eq_getElem?_getD, List.getElem?_eq_getElem hlast, Option.getD_some]
        have hcl2 := hide hcl
        clear hcl
        rw [hn] at b0
        clear hp0
        replace hn := hide hn
        go_upto_region 6 with fail
        obtain ⟨w6, hw6⟩ : ∃ x, x = (w5).alloc (.cells [.int .i64 l[i].pts[n].x, .int .i64 l[i].pts[n].y].toArray 68) := ⟨_, rfl⟩
        have hg6 : (w5).grownBy w6 none := by rw [hw6]; exact gr_alloc (World.grownBy.refl _ _) _
        have hb6 : Box w6 (w5).heap.size 68 [.int .i64 l[i].pts[n].x, .int .i64 l[i].pts[n].y] := by rw [hw6]; exact Box.new _ _ _
        have hxs6 := hb6.lt
        rw [← hw6]
        clear hw6
        obtain ⟨x6, hx6⟩ : ∃ x, x = (w5).heap.size := ⟨_, rfl⟩
        rw [← hx6] at hb6 hxs6 ⊢
        have hxl6 : (w5).heap.size ≤ x6 := by omega
        clear hx6
        have hb5 := hb5.pure hg6
        replace hpts := hpts.pure hg6
        clear b0 b1 p0 p1
        generalize l[i].pts[n] = en at *
        replace hg := hg.t hg6
        have hcl3 : Hid ((l.getD i default).cl = false) := by rw [Hid, hgi, hcl2.out]
        have hend2 : Hid (endP (l.getD i default) = en) := by rw [Hid, hgi, hend.out]
        clear hgi hend hls
        obtain ⟨wa, rfl⟩ : ∃ x, x = wr := ⟨wr, rfl⟩
        go_wp2_with fail
        go_loopw [7, 29] (fun q j wr => ∃ k : Nat, k ≤ l.length ∧ j = .int .i64 k ∧ q = .int .i64 (-1) ∧ w6.grownBy wr none ∧ Hid (nextK l i k = none)) (fun _ j _ => l.length - (intOf j).toNat)
        case atStart => exact ⟨0, Nat.zero_le _, rfl, rfl, World.grownBy.refl _ _, rfl⟩
        case round =>
          obtain ⟨j, hj, rfl, rfl, hgx, hnk⟩ := hrel
          by_cases hlj : j < l.length
          · obtain ⟨g', o', cx, e, hb0', hb1', ⟨A2, c2', rfl, hcp2, hpts2⟩, hc⟩ := (hl.pure (hg.t hgx)).at_ (by decide) hlj
            cases e
            have c0 : wr.cell? ⟨gg, j * 2, none⟩ = some (.slice A2 l[j].pts.length c2') := by have := hc 0 _ rfl; rw [Nat.zero_add] at this; exact this
            have c1 : wr.cell? ⟨gg, j * 2 + 1, none⟩ = some (.bool l[j].cl) := by have := hc 1 _ rfl; rw [Nat.zero_add] at this; exact this
            clear hc
            have hgj := getD_at hlj
            have hFB : Hid (fitB l i j = (decide (j ≠ i) && (!l[j].cl && decide (frontP l[j] = en)))) := by rw [Hid, fitB, hgj, hend2.out]
            have hp0 := (hne.out l[j] (List.getElem_mem _)).1
            have hNO : Hid (fitB l i j = false → nextK l i (j + 1) = none) := fun h => nextK_no hnk.out h
            have hYES : Hid (fitB l i j = true → nextK l i l.length = some j) := fun h => nextK_yes hnk.out h _ hlj
            clear hgj
            go_upto_region 10 with fail
            obtain ⟨w9, hw9⟩ : ∃ x, x = (wr).alloc (.cells [.slice A2 l[j].pts.length c2', .bool l[j].cl].toArray 36) := ⟨_, rfl⟩
            have hg9 : (wr).grownBy w9 none := by rw [hw9]; exact gr_alloc (World.grownBy.refl _ _) _
            have hb9 : Box w9 (wr).heap.size 36 [.slice A2 l[j].pts.length c2', .bool l[j].cl] := by rw [hw9]; exact Box.new _ _ _
            have hxs9 := hb9.lt
            rw [← hw9]
            clear hw9
            obtain ⟨x9, hx9⟩ : ∃ x, x = (wr).heap.size := ⟨_, rfl⟩
            rw [← hx9] at hb9 hxs9 ⊢
            have hxl9 : (wr).heap.size ≤ x9 := by omega
            clear hx9
            obtain ⟨b0, _⟩ := hb9.c 0 rfl
            obtain ⟨b1, _⟩ := hb9.c 1 rfl
            have hb6x := hb6.pure (hgx.t hg9)
            obtain ⟨e0, _⟩ := hb6x.c 0 rfl
            obtain ⟨e1, _⟩ := hb6x.c 1 rfl
            replace hpts2 := (hpts2.mono (Nat.zero_le _)).pure hg9
            replace hgx := hgx.t hg9
            have c0' := hide (hg9.k c0)
            clear c0 c1 hg9 hb9
            by_cases hij : j = i
            · have hb : ((j : Int) != (i : Int)) = false := by simp [hij]
              have hno := hide (hNO.out (by rw [hFB.out]; simp [hij]))
              replace hij := hide hij
              clear b0 b1 e0 e1 hb6x hpts2
              go_quiet (fail)
              go_wp2
              (go_roundw; (case rel => exact ⟨j + 1, by omega, by go_num, rfl, gr_drewN hgx _, hno⟩); (case measure => simp [intOf]; omega))
            · have hb : ((j : Int) != (i : Int)) = true := by simp; omega
              have hij2 := hide hij
              clear hij
              cases hcj : l[j].cl with
              | true =>
                have hno := hide (hNO.out (by rw [hFB.out, hcj]; simp))
                rw [hcj] at b1
                clear hcj b0 e0 e1 hb6x hpts2
                go_quiet (fail)
                go_wp2
                (go_roundw; (case rel => exact ⟨j + 1, by omega, by go_num, rfl, gr_drewN hgx _, hno⟩); (case measure => simp [intOf]; omega))
              | false =>
                rw [hcj] at b1
                obtain ⟨g3, o3, cx, rfl, hb2, hb3, rfl, hc⟩ := hpts2.at_ (by decide) hp0
                have p0 : w9.cell? ⟨g3, o3 + 0 * 2, none⟩ = some (.int .i64 l[j].pts[0].x) := hc 0 _ rfl
                have p1 : w9.cell? ⟨g3, o3 + 0 * 2 + 1, none⟩ = some (.int .i64 l[j].pts[0].y) := hc 1 _ rfl
                rw [Nat.zero_mul, Nat.add_zero] at p0 p1
                clear hc
                have hfr : Hid (frontP l[j] = l[j].pts[0]) := by rw [Hid, frontP, List.getD_eq_getElem?_getD, List.getElem?_eq_getElem hp0, Option.getD_some]
                have hFC : Hid (fitB l i j = decide (l[j].pts[0] = en)) := by rw [Hid, hFB.out, hcj, hfr.out]; simp [hij2.out]
                have hp1 : (0 : Int) < (l[j].pts.length : Int) := by omega
                generalize l[j].pts[0] = fr at *
                have hpj := hide hpts2
                clear hFB hfr hpts2
                have hcj2 := hide hcj
                clear hcj
                by_cases hx : fr.x = en.x
                · have hbx : (fr.x == en.x) = true := by simp [hx]
                  by_cases hy : fr.y = en.y
                  · have hby : (fr.y == en.y) = true := by simp [hy]
                    have hyes := hide (hYES.out (by rw [hFC.out]; simp [Pt.ext hx hy]))
                    have hfe := hide (hFC.out)
                    replace hx := hide hx
                    replace hy := hide hy
                    go_quiet (fail)
                    go_wp2_with fail
                    obtain ⟨W0, hW0⟩ : ∃ x, x = w9.drewN nq := ⟨_, rfl⟩
                    rw [← hW0]
                    have hgq : w9.grownBy W0 none := by rw [hW0]; exact gr_drewN (World.grownBy.refl _ _) _
                    clear hW0 e0 e1 b0 b1 p0 p1 hb6x
                    have hpi := hpts.pure (hgx.t hgq)
                    have hpj2 := hpj.out.pure hgq
                    have z5 := ((hb5.pure (hgx.t hgq)).c 0 rfl).1
                    rw [hn.out] at z5
                    have zj := hgq.k c0'.out
                    have hgW0 : w.grownBy W0 none := hg.t (hgx.t hgq)
                    clear hpts hb5 hb6 hgx hgq hg c0' hpj
                    have hil := (hne.out l[i] (List.getElem_mem _)).2
                    have hjl := (hne.out l[j] (List.getElem_mem _)).2
                    obtain ⟨m, hm0⟩ : ∃ m, l[j].pts.length = m + 1 := ⟨l[j].pts.length - 1, by omega⟩
                    rw [hm0] at zj
                    have hmc : m + 1 ≤ c2' := by rw [← hm0]; exact hcp2
                    have hm1 : (1 : Int) ≤ (m : Int) + 1 := by omega
                    obtain ⟨A3, hA3, hp3⟩ : ∃ A3 : Addr, (if c2' = 1 then (some ⟨g3, o3, none⟩ : Option Addr) else some ⟨g3, o3 + 2, none⟩) = some A3 ∧ Hid (Sl W0 0 (some A3) (l[j].pts.drop 1)) := by
                      by_cases hq : c2' = 1
                      · have h0 : l[j].pts.drop 1 = [] := by rw [List.drop_eq_nil_iff]; omega
                        exact ⟨_, by rw [if_pos hq], by rw [Hid, h0]; exact Sl.nil⟩
                      · exact ⟨_, by rw [if_neg hq], by have := Sl.drop hpj2 1; exact this⟩
                    have hdl : Hid ((l[j].pts.drop 1).length = m) := by rw [Hid, List.length_drop, hm0]; rfl
                    have hT : Hid (flatK [l[i].pts, l[j].pts.drop 1] 2 = (joinedP l i j).pts) := by rw [Hid, joinedP, getD_at hlt, getD_at hlj]; simp [flatK]
                    have hTl : Hid ((joinedP l i j).pts.length = n + 1 + m) := by rw [Hid, ← hT.out]; simp [flatK, hn.out, hm0]
                    have hJc : Hid ((joinedP l i j).cl = false) := by rw [Hid, joinedP]; exact hcl3.out
                    have hc1 : Hid (chain1 l = some (joinP l i j)) := by
                      rw [Hid, chain1, pairK_yes hpk.out hcl3.out hyes.out _ hlt]; rfl
                    have hO0 := hO.pure hgW0
                    have hA0 := hA2.grN hgW0
                    have hcm := Own.capMax hO0
                    have hnl : n + 1 ≤ 400000 := by rw [← hn.out]; exact hil
                    have hml : m + 1 ≤ 400000 := by rw [← hm0]; exact hjl
                    have hlw := Nat.le_trans hlo hgW0.size
                    have hir : i < raws.length := by omega
                    have hjr : j < raws.length := by omega
                    replace hm0 := hide hm0
                    refine wp_region_tree (fun wx => W0.grownBy wx none) [2, 2, 2, 1, 2, 2, 2, 2, 1, 2, 0, 0, 2, 2, 0] (.bl 0 (.bl 1 (.bl 2 (.bl 3 (.bl 4 (.bl 5 (.bl 6 (.bl 7 (.bl 8 (.bl 9 (.ef 10 (.ef 11 (.bl 12 (.bl 13 (.ef 14 .done))))))))))))))) (by kernel_rfl) (by kernel_rfl) (gr_drew (World.grownBy.refl _ _)) ?_
                    obtain ⟨W1, hW1⟩ : ∃ x, x = (W0).drew := ⟨_, rfl⟩
                    rw [← hW1]
                    have hgW1 : (W0).grownBy W1 none := by rw [hW1]; exact gr_drew (World.grownBy.refl _ _)
                    clear hW1
                    refine tree_p rfl rfl rfl rfl _ rfl (by simp) (fun K hK => ?_)
                    apply Exists.intro
                    refine ⟨fun wq K' hK' => ?_, ?_⟩
                    · go_wp2_with fail
                      exact hK'
                    go_simp
                    refine hK _ ?_
                    clear hK K
                    refine tree_p rfl rfl rfl rfl _ rfl (by simp) (fun K hK => ?_)
                    apply Exists.intro
                    refine ⟨fun wq K' hK' => ?_, ?_⟩
                    · go_wp2_with fail
                      exact hK'
                    go_simp
                    refine hK _ ?_
                    clear hK K
                    refine tree_p rfl rfl rfl rfl _ rfl (by simp) (fun K hK => ?_)
                    apply Exists.intro
                    refine ⟨fun wq K' hK' => ?_, ?_⟩
                    · go_wp2_with fail
                      exact hK'
                    go_simp
                    refine hK _ ?_
                    clear hK K
                    refine tree_b rfl rfl rfl rfl _ rfl (by simp) (fun K hK => ?_)
                    apply Exists.intro
                    refine ⟨fun wq hq K' hK' => ?_, ?_⟩
                    · have y5 := hq.k z5
                      have yj := hq.k zj
                      go_wp2_with fail
                      exact hK'
                    go_simp
                    refine hK _ ?_
                    clear hK K
                    refine tree_p rfl rfl rfl rfl _ rfl (by simp) (fun K hK => ?_)
                    apply Exists.intro
                    refine ⟨fun wq K' hK' => ?_, ?_⟩
                    · go_wp2_with fail
                      exact hK'
                    go_simp
                    refine hK _ ?_
                    clear hK K
                    refine tree_p rfl rfl rfl rfl _ rfl (by simp) (fun K hK => ?_)
                    apply Exists.intro
                    refine ⟨fun wq K' hK' => ?_, ?_⟩
                    · go_wp2_with fail
                      exact hK'
                    go_simp
                    refine hK _ ?_
                    clear hK K
                    refine tree_p rfl rfl rfl rfl _ rfl (by simp) (fun K hK => ?_)
                    apply Exists.intro
                    refine ⟨fun wq K' hK' => ?_, ?_⟩
                    · go_wp2_with fail
                      exact hK'
                    go_simp
                    refine hK _ ?_
                    clear hK K
                    refine tree_p rfl rfl rfl rfl _ rfl (by simp) (fun K hK => ?_)
                    apply Exists.intro
                    refine ⟨fun wq K' hK' => ?_, ?_⟩
                    · go_wp2_with fail
                      exact hK'
                    go_simp
                    refine hK _ ?_
                    clear hK K
                    refine tree_b rfl rfl rfl rfl _ rfl (by simp) (fun K hK => ?_)
                    apply Exists.intro
                    refine ⟨fun wq hq K' hK' => ?_, ?_⟩
                    · have y5 := hq.k z5
                      have yj := hq.k zj
                      go_wp2_with fail
                      exact hK'
                    go_simp
                    refine hK _ ?_
                    clear hK K
                    refine tree_p rfl rfl rfl rfl _ rfl (by simp) (fun K hK => ?_)
                    apply Exists.intro
                    refine ⟨fun wq K' hK' => ?_, ?_⟩
                    · go_wp2_with fail
                      exact hK'
                    go_simp
                    refine hK _ ?_
                    clear hK K
                    refine tree_e0 (by kernel_rfl) rfl rfl (fun K hK => ?_)
                    go_wp2_with fail
                    try go_simp
                    refine hK _ _ trivial ?_
                    clear hK K
                    obtain ⟨w10, hw10⟩ : ∃ x, x = (W1).alloc (.cells [.slice (some ⟨g2, o2, none⟩) (n + 1) c', .slice (some A3) m (c2' - 1)].toArray 34) := ⟨_, rfl⟩
                    have hg10 : (W1).grownBy w10 none := by rw [hw10]; exact gr_alloc (World.grownBy.refl _ _) _
                    have hb10 : Box w10 (W1).heap.size 34 [.slice (some ⟨g2, o2, none⟩) (n + 1) c', .slice (some A3) m (c2' - 1)] := by rw [hw10]; exact Box.new _ _ _
                    rw [← hw10]
                    clear hw10
                    have hw10 : W0.grownBy w10 none := gr_trans hgW1 hg10
                    have hsl10 := hb10.sl (l := [(⟨some ⟨g2, o2, none⟩, n + 1, c'⟩ : RawS), ⟨some A3, m, c2' - 1⟩]) ⟨_, _, rfl, rfl, _, [], rfl, rfl, rfl⟩ (Nat.zero_le _) (by simp [maxLen])
                    have hhd10 : Heads w10 [(⟨some ⟨g2, o2, none⟩, n + 1, c'⟩ : RawS), ⟨some A3, m, c2' - 1⟩] [l[i].pts, l[j].pts.drop 1] := .cons ⟨hn.out.symm, ⟨_, rfl⟩, hpi.pure hw10⟩ (.cons ⟨hdl.out.symm, ⟨_, rfl⟩, hp3.out.pure hw10⟩ .nil)
                    refine tree_e0 (by kernel_rfl) rfl rfl (fun K hK => ?_)
                    have hc11 := concatPt_any _ 2 2 _ [l[i].pts, l[j].pts.drop 1] w10 (hsl10.pure (World.grownBy.refl _ _)) rfl (hhd10.pure (World.grownBy.refl _ _)) (by rw [show [l[i].pts, l[j].pts.drop 1].length = 2 from rfl, hT.out, hTl.out]; omega) (by rw [show [l[i].pts, l[j].pts.drop 1].length = 2 from rfl, hT.out, hTl.out]; omega)
                    rw [show [l[i].pts, l[j].pts.drop 1].length = 2 from rfl, hT.out] at hc11
                    replace hc11 := hide hc11
                    go_wp2_with fail
                    refine hc11.out.mono ?_
                    rintro e w11 ⟨A4, c4, rfl, ho11, hg11⟩
                    have hW11 : W0.grownBy w11 none := gr_trans (gr_trans hgW1 hg10) hg11
                    have hlw11 : W0.heap.size ≤ (w10).heap.size := (gr_trans hgW1 hg10).size
                    clear hc11
                    go_wp2_with fail
                    try go_simp
                    refine hK _ _ trivial ?_
                    clear hK K
                    refine tree_p rfl rfl rfl rfl _ rfl (by simp) (fun K hK => ?_)
                    apply Exists.intro
                    refine ⟨fun wq K' hK' => ?_, ?_⟩
                    · go_wp2_with fail
                      exact hK'
                    go_simp
                    refine hK _ ?_
                    clear hK K
                    refine tree_p rfl rfl rfl rfl _ rfl (by simp) (fun K hK => ?_)
                    apply Exists.intro
                    refine ⟨fun wq K' hK' => ?_, ?_⟩
                    · go_wp2_with fail
                      exact hK'
                    go_simp
                    refine hK _ ?_
                    clear hK K
                    refine tree_e0 (by kernel_rfl) rfl rfl (fun K hK => ?_)
                    have hO11 := hO0.pure hW11
                    have hA11 := hA0.grN hW11
                    obtain ⟨k0, -⟩ := hO11.cell_rawp hir
                    have f0 := hO11.frozen (i * 2)
                    have hO12 := hO11.put (j := 0) hir (x := ⟨A4, (joinedP l i j).pts.length, c4, raws[i].b⟩) (u := .slice A4 (joinedP l i j).pts.length c4) (by decide) (by rintro c1 rfl; rfl)
                    have hg12 := gr_set (World.grownBy.refl w11 (some gg)) (p := ⟨gg, i * 2, none⟩) (.inl rfl) (.slice A4 (joinedP l i j).pts.length c4)
                    have hnew : NOk RawP w11 lo (some ⟨gg, 0, none⟩) ⟨A4, (joinedP l i j).pts.length, c4, raws[i].b⟩ (joinedP l i j) := by
                      refine ⟨⟨rfl, ?_, ho11.cap, ho11.sl.mono (by omega), fun q hq => ?_⟩, fun q hq e => ?_⟩
                      · show raws[i].b = _
                        rw [(hA2.get i hir hlt).1.2.1, hJc.out, hcl2.out]
                      · have := ho11.blk_lt hq; exact ⟨by omega, this.2⟩
                      · have := ho11.blk_lt hq
                        injection e with e
                        have hsz := hgW0.size
                        simp only at e
                        omega
                    have hA12 := (hA11.set_ i hnew).grB hg12 rfl
                    replace hnew := hide hnew
                    replace hO12 := hide hO12
                    replace hg12 := hide hg12
                    replace hA12 := hide hA12
                    go_wp2_with fail
                    try go_simp
                    refine hK _ _ trivial ?_
                    clear hK K
                    refine tree_done ?_
                    obtain ⟨w12, hw12⟩ : ∃ x, x = w11.setCell ⟨gg, i * 2, none⟩ (.slice A4 (joinedP l i j).pts.length c4) := ⟨_, rfl⟩
                    rw [← hw12]
                    have hO13 : Own w12 lo 36 (some ⟨gg, 0, none⟩) c (raws.set i ⟨A4, (joinedP l i j).pts.length, c4, raws[i].b⟩) := by rw [hw12]; exact hO12.out
                    have hA13 : All2 (NOk RawP w12 lo (some ⟨gg, 0, none⟩)) (raws.set i ⟨A4, (joinedP l i j).pts.length, c4, raws[i].b⟩) (l.set i (joinedP l i j)) := by rw [hw12]; exact hA12.out
                    have hg13 : w11.grownBy w12 (some gg) := by rw [hw12]; exact hg12.out
                    have hgw : w.grownBy w12 (some gg) := gr_trans (gr_any (hgW0.t hW11)) hg13
                    have hD := delPath_any gg c _ l.length j lo w12 hO13 (by rw [List.length_set]; exact hrl) hlj hcm
                    have hjl2 : Hid ((joinP l i j).length = l.length - 1) := by have := joinP_len (i := i) hlj; rw [Hid]; omega
                    clear hw12 hO12 hA12 hg12 hnew ho11 hW11 hg11 hlw11 hsl10 hhd10 hw10 hb10 hg10 hgW1 hpi hpj2 hp3 hdl hT hTl z5 zj
                    replace hD := hide hD
                    go_wp2_with fail
                    refine hD.out.mono ?_
                    rintro e w14 ⟨rfl, hO14, hg14⟩
                    go_wp2_with fail
                    go_ret2
                    exact .inr ⟨_, hc1.out, by rw [hjl2.out]; rfl, ⟨_, hO14, (All2.erase hA13 j).grB hg14 rfl⟩, gr_trans hgw hg14⟩
                  · have hby : (fr.y == en.y) = false := by simp [hy]
                    have hno := hide (hNO.out (by rw [hFC.out]; simp only [decide_eq_false_iff_not]; intro e; exact hy (by rw [e])))
                    replace hx := hide hx
                    replace hy := hide hy
                    go_quiet (fail)
                    go_wp2
                    (go_roundw; (case rel => exact ⟨j + 1, by omega, by go_num, rfl, gr_drewN hgx _, hno⟩); (case measure => simp [intOf]; omega))
                · have hbx : (fr.x == en.x) = false := by simp [hx]
                  have hno := hide (hNO.out (by rw [hFC.out]; simp only [decide_eq_false_iff_not]; intro e; exact hx (by rw [e])))
                  replace hx := hide hx
                  go_quiet (fail)
                  go_wp2
                  (go_roundw; (case rel => exact ⟨j + 1, by omega, by go_num, rfl, gr_drewN hgx _, hno⟩); (case measure => simp [intOf]; omega))
          · obtain rfl : j = l.length := by omega
            have hp1 : Hid (pairK l (i + 1) = none) := pairK_no hpk.out hnk.out
            go_wp2_with fail
            (go_roundw; (case rel => exact ⟨i + 1, by omega, by go_num, hg.t hgx, hp1⟩); (case measure => simp [intOf]; omega))
    · obtain rfl : i = l.length := by omega
      have hc : Hid (chain1 l = none) := by rw [Hid, chain1, hpk.out]; rfl
      go_wp2_with fail
      go_ret2
      exact .inl ⟨hc.out, rfl, hg⟩

end Go.Proofs.YtlefdcodfjifcaaGreatDoor

namespace Go.Proofs.YtlefdcodfjifcaaGreatDoor
open Go Go.RowKit Go.Bl

/-- the block is not frozen -/
def Thaw (w : World) (A : Option Addr) : Prop := ∀ g, blk A = some g → ∀ j, w.frozen? ⟨g, j, none⟩ = false

theorem Thaw.own {α : Type} [Enc α] {w : World} {lo : Nat} {e : TypeId} {A : Option Addr} {c : Nat} {l : List α} (h : Own w lo e A c l) : Thaw w A := by
  intro g hg j
  rcases A with _ | ⟨b, o, s⟩
  · cases hg
  · obtain ⟨hx, cs, hr, h1, h2⟩ := h
    have h : Own w lo e (some ⟨b, o, s⟩) c l := ⟨hx, cs, hr, h1, h2⟩
    rcases h2 with ⟨hv, _⟩ | ⟨g', cap, cur, hv, _⟩
    · cases hv
    · injection hv with e1 _ _
      injection e1 with e1
      cases e1
      have e2 : b = g := by simpa [blk] using hg
      subst e2
      exact h.frozen j

theorem Thaw.gr {w w' : World} {A : Option Addr} {q : Option Nat} (h : Thaw w A) (hlt : ∀ g, blk A = some g → g < w.heap.size) (hg : w.grownBy w' q) (hne : ∀ g, blk A = some g → q ≠ some g) : Thaw w' A :=
  fun g e j => (World.frozen?_of_block (hg.block g (hlt g e) (fun x => hne g e x.symm))).trans (h g e j)

def NOkT (w : World) (lo : Nat) (A : Option Addr) (r : RawP) (x : PathV) : Prop := NOk RawP w lo A r x ∧ Thaw w r.A

def OwnT (w : World) (lo : Nat) (e : TypeId) (A : Option Addr) (c : Nat) (l : List PathV) : Prop := ∃ raws : List RawP, Own w lo e A c raws ∧ All2 (NOkT w lo A) raws l

theorem OwnT.toN {w : World} {lo : Nat} {e : TypeId} {A : Option Addr} {c : Nat} {l : List PathV} (h : OwnT w lo e A c l) : OwnN RawP w lo e A c l := by
  obtain ⟨raws, ho, ha⟩ := h
  exact ⟨raws, ho, ha.imp fun _ _ x => x.1⟩

theorem NOkT.gr {w w' : World} {lo : Nat} {A : Option Addr} {r : RawP} {x : PathV} {q : Option Nat} (h : NOkT w lo A r x) (hg : w.grownBy w' q) (hq : ∀ g, blk r.A = some g → q ≠ some g) : NOkT w' lo A r x :=
  ⟨⟨NestOf.gr h.1.1 hg hq, h.1.2⟩, Thaw.gr h.2 (fun g e => (NestOf.lt h.1.1 (g := g) e).2) hg hq⟩

theorem OwnT.pure {w w' : World} {lo : Nat} {e : TypeId} {A : Option Addr} {c : Nat} {l : List PathV} (h : OwnT w lo e A c l) (hg : w.grownBy w' none) : OwnT w' lo e A c l := by
  obtain ⟨raws, ho, ha⟩ := h
  exact ⟨raws, ho.pure hg, ha.imp fun _ _ x => NOkT.gr x hg (fun g _ e => by cases e)⟩

theorem OwnT.nil (w : World) (lo : Nat) (e : TypeId) : OwnT w lo e none 0 ([] : List PathV) := ⟨[], Own.nil w lo e, .nil⟩

theorem grNT {w w' : World} {lo : Nat} {A : Option Addr} {raws : List RawP} {l : List PathV} (h : All2 (NOkT w lo A) raws l) (hg : w.grownBy w' none) : All2 (NOkT w' lo A) raws l := h.imp fun _ _ x => NOkT.gr x hg (fun g _ e => by cases e)

theorem grBT {w w' : World} {lo : Nat} {A : Option Addr} {raws : List RawP} {l : List PathV} {q : Option Nat} (h : All2 (NOkT w lo A) raws l) (hg : w.grownBy w' q) (hq : q = blk A) : All2 (NOkT w' lo A) raws l := h.imp fun _ _ x => NOkT.gr x hg (fun g hb => by rw [hq]; exact x.1.2 g hb)

theorem OwnT.push {w w' : World} {lo : Nat} {e : TypeId} {A A' : Option Addr} {c' : Nat} {raws : List RawP} {l : List PathV} {r : RawP} {x : PathV} (ha : All2 (NOkT w lo A) raws l) (ho' : Own w' lo e A' c' (raws ++ [r])) (hG : Grew A A' w w') (hx : NOkT w lo A r x) : OwnT w' lo e A' c' (l ++ [x]) := by
  refine ⟨raws ++ [r], ho', (ha.snoc hx).imp fun r x hx => ⟨⟨NestOf.gr hx.1.1 hG.1 fun g hb => hx.1.2 g hb, fun g hb => ?_⟩, Thaw.gr hx.2 (fun g e => (NestOf.lt hx.1.1 (g := g) e).2) hG.1 (fun g hb => hx.1.2 g hb)⟩⟩
  rcases hG.2 with h | h
  · rw [h]; exact hx.1.2 g hb
  · rw [h]; have := (NestOf.lt hx.1.1 (g := g) hb).2; intro e; injection e; omega

def SChainT (lo : Nat) (w : World) (l : List PathV) (A : Option Addr) (c : Nat) (e : Ending) (w' : World) : Prop :=
  (chain1 l = none ∧ e = .returned (.tuple #[.slice A l.length c, .bool false]) ∧ w.grownBy w' none) ∨
  ∃ m, chain1 l = some m ∧ e = .returned (.tuple #[.slice A m.length c, .bool true]) ∧ OwnT w' lo 36 A c m ∧ w.grownBy w' (blk A)

set_option maxHeartbeats 4000000 in
set_option maxRecDepth 100000 in
theorem chainT_any (A : Option Addr) (c lo : Nat) (l : List PathV) (w : World) (hN : OwnT w lo 36 A c l) (hlo : lo ≤ w.heap.size) (hne : ∀ p ∈ l, 0 < p.pts.length ∧ p.pts.length ≤ 400000) :
    Calls Tryz.prog 44 #[.slice A l.length c] w (SChainT lo w l A c) := by
  have hl := hN.toN.sl.mono (Nat.zero_le _)
  obtain ⟨raws, hO, hA2⟩ := hN
  have hrl := hA2.len
  have hm := hl.1
  unfold maxLen at hm
  replace hne := hide hne
  go_enter Tryz.func44, Tryz.ntmps44
  go_wp2_with fail
  go_loopw [12] (fun i wr => ∃ k : Nat, k ≤ l.length ∧ i = .int .i64 k ∧ w.grownBy wr none ∧ Hid (pairK l k = none)) (fun i _ => l.length - (intOf i).toNat)
  case atStart => exact ⟨0, Nat.zero_le _, rfl, World.grownBy.refl _ _, rfl⟩
  case round =>
    obtain ⟨i, hi, rfl, hg, hpk⟩ := hrel
    by_cases hlt : i < l.length
    · have hls := hl.pure hg
      obtain ⟨gg, rfl, hggl, hggr⟩ := hO.shape (by omega)
      obtain ⟨g, o, cx, e, hb0, hb1, ⟨A', c', rfl, hcp, hpts⟩, hc⟩ := hls.at_ (by decide) hlt
      cases e
      have c0 : wr.cell? ⟨gg, i * 2, none⟩ = some (.slice A' l[i].pts.length c') := by have := hc 0 _ rfl; rw [Nat.zero_add] at this; exact this
      have c1 : wr.cell? ⟨gg, i * 2 + 1, none⟩ = some (.bool l[i].cl) := by have := hc 1 _ rfl; rw [Nat.zero_add] at this; exact this
      clear hc
      have hp0 := (hne.out l[i] (List.getElem_mem _)).1
      have hgi := getD_at hlt
      go_upto_region 4 with fail
      obtain ⟨w5, hw5⟩ : ∃ x, x = (wr).alloc (.cells [.slice A' l[i].pts.length c', .bool l[i].cl].toArray 36) := ⟨_, rfl⟩
      have hg5 : (wr).grownBy w5 none := by rw [hw5]; exact gr_alloc (World.grownBy.refl _ _) _
      have hb5 : Box w5 (wr).heap.size 36 [.slice A' l[i].pts.length c', .bool l[i].cl] := by rw [hw5]; exact Box.new _ _ _
      have hxs5 := hb5.lt
      rw [← hw5]
      clear hw5
      obtain ⟨x5, hx5⟩ : ∃ x, x = (wr).heap.size := ⟨_, rfl⟩
      rw [← hx5] at hb5 hxs5 ⊢
      have hxl5 : (wr).heap.size ≤ x5 := by omega
      clear hx5
      obtain ⟨b0, _⟩ := hb5.c 0 rfl
      obtain ⟨b1, _⟩ := hb5.c 1 rfl
      replace hpts := (hpts.mono (Nat.zero_le _)).pure hg5
      replace hg := hg.t hg5
      clear c0 c1 hg5
      cases hcl : l[i].cl with
      | true =>
        have hp1 : Hid (pairK l (i + 1) = none) := pairK_cl hpk.out (by rw [hgi, hcl])
        rw [hcl] at b1
        clear hcl
        go_wp2_with fail
        (go_roundw; (case rel => exact ⟨i + 1, by omega, by go_num, hg, hp1⟩); (case measure => simp [intOf]; omega))
      | false =>
        rw [hcl] at b1
        obtain ⟨n, hn⟩ : ∃ n, l[i].pts.length = n + 1 := ⟨l[i].pts.length - 1, by omega⟩
        have hlast : n < l[i].pts.length := by omega
        have hnm := hpts.1
        unfold maxLen at hnm
        rw [hn] at hnm
        have hn0 : (0 : Int) ≤ n ∧ (n : Int) < (n : Int) + 1 := by omega
        obtain ⟨g2, o2, cx, rfl, hb2, hb3, rfl, hc⟩ := hpts.at_ (by decide) hlast
        have p0 : w5.cell? ⟨g2, o2 + n * 2, none⟩ = some (.int .i64 l[i].pts[n].x) := hc 0 _ rfl
        have p1 : w5.cell? ⟨g2, o2 + n * 2 + 1, none⟩ = some (.int .i64 l[i].pts[n].y) := hc 1 _ rfl
        clear hc
        have hend : Hid (endP l[i] = l[i].pts[n]) := by rw [Hid, endP, hn, Nat.add_sub_cancel, List.getD_eq_getElem?_getD, List.getElem?_eq_getElem hlast, Option.getD_some]
        have hcl2 := hide hcl
        clear hcl
        rw [hn] at b0
        clear hp0
        replace hn := hide hn
        go_upto_region 6 with fail
        obtain ⟨w6, hw6⟩ : ∃ x, x = (w5).alloc (.cells [.int .i64 l[i].pts[n].x, .int .i64 l[i].pts[n].y].toArray 68) := ⟨_, rfl⟩
        have hg6 : (w5).grownBy w6 none := by rw [hw6]; exact gr_alloc (World.grownBy.refl _ _) _
        have hb6 : Box w6 (w5).heap.size 68 [.int .i64 l[i].pts[n].x, .int .i64 l[i].pts[n].y] := by rw [hw6]; exact Box.new _ _ _
        have hxs6 := hb6.lt
        rw [← hw6]
        clear hw6
        obtain ⟨x6, hx6⟩ : ∃ x, x = (w5).heap.size := ⟨_, rfl⟩
        rw [← hx6] at hb6 hxs6 ⊢
        have hxl6 : (w5).heap.size ≤ x6 := by omega
        clear hx6
        have hb5 := hb5.pure hg6
        replace hpts := hpts.pure hg6
        clear b0 b1 p0 p1
        generalize l[i].pts[n] = en at *
        replace hg := hg.t hg6
        have hcl3 : Hid ((l.getD i default).cl = false) := by rw [Hid, hgi, hcl2.out]
        have hend2 : Hid (endP (l.getD i default) = en) := by rw [Hid, hgi, hend.out]
        clear hgi hend hls
        obtain ⟨wa, rfl⟩ : ∃ x, x = wr := ⟨wr, rfl⟩
        go_wp2_with fail
        go_loopw [7, 29] (fun q j wr => ∃ k : Nat, k ≤ l.length ∧ j = .int .i64 k ∧ q = .int .i64 (-1) ∧ w6.grownBy wr none ∧ Hid (nextK l i k = none)) (fun _ j _ => l.length - (intOf j).toNat)
        case atStart => exact ⟨0, Nat.zero_le _, rfl, rfl, World.grownBy.refl _ _, rfl⟩
        case round =>
          obtain ⟨j, hj, rfl, rfl, hgx, hnk⟩ := hrel
          by_cases hlj : j < l.length
          · obtain ⟨g', o', cx, e, hb0', hb1', ⟨A2, c2', rfl, hcp2, hpts2⟩, hc⟩ := (hl.pure (hg.t hgx)).at_ (by decide) hlj
            cases e
            have c0 : wr.cell? ⟨gg, j * 2, none⟩ = some (.slice A2 l[j].pts.length c2') := by have := hc 0 _ rfl; rw [Nat.zero_add] at this; exact this
            have c1 : wr.cell? ⟨gg, j * 2 + 1, none⟩ = some (.bool l[j].cl) := by have := hc 1 _ rfl; rw [Nat.zero_add] at this; exact this
            clear hc
            have hgj := getD_at hlj
            have hFB : Hid (fitB l i j = (decide (j ≠ i) && (!l[j].cl && decide (frontP l[j] = en)))) := by rw [Hid, fitB, hgj, hend2.out]
            have hp0 := (hne.out l[j] (List.getElem_mem _)).1
            have hNO : Hid (fitB l i j = false → nextK l i (j + 1) = none) := fun h => nextK_no hnk.out h
            have hYES : Hid (fitB l i j = true → nextK l i l.length = some j) := fun h => nextK_yes hnk.out h _ hlj
            clear hgj
            go_upto_region 10 with fail
            obtain ⟨w9, hw9⟩ : ∃ x, x = (wr).alloc (.cells [.slice A2 l[j].pts.length c2', .bool l[j].cl].toArray 36) := ⟨_, rfl⟩
            have hg9 : (wr).grownBy w9 none := by rw [hw9]; exact gr_alloc (World.grownBy.refl _ _) _
            have hb9 : Box w9 (wr).heap.size 36 [.slice A2 l[j].pts.length c2', .bool l[j].cl] := by rw [hw9]; exact Box.new _ _ _
            have hxs9 := hb9.lt
            rw [← hw9]
            clear hw9
            obtain ⟨x9, hx9⟩ : ∃ x, x = (wr).heap.size := ⟨_, rfl⟩
            rw [← hx9] at hb9 hxs9 ⊢
            have hxl9 : (wr).heap.size ≤ x9 := by omega
            clear hx9
            obtain ⟨b0, _⟩ := hb9.c 0 rfl
            obtain ⟨b1, _⟩ := hb9.c 1 rfl
            have hb6x := hb6.pure (hgx.t hg9)
            obtain ⟨e0, _⟩ := hb6x.c 0 rfl
            obtain ⟨e1, _⟩ := hb6x.c 1 rfl
            replace hpts2 := (hpts2.mono (Nat.zero_le _)).pure hg9
            replace hgx := hgx.t hg9
            have c0' := hide (hg9.k c0)
            clear c0 c1 hg9 hb9
            by_cases hij : j = i
            · have hb : ((j : Int) != (i : Int)) = false := by simp [hij]
              have hno := hide (hNO.out (by rw [hFB.out]; simp [hij]))
              replace hij := hide hij
              clear b0 b1 e0 e1 hb6x hpts2
              go_quiet (fail)
              go_wp2
              (go_roundw; (case rel => exact ⟨j + 1, by omega, by go_num, rfl, gr_drewN hgx _, hno⟩); (case measure => simp [intOf]; omega))
            · have hb : ((j : Int) != (i : Int)) = true := by simp; omega
              have hij2 := hide hij
              clear hij
              cases hcj : l[j].cl with
              | true =>
                have hno := hide (hNO.out (by rw [hFB.out, hcj]; simp))
                rw [hcj] at b1
                clear hcj b0 e0 e1 hb6x hpts2
                go_quiet (fail)
                go_wp2
                (go_roundw; (case rel => exact ⟨j + 1, by omega, by go_num, rfl, gr_drewN hgx _, hno⟩); (case measure => simp [intOf]; omega))
              | false =>
                rw [hcj] at b1
                obtain ⟨g3, o3, cx, rfl, hb2, hb3, rfl, hc⟩ := hpts2.at_ (by decide) hp0
                have p0 : w9.cell? ⟨g3, o3 + 0 * 2, none⟩ = some (.int .i64 l[j].pts[0].x) := hc 0 _ rfl
                have p1 : w9.cell? ⟨g3, o3 + 0 * 2 + 1, none⟩ = some (.int .i64 l[j].pts[0].y) := hc 1 _ rfl
                rw [Nat.zero_mul, Nat.add_zero] at p0 p1
                clear hc
                have hfr : Hid (frontP l[j] = l[j].pts[0]) := by rw [Hid, frontP, List.getD_eq_getElem?_getD, List.getElem?_eq_getElem hp0, Option.getD_some]
                have hFC : Hid (fitB l i j = decide (l[j].pts[0] = en)) := by rw [Hid, hFB.out, hcj, hfr.out]; simp [hij2.out]
                have hp1 : (0 : Int) < (l[j].pts.length : Int) := by omega
                generalize l[j].pts[0] = fr at *
                have hpj := hide hpts2
                clear hFB hfr hpts2
                have hcj2 := hide hcj
                clear hcj
                by_cases hx : fr.x = en.x
                · have hbx : (fr.x == en.x) = true := by simp [hx]
                  by_cases hy : fr.y = en.y
                  · have hby : (fr.y == en.y) = true := by simp [hy]
                    have hyes := hide (hYES.out (by rw [hFC.out]; simp [Pt.ext hx hy]))
                    have hfe := hide (hFC.out)
                    replace hx := hide hx
                    replace hy := hide hy
                    go_quiet (fail)
                    go_wp2_with fail
                    obtain ⟨W0, hW0⟩ : ∃ x, x = w9.drewN nq := ⟨_, rfl⟩
                    rw [← hW0]
                    have hgq : w9.grownBy W0 none := by rw [hW0]; exact gr_drewN (World.grownBy.refl _ _) _
                    clear hW0 e0 e1 b0 b1 p0 p1 hb6x
                    have hpi := hpts.pure (hgx.t hgq)
                    have hpj2 := hpj.out.pure hgq
                    have z5 := ((hb5.pure (hgx.t hgq)).c 0 rfl).1
                    rw [hn.out] at z5
                    have zj := hgq.k c0'.out
                    have hgW0 : w.grownBy W0 none := hg.t (hgx.t hgq)
                    clear hpts hb5 hb6 hgx hgq hg c0' hpj
                    have hil := (hne.out l[i] (List.getElem_mem _)).2
                    have hjl := (hne.out l[j] (List.getElem_mem _)).2
                    obtain ⟨m, hm0⟩ : ∃ m, l[j].pts.length = m + 1 := ⟨l[j].pts.length - 1, by omega⟩
                    rw [hm0] at zj
                    have hmc : m + 1 ≤ c2' := by rw [← hm0]; exact hcp2
                    have hm1 : (1 : Int) ≤ (m : Int) + 1 := by omega
                    obtain ⟨A3, hA3, hp3⟩ : ∃ A3 : Addr, (if c2' = 1 then (some ⟨g3, o3, none⟩ : Option Addr) else some ⟨g3, o3 + 2, none⟩) = some A3 ∧ Hid (Sl W0 0 (some A3) (l[j].pts.drop 1)) := by
                      by_cases hq : c2' = 1
                      · have h0 : l[j].pts.drop 1 = [] := by rw [List.drop_eq_nil_iff]; omega
                        exact ⟨_, by rw [if_pos hq], by rw [Hid, h0]; exact Sl.nil⟩
                      · exact ⟨_, by rw [if_neg hq], by have := Sl.drop hpj2 1; exact this⟩
                    have hdl : Hid ((l[j].pts.drop 1).length = m) := by rw [Hid, List.length_drop, hm0]; rfl
                    have hT : Hid (flatK [l[i].pts, l[j].pts.drop 1] 2 = (joinedP l i j).pts) := by rw [Hid, joinedP, getD_at hlt, getD_at hlj]; simp [flatK]
                    have hTl : Hid ((joinedP l i j).pts.length = n + 1 + m) := by rw [Hid, ← hT.out]; simp [flatK, hn.out, hm0]
                    have hJc : Hid ((joinedP l i j).cl = false) := by rw [Hid, joinedP]; exact hcl3.out
                    have hc1 : Hid (chain1 l = some (joinP l i j)) := by
                      rw [Hid, chain1, pairK_yes hpk.out hcl3.out hyes.out _ hlt]; rfl
                    have hO0 := hO.pure hgW0
                    have hA0 := grNT hA2 hgW0
                    have hcm := Own.capMax hO0
                    have hnl : n + 1 ≤ 400000 := by rw [← hn.out]; exact hil
                    have hml : m + 1 ≤ 400000 := by rw [← hm0]; exact hjl
                    have hlw := Nat.le_trans hlo hgW0.size
                    have hir : i < raws.length := by omega
                    have hjr : j < raws.length := by omega
                    replace hm0 := hide hm0
                    refine wp_region_tree (fun wx => W0.grownBy wx none) [2, 2, 2, 1, 2, 2, 2, 2, 1, 2, 0, 0, 2, 2, 0] (.bl 0 (.bl 1 (.bl 2 (.bl 3 (.bl 4 (.bl 5 (.bl 6 (.bl 7 (.bl 8 (.bl 9 (.ef 10 (.ef 11 (.bl 12 (.bl 13 (.ef 14 .done))))))))))))))) (by kernel_rfl) (by kernel_rfl) (gr_drew (World.grownBy.refl _ _)) ?_
                    obtain ⟨W1, hW1⟩ : ∃ x, x = (W0).drew := ⟨_, rfl⟩
                    rw [← hW1]
                    have hgW1 : (W0).grownBy W1 none := by rw [hW1]; exact gr_drew (World.grownBy.refl _ _)
                    clear hW1
                    refine tree_p rfl rfl rfl rfl _ rfl (by simp) (fun K hK => ?_)
                    apply Exists.intro
                    refine ⟨fun wq K' hK' => ?_, ?_⟩
                    · go_wp2_with fail
                      exact hK'
                    go_simp
                    refine hK _ ?_
                    clear hK K
                    refine tree_p rfl rfl rfl rfl _ rfl (by simp) (fun K hK => ?_)
                    apply Exists.intro
                    refine ⟨fun wq K' hK' => ?_, ?_⟩
                    · go_wp2_with fail
                      exact hK'
                    go_simp
                    refine hK _ ?_
                    clear hK K
                    refine tree_p rfl rfl rfl rfl _ rfl (by simp) (fun K hK => ?_)
                    apply Exists.intro
                    refine ⟨fun wq K' hK' => ?_, ?_⟩
                    · go_wp2_with fail
                      exact hK'
                    go_simp
                    refine hK _ ?_
                    clear hK K
                    refine tree_b rfl rfl rfl rfl _ rfl (by simp) (fun K hK => ?_)
                    apply Exists.intro
                    refine ⟨fun wq hq K' hK' => ?_, ?_⟩
                    · have y5 := hq.k z5
                      have yj := hq.k zj
                      go_wp2_with fail
                      exact hK'
                    go_simp
                    refine hK _ ?_
                    clear hK K
                    refine tree_p rfl rfl rfl rfl _ rfl (by simp) (fun K hK => ?_)
                    apply Exists.intro
                    refine ⟨fun wq K' hK' => ?_, ?_⟩
                    · go_wp2_with fail
                      exact hK'
                    go_simp
                    refine hK _ ?_
                    clear hK K
                    refine tree_p rfl rfl rfl rfl _ rfl (by simp) (fun K hK => ?_)
                    apply Exists.intro
                    refine ⟨fun wq K' hK' => ?_, ?_⟩
                    · go_wp2_with fail
                      exact hK'
                    go_simp
                    refine hK _ ?_
                    clear hK K
                    refine tree_p rfl rfl rfl rfl _ rfl (by simp) (fun K hK => ?_)
                    apply Exists.intro
                    refine ⟨fun wq K' hK' => ?_, ?_⟩
                    · go_wp2_with fail
                      exact hK'
                    go_simp
                    refine hK _ ?_
                    clear hK K
                    refine tree_p rfl rfl rfl rfl _ rfl (by simp) (fun K hK => ?_)
                    apply Exists.intro
                    refine ⟨fun wq K' hK' => ?_, ?_⟩
                    · go_wp2_with fail
                      exact hK'
                    go_simp
                    refine hK _ ?_
                    clear hK K
                    refine tree_b rfl rfl rfl rfl _ rfl (by simp) (fun K hK => ?_)
                    apply Exists.intro
                    refine ⟨fun wq hq K' hK' => ?_, ?_⟩
                    · have y5 := hq.k z5
                      have yj := hq.k zj
                      go_wp2_with fail
                      exact hK'
                    go_simp
                    refine hK _ ?_
                    clear hK K
                    refine tree_p rfl rfl rfl rfl _ rfl (by simp) (fun K hK => ?_)
                    apply Exists.intro
                    refine ⟨fun wq K' hK' => ?_, ?_⟩
                    · go_wp2_with fail
                      exact hK'
                    go_simp
                    refine hK _ ?_
                    clear hK K
                    refine tree_e0 (by kernel_rfl) rfl rfl (fun K hK => ?_)
                    go_wp2_with fail
                    try go_simp
                    refine hK _ _ trivial ?_
                    clear hK K
                    obtain ⟨w10, hw10⟩ : ∃ x, x = (W1).alloc (.cells [.slice (some ⟨g2, o2, none⟩) (n + 1) c', .slice (some A3) m (c2' - 1)].toArray 34) := ⟨_, rfl⟩
                    have hg10 : (W1).grownBy w10 none := by rw [hw10]; exact gr_alloc (World.grownBy.refl _ _) _
                    have hb10 : Box w10 (W1).heap.size 34 [.slice (some ⟨g2, o2, none⟩) (n + 1) c', .slice (some A3) m (c2' - 1)] := by rw [hw10]; exact Box.new _ _ _
                    rw [← hw10]
                    clear hw10
                    have hw10 : W0.grownBy w10 none := gr_trans hgW1 hg10
                    have hsl10 := hb10.sl (l := [(⟨some ⟨g2, o2, none⟩, n + 1, c'⟩ : RawS), ⟨some A3, m, c2' - 1⟩]) ⟨_, _, rfl, rfl, _, [], rfl, rfl, rfl⟩ (Nat.zero_le _) (by simp [maxLen])
                    have hhd10 : Heads w10 [(⟨some ⟨g2, o2, none⟩, n + 1, c'⟩ : RawS), ⟨some A3, m, c2' - 1⟩] [l[i].pts, l[j].pts.drop 1] := .cons ⟨hn.out.symm, ⟨_, rfl⟩, hpi.pure hw10⟩ (.cons ⟨hdl.out.symm, ⟨_, rfl⟩, hp3.out.pure hw10⟩ .nil)
                    refine tree_e0 (by kernel_rfl) rfl rfl (fun K hK => ?_)
                    have hc11 := concatPt_any _ 2 2 _ [l[i].pts, l[j].pts.drop 1] w10 (hsl10.pure (World.grownBy.refl _ _)) rfl (hhd10.pure (World.grownBy.refl _ _)) (by rw [show [l[i].pts, l[j].pts.drop 1].length = 2 from rfl, hT.out, hTl.out]; omega) (by rw [show [l[i].pts, l[j].pts.drop 1].length = 2 from rfl, hT.out, hTl.out]; omega)
                    rw [show [l[i].pts, l[j].pts.drop 1].length = 2 from rfl, hT.out] at hc11
                    replace hc11 := hide hc11
                    go_wp2_with fail
                    refine hc11.out.mono ?_
                    rintro e w11 ⟨A4, c4, rfl, ho11, hg11⟩
                    have hW11 : W0.grownBy w11 none := gr_trans (gr_trans hgW1 hg10) hg11
                    have hlw11 : W0.heap.size ≤ (w10).heap.size := (gr_trans hgW1 hg10).size
                    clear hc11
                    go_wp2_with fail
                    try go_simp
                    refine hK _ _ trivial ?_
                    clear hK K
                    refine tree_p rfl rfl rfl rfl _ rfl (by simp) (fun K hK => ?_)
                    apply Exists.intro
                    refine ⟨fun wq K' hK' => ?_, ?_⟩
                    · go_wp2_with fail
                      exact hK'
                    go_simp
                    refine hK _ ?_
                    clear hK K
                    refine tree_p rfl rfl rfl rfl _ rfl (by simp) (fun K hK => ?_)
                    apply Exists.intro
                    refine ⟨fun wq K' hK' => ?_, ?_⟩
                    · go_wp2_with fail
                      exact hK'
                    go_simp
                    refine hK _ ?_
                    clear hK K
                    refine tree_e0 (by kernel_rfl) rfl rfl (fun K hK => ?_)
                    have hO11 := hO0.pure hW11
                    have hA11 := grNT hA0 hW11
                    obtain ⟨k0, -⟩ := hO11.cell_rawp hir
                    have f0 := hO11.frozen (i * 2)
                    have hO12 := hO11.put (j := 0) hir (x := ⟨A4, (joinedP l i j).pts.length, c4, raws[i].b⟩) (u := .slice A4 (joinedP l i j).pts.length c4) (by decide) (by rintro c1 rfl; rfl)
                    have hg12 := gr_set (World.grownBy.refl w11 (some gg)) (p := ⟨gg, i * 2, none⟩) (.inl rfl) (.slice A4 (joinedP l i j).pts.length c4)
                    have hnew0 : NOk RawP w11 lo (some ⟨gg, 0, none⟩) ⟨A4, (joinedP l i j).pts.length, c4, raws[i].b⟩ (joinedP l i j) := by
                      refine ⟨⟨rfl, ?_, ho11.cap, ho11.sl.mono (by omega), fun q hq => ?_⟩, fun q hq e => ?_⟩
                      · show raws[i].b = _
                        rw [(hA2.get i hir hlt).1.1.2.1, hJc.out, hcl2.out]
                      · have := ho11.blk_lt hq; exact ⟨by omega, this.2⟩
                      · have := ho11.blk_lt hq
                        injection e with e
                        have hsz := hgW0.size
                        simp only at e
                        omega
                    have hnew : NOkT w11 lo (some ⟨gg, 0, none⟩) ⟨A4, (joinedP l i j).pts.length, c4, raws[i].b⟩ (joinedP l i j) := ⟨hnew0, Thaw.own ho11⟩
                    clear hnew0
                    have hA12 := grBT (hA11.set_ i hnew) hg12 rfl
                    replace hnew := hide hnew
                    replace hO12 := hide hO12
                    replace hg12 := hide hg12
                    replace hA12 := hide hA12
                    go_wp2_with fail
                    try go_simp
                    refine hK _ _ trivial ?_
                    clear hK K
                    refine tree_done ?_
                    obtain ⟨w12, hw12⟩ : ∃ x, x = w11.setCell ⟨gg, i * 2, none⟩ (.slice A4 (joinedP l i j).pts.length c4) := ⟨_, rfl⟩
                    rw [← hw12]
                    have hO13 : Own w12 lo 36 (some ⟨gg, 0, none⟩) c (raws.set i ⟨A4, (joinedP l i j).pts.length, c4, raws[i].b⟩) := by rw [hw12]; exact hO12.out
                    have hA13 : All2 (NOkT w12 lo (some ⟨gg, 0, none⟩)) (raws.set i ⟨A4, (joinedP l i j).pts.length, c4, raws[i].b⟩) (l.set i (joinedP l i j)) := by rw [hw12]; exact hA12.out
                    have hg13 : w11.grownBy w12 (some gg) := by rw [hw12]; exact hg12.out
                    have hgw : w.grownBy w12 (some gg) := gr_trans (gr_any (hgW0.t hW11)) hg13
                    have hD := delPath_any gg c _ l.length j lo w12 hO13 (by rw [List.length_set]; exact hrl) hlj hcm
                    have hjl2 : Hid ((joinP l i j).length = l.length - 1) := by have := joinP_len (i := i) hlj; rw [Hid]; omega
                    clear hw12 hO12 hA12 hg12 hnew ho11 hW11 hg11 hlw11 hsl10 hhd10 hw10 hb10 hg10 hgW1 hpi hpj2 hp3 hdl hT hTl z5 zj
                    replace hD := hide hD
                    go_wp2_with fail
                    refine hD.out.mono ?_
                    rintro e w14 ⟨rfl, hO14, hg14⟩
                    go_wp2_with fail
                    go_ret2
                    exact .inr ⟨_, hc1.out, by rw [hjl2.out]; rfl, ⟨_, hO14, grBT (All2.erase hA13 j) hg14 rfl⟩, gr_trans hgw hg14⟩
                  · have hby : (fr.y == en.y) = false := by simp [hy]
                    have hno := hide (hNO.out (by rw [hFC.out]; simp only [decide_eq_false_iff_not]; intro e; exact hy (by rw [e])))
                    replace hx := hide hx
                    replace hy := hide hy
                    go_quiet (fail)
                    go_wp2
                    (go_roundw; (case rel => exact ⟨j + 1, by omega, by go_num, rfl, gr_drewN hgx _, hno⟩); (case measure => simp [intOf]; omega))
                · have hbx : (fr.x == en.x) = false := by simp [hx]
                  have hno := hide (hNO.out (by rw [hFC.out]; simp only [decide_eq_false_iff_not]; intro e; exact hx (by rw [e])))
                  replace hx := hide hx
                  go_quiet (fail)
                  go_wp2
                  (go_roundw; (case rel => exact ⟨j + 1, by omega, by go_num, rfl, gr_drewN hgx _, hno⟩); (case measure => simp [intOf]; omega))
          · obtain rfl : j = l.length := by omega
            have hp1 : Hid (pairK l (i + 1) = none) := pairK_no hpk.out hnk.out
            go_wp2_with fail
            (go_roundw; (case rel => exact ⟨i + 1, by omega, by go_num, hg.t hgx, hp1⟩); (case measure => simp [intOf]; omega))
    · obtain rfl : i = l.length := by omega
      have hc : Hid (chain1 l = none) := by rw [Hid, chain1, hpk.out]; rfl
      go_wp2_with fail
      go_ret2
      exact .inl ⟨hc.out, rfl, hg⟩

end Go.Proofs.YtlefdcodfjifcaaGreatDoor

namespace Go.Proofs.YtlefdcodfjifcaaGreatDoor
open Go Go.RowKit Go.Bl

def totP (l : List PathV) : Nat := (l.map fun p => p.pts.length).sum

theorem tot_mem {l : List PathV} : ∀ p ∈ l, p.pts.length ≤ totP l := by
  intro p hp
  unfold totP
  induction l with
  | nil => cases hp
  | cons x l ih =>
    simp only [List.map_cons, List.sum_cons]
    rcases List.mem_cons.1 hp with rfl | hp
    · omega
    · have := ih hp; omega

theorem tot_set {l : List PathV} {i : Nat} (h : i < l.length) (x : PathV) : totP (l.set i x) + l[i].pts.length = totP l + x.pts.length := by
  unfold totP
  induction l generalizing i with
  | nil => simp at h
  | cons y l ih => cases i with
    | zero => simp; omega
    | succ i =>
      have := ih (i := i) (by simpa using h)
      simp only [List.set_cons_succ, List.map_cons, List.sum_cons, List.getElem_cons_succ]; omega

theorem tot_erase {l : List PathV} {k : Nat} (h : k < l.length) : totP (l.eraseIdx k) + l[k].pts.length = totP l := by
  unfold totP
  induction l generalizing k with
  | nil => simp at h
  | cons y l ih => cases k with
    | zero => simp; omega
    | succ k =>
      have := ih (k := k) (by simpa using h)
      simp only [List.eraseIdx_cons_succ, List.map_cons, List.sum_cons, List.getElem_cons_succ]; omega

def fullB (l : List PathV) : Prop := ∀ p ∈ l, 0 < p.pts.length

theorem chain1_parts {l m : List PathV} (h : chain1 l = some m) : ∃ i k, i < l.length ∧ k < l.length ∧ k ≠ i ∧ (l.getD i default).cl = false ∧ (l.getD k default).cl = false ∧ frontP (l.getD k default) = endP (l.getD i default) ∧ m = joinP l i k := by
  unfold chain1 at h
  cases hq : pairK l l.length with
  | none => rw [hq] at h; cases h
  | some q =>
    rw [hq] at h
    simp only [Option.map_some, Option.some.injEq] at h
    obtain ⟨h1, h2, h3, h4⟩ := pairK_some (i := q.1) (k := q.2) hq
    obtain ⟨h5, h6, h7⟩ := fitB_parts h4
    exact ⟨q.1, q.2, h1, h3, h5, h2, h6, h7, h.symm⟩

theorem chain1_tot {l m : List PathV} (h : chain1 l = some m) (hf : fullB l) : fullB m ∧ totP m + 1 = totP l := by
  obtain ⟨i, k, hi, hk, hki, -, -, -, rfl⟩ := chain1_parts h
  have hpi := hf _ (List.getElem_mem hi)
  have hpk := hf _ (List.getElem_mem hk)
  have e1 := tot_set hi (joinedP l i k)
  have hk2 : k < (l.set i (joinedP l i k)).length := by simpa using hk
  have e2 := tot_erase hk2
  rw [List.getElem_set_ne (fun e => hki e.symm)] at e2
  have e3 : (joinedP l i k).pts.length = l[i].pts.length + (l[k].pts.length - 1) := by
    simp only [joinedP, List.length_append, List.length_drop]
    rw [List.getD_eq_getElem?_getD, List.getElem?_eq_getElem hi, Option.getD_some, List.getD_eq_getElem?_getD, List.getElem?_eq_getElem hk, Option.getD_some]
  refine ⟨fun p hp => ?_, by unfold joinP; omega⟩
  have hp2 := List.mem_of_mem_eraseIdx hp
  rcases List.mem_or_eq_of_mem_set hp2 with hp3 | rfl
  · exact hf p hp3
  · omega

theorem chainN_id {l : List PathV} (h : chain1 l = none) : ∀ n, chainN n l = l
  | 0 => rfl
  | n + 1 => by unfold chainN; rw [h]

theorem chainN_step {l m : List PathV} (h : chain1 l = some m) : chainN l.length l = chainN m.length m := by
  have e := chain1_len h
  rw [← e]
  conv => lhs; unfold chainN
  rw [h]

def lenOf : Value → Nat
  | .slice _ n _ => n
  | _ => 0

def bitOf : Value → Nat
  | .bool true => 1
  | _ => 0

set_option maxHeartbeats 4000000 in
set_option maxRecDepth 100000 in
theorem chained_any (A : Option Addr) (c : Nat) (p : List PathV) (w : World) (hl : Sl w 0 A p) (hF : pathsF p = 0) (hC : pathsF (chainN p.length p) = 0) :
    Calls Tryz.prog 9 #[.slice A p.length c] w fun e w' => ∃ A' c', e = .returned (.tuple #[.slice A' (chainN p.length p).length c', .int .i64 0]) ∧ OwnN RawP w' w.heap.size 36 A' c' (chainN p.length p) ∧ w.grownBy w' none := by
  have hF1 := checkPaths_any A c p w hl
  rw [hF] at hF1
  obtain ⟨hp200, hpf⟩ := pathsF_zero hF
  have hful : Hid (fullB p) := fun x hx => (pathF_zero (hpf x hx)).1
  have h500 : Hid (∀ x ∈ p, x.pts.length ≤ 500) := fun x hx => (pathF_zero (hpf x hx)).2.1
  have htot : Hid (totP p ≤ 100000) := by
    have : ∀ (l : List PathV), (∀ x ∈ l, x.pts.length ≤ 500) → totP l ≤ 500 * l.length := by
      intro l h
      unfold totP
      induction l with
      | nil => simp
      | cons y l ih =>
        have h1 := h y (by simp)
        have h2 := ih (fun x hx => h x (List.mem_cons_of_mem _ hx))
        simp only [List.map_cons, List.sum_cons, List.length_cons]; omega
    have := this p h500.out
    rw [Hid]; omega
  replace hpf := hide hpf
  replace hF1 := hide hF1
  replace hC := hide hC
  clear hF
  go_enter Tryz.func9, Tryz.ntmps9
  go_wp2_with fail
  refine hF1.out.mono ?_
  rintro e w1 ⟨rfl, hg1⟩
  clear hF1
  have hs1 := hg1.size
  go_wp2_with fail
  go_loopw [5, 17] (fun o i wr => ∃ (k : Nat) (l : List PathV) (A2 : Option Addr) (c2 : Nat), k ≤ p.length ∧ i = .int .i64 k ∧ o = .slice A2 l.length c2 ∧ Hid (l.length = k) ∧ Hid (l = p.take k) ∧ OwnN RawP wr w.heap.size 36 A2 c2 l ∧ w.grownBy wr none) (fun _ i _ => p.length - (intOf i).toNat)
  case atStart => exact ⟨0, [], none, 0, Nat.zero_le _, rfl, rfl, rfl, rfl, OwnN.nil _ _ _, hg1⟩
  case round =>
    clear hg1 hs1
    obtain ⟨k, l, A2, c2, hk, rfl, rfl, hlk, hlt0, hown, hg⟩ := hrel
    by_cases hlt : k < p.length
    · obtain ⟨g, o, cx, rfl, hb0, hb1, ⟨A', c', rfl, hcp, hpts⟩, hc⟩ := (hl.pure hg).at_ (by decide) hlt
      have c0 : wr.cell? ⟨g, o + k * 2, none⟩ = some (.slice A' p[k].pts.length c') := hc 0 _ rfl
      have c1 : wr.cell? ⟨g, o + k * 2 + 1, none⟩ = some (.bool p[k].cl) := hc 1 _ rfl
      clear hc
      have hll : l.length ≤ 200 := by have := hlk.out; omega
      have hpl := h500.out _ (List.getElem_mem hlt)
      have htk := take_snoc hlt
      have hgs := hg.size
      obtain ⟨raws, hO, hA2⟩ := hown
      have hrl := hide hA2.len
      have hrl2 : raws.length ≤ 200 := by rw [hrl.out]; exact hll
      go_upto_region 8 with fail
      obtain ⟨w7, hw7⟩ : ∃ x, x = (wr).alloc (.cells [.slice A' p[k].pts.length c', .bool p[k].cl].toArray 36) := ⟨_, rfl⟩
      have hg7 : (wr).grownBy w7 none := by rw [hw7]; exact gr_alloc (World.grownBy.refl _ _) _
      have hb7 : Box w7 (wr).heap.size 36 [.slice A' p[k].pts.length c', .bool p[k].cl] := by rw [hw7]; exact Box.new _ _ _
      have hxs7 := hb7.lt
      rw [← hw7]
      clear hw7
      obtain ⟨x7, hx7⟩ : ∃ x, x = (wr).heap.size := ⟨_, rfl⟩
      rw [← hx7] at hb7 hxs7 ⊢
      have hxl7 : (wr).heap.size ≤ x7 := by omega
      clear hx7
      obtain ⟨b0, _⟩ := hb7.c 0 rfl
      obtain ⟨b1, _⟩ := hb7.c 1 rfl
      clear c0 c1
      rw [← hrl.out]
      refine wp_region_tree (fun wx => w7.grownBy wx none) [2, 2, 1, 0, 2, 1, 2, 0, 0, 2] (.bl 0 (.bl 1 (.bl 2 (.bl 4 (.bl 5 (.ef 3 (.bl 6 (.ef 7 (.ef 8 (.bl 9 .done)))))))))) (by kernel_rfl) (by kernel_rfl) (gr_drew (World.grownBy.refl _ _)) ?_
      obtain ⟨W1, hW1⟩ : ∃ x, x = (w7).drew := ⟨_, rfl⟩
      rw [← hW1]
      have hgW1 : (w7).grownBy W1 none := by rw [hW1]; exact gr_drew (World.grownBy.refl _ _)
      clear hW1
      refine tree_p rfl rfl rfl rfl _ rfl (by simp) (fun K hK => ?_)
      apply Exists.intro
      refine ⟨fun wq K' hK' => ?_, ?_⟩
      · go_wp2_with fail
        exact hK'
      go_simp
      refine hK _ ?_
      clear hK K
      refine tree_p rfl rfl rfl rfl _ rfl (by simp) (fun K hK => ?_)
      apply Exists.intro
      refine ⟨fun wq K' hK' => ?_, ?_⟩
      · go_wp2_with fail
        exact hK'
      go_simp
      refine hK _ ?_
      clear hK K
      refine tree_b rfl rfl rfl rfl _ rfl (by simp) (fun K hK => ?_)
      apply Exists.intro
      refine ⟨fun wq hq K' hK' => ?_, ?_⟩
      · have y0 := hq.k b0
        have y1 := hq.k b1
        go_wp2_with fail
        exact hK'
      go_simp
      refine hK _ ?_
      clear hK K
      refine tree_p rfl rfl rfl rfl _ rfl (by simp) (fun K hK => ?_)
      apply Exists.intro
      refine ⟨fun wq K' hK' => ?_, ?_⟩
      · go_wp2_with fail
        exact hK'
      go_simp
      refine hK _ ?_
      clear hK K
      refine tree_b rfl rfl rfl rfl _ rfl (by simp) (fun K hK => ?_)
      apply Exists.intro
      refine ⟨fun wq hq K' hK' => ?_, ?_⟩
      · have y0 := hq.k b0
        have y1 := hq.k b1
        go_wp2_with fail
        exact hK'
      go_simp
      refine hK _ ?_
      clear hK K
      refine tree_e rfl rfl (fun K hK => ?_)
      go_wp2_with fail
      refine (clonePt_any A' c' p[k].pts W1 ((hpts.mono (Nat.zero_le _)).pure (hg7.t (gr_trans hgW1 (World.grownBy.refl _ _)))) (by omega)).mono ?_
      rintro e w3 ⟨A3, c3, rfl, ho3, hg3⟩
      have hW3 : w7.grownBy w3 none := gr_trans (gr_trans hgW1 (World.grownBy.refl _ _)) hg3
      have hv3 : w7.heap.size ≤ (W1).heap.size := (gr_trans hgW1 (World.grownBy.refl _ _)).size
      go_wp2_with fail
      try go_simp
      refine hK _ _ (hW3) ?_
      clear hK K
      refine tree_p rfl rfl rfl rfl _ rfl (by simp) (fun K hK => ?_)
      apply Exists.intro
      refine ⟨fun wq K' hK' => ?_, ?_⟩
      · go_wp2_with fail
        exact hK'
      go_simp
      refine hK _ ?_
      clear hK K
      refine tree_e0 (by kernel_rfl) rfl rfl (fun K hK => ?_)
      go_wp2_with fail
      try go_simp
      refine hK _ _ trivial ?_
      clear hK K
      obtain ⟨w27, hw27⟩ : ∃ x, x = (w3).alloc (.cells [.slice A3 p[k].pts.length c3, .bool p[k].cl].toArray 36) := ⟨_, rfl⟩
      have hg27 : (w3).grownBy w27 none := by rw [hw27]; exact gr_alloc (World.grownBy.refl _ _) _
      have hb27 : Box w27 (w3).heap.size 36 [.slice A3 p[k].pts.length c3, .bool p[k].cl] := by rw [hw27]; exact Box.new _ _ _
      rw [← hw27]
      clear hw27
      obtain ⟨x27, hx27⟩ : ∃ x, x = (w3).heap.size := ⟨_, rfl⟩
      rw [← hx27] at hb27 ⊢
      have hxl27 : (w3).heap.size ≤ x27 := by omega
      clear hx27
      refine tree_e0 (by kernel_rfl) rfl rfl (fun K hK => ?_)
      obtain ⟨i0, hi, hz, h1, h2⟩ := info_parts info_path
      have hO8 := hO.pure (w' := w27) (hg7.t (hW3.t hg27))
      refine wp_pushAt (α := RawP) _ (.tmp 21) (.tmp 28) _ rfl w.heap.size 36 i0 _ 32 Tryz.underlying26 hi hz h1 h2 rfl _ _ _ raws rfl rfl hO8 0 ⟨x27, 0, none⟩ _ _ [⟨A3, p[k].pts.length, c3, p[k].cl⟩] rfl rfl (hb27.sl ⟨_, [], rfl, rfl, rfl⟩ (Nat.zero_le _) (by simp [maxLen])) ?_ ?_ ?_ ?_
      · first | omega | (simp; omega)
      · first | (simp [maxLen]; omega) | (unfold maxLen; omega)
      · exact (hg.t (hg7.t (hW3.t hg27))).size
      intro A5 c5 w5 hown5 hG5
      try go_simp
      refine hK _ _ trivial ?_
      clear hK K
      refine tree_p rfl rfl rfl rfl _ rfl (by simp) (fun K hK => ?_)
      apply Exists.intro
      refine ⟨fun wq K' hK' => ?_, ?_⟩
      · go_wp2_with fail
        exact hK'
      go_simp
      refine hK _ ?_
      clear hK K
      refine tree_done ?_
      have hgA := hg.t (hg7.t (hW3.t hg27))
      have hg5 : w.grownBy w5 none := gr_row hgA hG5.1 (fun x e => (hO8.blk_lt e).1)
      have hA8 := hA2.grN (hg7.t (hW3.t hg27))
      have ho27 := ho3.pure hg27
      have hnew : NOk RawP w27 w.heap.size A2 ⟨A3, p[k].pts.length, c3, p[k].cl⟩ p[k] := by
        refine ⟨⟨rfl, rfl, ho27.cap, ho27.sl.mono ?_, fun q hq => ?_⟩, fun q hq e => ?_⟩
        · have := hg7.size; omega
        · have := ho27.blk_lt hq; have := hg7.size; exact ⟨by omega, by omega⟩
        · have h1 := ho27.blk_lt hq; have h2 := hO.blk_lt e; have := hg7.size; omega
      have hN5 : OwnN RawP w5 w.heap.size 36 A5 c5 (l ++ [p[k]]) := OwnN.push hA8 hown5 hG5 hnew
      have hl5 : Hid (raws.length + 1 = (l ++ [p[k]]).length) := by rw [Hid, List.length_append, hrl.out]; rfl
      have hl6 : Hid ((l ++ [p[k]]).length = k + 1) := by rw [Hid, List.length_append, hlk.out]; rfl
      have hl7 : Hid (l ++ [p[k]] = p.take (k + 1)) := by rw [Hid, htk, ← hlt0.out]
      clear hgA hA8 ho27 hnew hown5 hG5 hO hA2 htk hg27 hW3 hO8 hb27 hg7 hb7 b0 b1 ho3 hg3 hpts hgW1
      go_wp2_with fail
      (go_roundw; (case rel => exact ⟨k + 1, _, A5, c5, by omega, by go_num, by rw [hl5.out], hl6, hl7, hN5, hg5⟩); (case measure => simp [intOf]; omega))
    · obtain rfl : k = p.length := by omega
      have hlp : Hid (l = p) := by rw [Hid, hlt0.out, List.take_length]
      clear hlt0
      have e := hlp.out
      subst e
      go_wp2_with fail
      go_loopw [5, 8] (fun o b wr => ∃ (m : List PathV) (A3 : Option Addr) (c3 : Nat) (t : Bool), o = .slice A3 m.length c3 ∧ b = .bool t ∧ OwnN RawP wr w.heap.size 36 A3 c3 m ∧ w.grownBy wr none ∧ Hid (fullB m ∧ totP m ≤ 100000) ∧ Hid (chainN l.length l = chainN m.length m) ∧ Hid (t = false → chain1 m = none)) (fun o b _ => lenOf o + bitOf b)
      case atStart => exact ⟨l, A2, c2, true, rfl, rfl, hown, hg, ⟨hful.out, htot.out⟩, rfl, fun h => by cases h⟩
      case round =>
        clear hown hg
        obtain ⟨m, A3, c3, t, rfl, rfl, hown, hg, hfm, hcm, hnm⟩ := hrel
        cases t with
        | false =>
          have hm : Hid (chainN l.length l = m) := by rw [Hid, hcm.out, chainN_id (hnm.out rfl)]
          have hCm := hC.out
          rw [hm.out] at hCm
          have hCk := checkPaths_any A3 c3 m _ (hown.sl.mono (Nat.zero_le _))
          rw [hCm] at hCk
          clear hCm
          replace hCk := hide hCk
          go_wp2_with fail
          refine hCk.out.mono ?_
          rintro e w2 ⟨rfl, hg2⟩
          go_wp2_with fail
          go_ret2
          exact ⟨A3, c3, by rw [hm.out]; rfl, by rw [hm.out]; exact hown.pure hg2, hg.t hg2⟩
        | true =>
          have hch := chain_any A3 c3 w.heap.size m wr hown hg.size (fun q hq => ⟨hfm.out.1 q hq, by have := tot_mem q hq; have := hfm.out.2; omega⟩)
          replace hch := hide hch
          go_wp2_with fail
          refine hch.out.mono ?_
          rintro e w2 h
          rcases h with ⟨h1, rfl, hg2⟩ | ⟨m2, h1, rfl, hN2, hg2⟩
          · replace h1 := hide h1
            go_wp2_with fail
            go_roundw
            case rel => exact ⟨m, A3, c3, false, rfl, rfl, hown.pure hg2, hg.t hg2, hfm, hcm, fun _ => h1.out⟩
            case measure => simp [lenOf, bitOf]
          · have hlen := chain1_len h1
            have hT := hide (chain1_tot h1 hfm.out.1)
            have hS := hide (chainN_step h1)
            have hg3 : w.grownBy w2 none := gr_row hg hg2 (fun g e => by obtain ⟨_, ho, _⟩ := hown; exact (ho.blk_lt e).1)
            clear h1 hch
            go_wp2_with fail
            go_roundw
            case rel => exact ⟨m2, A3, c3, true, rfl, rfl, hN2, hg3, ⟨hT.out.1, by have := hT.out.2; have := hfm.out.2; omega⟩, by rw [Hid, hcm.out, hS.out], fun h => by cases h⟩
            case measure => simp [lenOf, bitOf]; omega

end Go.Proofs.YtlefdcodfjifcaaGreatDoor

namespace Go.Proofs.YtlefdcodfjifcaaGreatDoor
open Go Go.RowKit Go.Bl

set_option maxHeartbeats 4000000 in
set_option maxRecDepth 100000 in
theorem chainedT_any (A : Option Addr) (c : Nat) (p : List PathV) (w : World) (hl : Sl w 0 A p) (hF : pathsF p = 0) (hC : pathsF (chainN p.length p) = 0) :
    Calls Tryz.prog 9 #[.slice A p.length c] w fun e w' => ∃ A' c', e = .returned (.tuple #[.slice A' (chainN p.length p).length c', .int .i64 0]) ∧ OwnT w' w.heap.size 36 A' c' (chainN p.length p) ∧ w.grownBy w' none := by
  have hF1 := checkPaths_any A c p w hl
  rw [hF] at hF1
  obtain ⟨hp200, hpf⟩ := pathsF_zero hF
  have hful : Hid (fullB p) := fun x hx => (pathF_zero (hpf x hx)).1
  have h500 : Hid (∀ x ∈ p, x.pts.length ≤ 500) := fun x hx => (pathF_zero (hpf x hx)).2.1
  have htot : Hid (totP p ≤ 100000) := by
    have : ∀ (l : List PathV), (∀ x ∈ l, x.pts.length ≤ 500) → totP l ≤ 500 * l.length := by
      intro l h
      unfold totP
      induction l with
      | nil => simp
      | cons y l ih =>
        have h1 := h y (by simp)
        have h2 := ih (fun x hx => h x (List.mem_cons_of_mem _ hx))
        simp only [List.map_cons, List.sum_cons, List.length_cons]; omega
    have := this p h500.out
    rw [Hid]; omega
  replace hpf := hide hpf
  replace hF1 := hide hF1
  replace hC := hide hC
  clear hF
  go_enter Tryz.func9, Tryz.ntmps9
  go_wp2_with fail
  refine hF1.out.mono ?_
  rintro e w1 ⟨rfl, hg1⟩
  clear hF1
  have hs1 := hg1.size
  go_wp2_with fail
  go_loopw [5, 17] (fun o i wr => ∃ (k : Nat) (l : List PathV) (A2 : Option Addr) (c2 : Nat), k ≤ p.length ∧ i = .int .i64 k ∧ o = .slice A2 l.length c2 ∧ Hid (l.length = k) ∧ Hid (l = p.take k) ∧ OwnT wr w.heap.size 36 A2 c2 l ∧ w.grownBy wr none) (fun _ i _ => p.length - (intOf i).toNat)
  case atStart => exact ⟨0, [], none, 0, Nat.zero_le _, rfl, rfl, rfl, rfl, OwnT.nil _ _ _, hg1⟩
  case round =>
    clear hg1 hs1
    obtain ⟨k, l, A2, c2, hk, rfl, rfl, hlk, hlt0, hown, hg⟩ := hrel
    by_cases hlt : k < p.length
    · obtain ⟨g, o, cx, rfl, hb0, hb1, ⟨A', c', rfl, hcp, hpts⟩, hc⟩ := (hl.pure hg).at_ (by decide) hlt
      have c0 : wr.cell? ⟨g, o + k * 2, none⟩ = some (.slice A' p[k].pts.length c') := hc 0 _ rfl
      have c1 : wr.cell? ⟨g, o + k * 2 + 1, none⟩ = some (.bool p[k].cl) := hc 1 _ rfl
      clear hc
      have hll : l.length ≤ 200 := by have := hlk.out; omega
      have hpl := h500.out _ (List.getElem_mem hlt)
      have htk := take_snoc hlt
      have hgs := hg.size
      obtain ⟨raws, hO, hA2⟩ := hown
      have hrl := hide hA2.len
      have hrl2 : raws.length ≤ 200 := by rw [hrl.out]; exact hll
      go_upto_region 8 with fail
      obtain ⟨w7, hw7⟩ : ∃ x, x = (wr).alloc (.cells [.slice A' p[k].pts.length c', .bool p[k].cl].toArray 36) := ⟨_, rfl⟩
      have hg7 : (wr).grownBy w7 none := by rw [hw7]; exact gr_alloc (World.grownBy.refl _ _) _
      have hb7 : Box w7 (wr).heap.size 36 [.slice A' p[k].pts.length c', .bool p[k].cl] := by rw [hw7]; exact Box.new _ _ _
      have hxs7 := hb7.lt
      rw [← hw7]
      clear hw7
      obtain ⟨x7, hx7⟩ : ∃ x, x = (wr).heap.size := ⟨_, rfl⟩
      rw [← hx7] at hb7 hxs7 ⊢
      have hxl7 : (wr).heap.size ≤ x7 := by omega
      clear hx7
      obtain ⟨b0, _⟩ := hb7.c 0 rfl
      obtain ⟨b1, _⟩ := hb7.c 1 rfl
      clear c0 c1
      rw [← hrl.out]
      refine wp_region_tree (fun wx => w7.grownBy wx none) [2, 2, 1, 0, 2, 1, 2, 0, 0, 2] (.bl 0 (.bl 1 (.bl 2 (.bl 4 (.bl 5 (.ef 3 (.bl 6 (.ef 7 (.ef 8 (.bl 9 .done)))))))))) (by kernel_rfl) (by kernel_rfl) (gr_drew (World.grownBy.refl _ _)) ?_
      obtain ⟨W1, hW1⟩ : ∃ x, x = (w7).drew := ⟨_, rfl⟩
      rw [← hW1]
      have hgW1 : (w7).grownBy W1 none := by rw [hW1]; exact gr_drew (World.grownBy.refl _ _)
      clear hW1
      refine tree_p rfl rfl rfl rfl _ rfl (by simp) (fun K hK => ?_)
      apply Exists.intro
      refine ⟨fun wq K' hK' => ?_, ?_⟩
      · go_wp2_with fail
        exact hK'
      go_simp
      refine hK _ ?_
      clear hK K
      refine tree_p rfl rfl rfl rfl _ rfl (by simp) (fun K hK => ?_)
      apply Exists.intro
      refine ⟨fun wq K' hK' => ?_, ?_⟩
      · go_wp2_with fail
        exact hK'
      go_simp
      refine hK _ ?_
      clear hK K
      refine tree_b rfl rfl rfl rfl _ rfl (by simp) (fun K hK => ?_)
      apply Exists.intro
      refine ⟨fun wq hq K' hK' => ?_, ?_⟩
      · have y0 := hq.k b0
        have y1 := hq.k b1
        go_wp2_with fail
        exact hK'
      go_simp
      refine hK _ ?_
      clear hK K
      refine tree_p rfl rfl rfl rfl _ rfl (by simp) (fun K hK => ?_)
      apply Exists.intro
      refine ⟨fun wq K' hK' => ?_, ?_⟩
      · go_wp2_with fail
        exact hK'
      go_simp
      refine hK _ ?_
      clear hK K
      refine tree_b rfl rfl rfl rfl _ rfl (by simp) (fun K hK => ?_)
      apply Exists.intro
      refine ⟨fun wq hq K' hK' => ?_, ?_⟩
      · have y0 := hq.k b0
        have y1 := hq.k b1
        go_wp2_with fail
        exact hK'
      go_simp
      refine hK _ ?_
      clear hK K
      refine tree_e rfl rfl (fun K hK => ?_)
      go_wp2_with fail
      refine (clonePt_any A' c' p[k].pts W1 ((hpts.mono (Nat.zero_le _)).pure (hg7.t (gr_trans hgW1 (World.grownBy.refl _ _)))) (by omega)).mono ?_
      rintro e w3 ⟨A3, c3, rfl, ho3, hg3⟩
      have hW3 : w7.grownBy w3 none := gr_trans (gr_trans hgW1 (World.grownBy.refl _ _)) hg3
      have hv3 : w7.heap.size ≤ (W1).heap.size := (gr_trans hgW1 (World.grownBy.refl _ _)).size
      go_wp2_with fail
      try go_simp
      refine hK _ _ (hW3) ?_
      clear hK K
      refine tree_p rfl rfl rfl rfl _ rfl (by simp) (fun K hK => ?_)
      apply Exists.intro
      refine ⟨fun wq K' hK' => ?_, ?_⟩
      · go_wp2_with fail
        exact hK'
      go_simp
      refine hK _ ?_
      clear hK K
      refine tree_e0 (by kernel_rfl) rfl rfl (fun K hK => ?_)
      go_wp2_with fail
      try go_simp
      refine hK _ _ trivial ?_
      clear hK K
      obtain ⟨w27, hw27⟩ : ∃ x, x = (w3).alloc (.cells [.slice A3 p[k].pts.length c3, .bool p[k].cl].toArray 36) := ⟨_, rfl⟩
      have hg27 : (w3).grownBy w27 none := by rw [hw27]; exact gr_alloc (World.grownBy.refl _ _) _
      have hb27 : Box w27 (w3).heap.size 36 [.slice A3 p[k].pts.length c3, .bool p[k].cl] := by rw [hw27]; exact Box.new _ _ _
      rw [← hw27]
      clear hw27
      obtain ⟨x27, hx27⟩ : ∃ x, x = (w3).heap.size := ⟨_, rfl⟩
      rw [← hx27] at hb27 ⊢
      have hxl27 : (w3).heap.size ≤ x27 := by omega
      clear hx27
      refine tree_e0 (by kernel_rfl) rfl rfl (fun K hK => ?_)
      obtain ⟨i0, hi, hz, h1, h2⟩ := info_parts info_path
      have hO8 := hO.pure (w' := w27) (hg7.t (hW3.t hg27))
      refine wp_pushAt (α := RawP) _ (.tmp 21) (.tmp 28) _ rfl w.heap.size 36 i0 _ 32 Tryz.underlying26 hi hz h1 h2 rfl _ _ _ raws rfl rfl hO8 0 ⟨x27, 0, none⟩ _ _ [⟨A3, p[k].pts.length, c3, p[k].cl⟩] rfl rfl (hb27.sl ⟨_, [], rfl, rfl, rfl⟩ (Nat.zero_le _) (by simp [maxLen])) ?_ ?_ ?_ ?_
      · first | omega | (simp; omega)
      · first | (simp [maxLen]; omega) | (unfold maxLen; omega)
      · exact (hg.t (hg7.t (hW3.t hg27))).size
      intro A5 c5 w5 hown5 hG5
      try go_simp
      refine hK _ _ trivial ?_
      clear hK K
      refine tree_p rfl rfl rfl rfl _ rfl (by simp) (fun K hK => ?_)
      apply Exists.intro
      refine ⟨fun wq K' hK' => ?_, ?_⟩
      · go_wp2_with fail
        exact hK'
      go_simp
      refine hK _ ?_
      clear hK K
      refine tree_done ?_
      have hgA := hg.t (hg7.t (hW3.t hg27))
      have hg5 : w.grownBy w5 none := gr_row hgA hG5.1 (fun x e => (hO8.blk_lt e).1)
      have hA8 := grNT hA2 (hg7.t (hW3.t hg27))
      have ho27 := ho3.pure hg27
      have hnew0 : NOk RawP w27 w.heap.size A2 ⟨A3, p[k].pts.length, c3, p[k].cl⟩ p[k] := by
        refine ⟨⟨rfl, rfl, ho27.cap, ho27.sl.mono ?_, fun q hq => ?_⟩, fun q hq e => ?_⟩
        · have := hg7.size; omega
        · have := ho27.blk_lt hq; have := hg7.size; exact ⟨by omega, by omega⟩
        · have h1 := ho27.blk_lt hq; have h2 := hO.blk_lt e; have := hg7.size; omega
      have hnew : NOkT w27 w.heap.size A2 ⟨A3, p[k].pts.length, c3, p[k].cl⟩ p[k] := ⟨hnew0, Thaw.own ho27⟩
      clear hnew0
      have hN5 : OwnT w5 w.heap.size 36 A5 c5 (l ++ [p[k]]) := OwnT.push hA8 hown5 hG5 hnew
      have hl5 : Hid (raws.length + 1 = (l ++ [p[k]]).length) := by rw [Hid, List.length_append, hrl.out]; rfl
      have hl6 : Hid ((l ++ [p[k]]).length = k + 1) := by rw [Hid, List.length_append, hlk.out]; rfl
      have hl7 : Hid (l ++ [p[k]] = p.take (k + 1)) := by rw [Hid, htk, ← hlt0.out]
      clear hgA hA8 ho27 hnew hown5 hG5 hO hA2 htk hg27 hW3 hO8 hb27 hg7 hb7 b0 b1 ho3 hg3 hpts hgW1
      go_wp2_with fail
      (go_roundw; (case rel => exact ⟨k + 1, _, A5, c5, by omega, by go_num, by rw [hl5.out], hl6, hl7, hN5, hg5⟩); (case measure => simp [intOf]; omega))
    · obtain rfl : k = p.length := by omega
      have hlp : Hid (l = p) := by rw [Hid, hlt0.out, List.take_length]
      clear hlt0
      have e := hlp.out
      subst e
      go_wp2_with fail
      go_loopw [5, 8] (fun o b wr => ∃ (m : List PathV) (A3 : Option Addr) (c3 : Nat) (t : Bool), o = .slice A3 m.length c3 ∧ b = .bool t ∧ OwnT wr w.heap.size 36 A3 c3 m ∧ w.grownBy wr none ∧ Hid (fullB m ∧ totP m ≤ 100000) ∧ Hid (chainN l.length l = chainN m.length m) ∧ Hid (t = false → chain1 m = none)) (fun o b _ => lenOf o + bitOf b)
      case atStart => exact ⟨l, A2, c2, true, rfl, rfl, hown, hg, ⟨hful.out, htot.out⟩, rfl, fun h => by cases h⟩
      case round =>
        clear hown hg
        obtain ⟨m, A3, c3, t, rfl, rfl, hown, hg, hfm, hcm, hnm⟩ := hrel
        cases t with
        | false =>
          have hm : Hid (chainN l.length l = m) := by rw [Hid, hcm.out, chainN_id (hnm.out rfl)]
          have hCm := hC.out
          rw [hm.out] at hCm
          have hCk := checkPaths_any A3 c3 m _ (hown.toN.sl.mono (Nat.zero_le _))
          rw [hCm] at hCk
          clear hCm
          replace hCk := hide hCk
          go_wp2_with fail
          refine hCk.out.mono ?_
          rintro e w2 ⟨rfl, hg2⟩
          go_wp2_with fail
          go_ret2
          exact ⟨A3, c3, by rw [hm.out]; rfl, by rw [hm.out]; exact hown.pure hg2, hg.t hg2⟩
        | true =>
          have hch := chainT_any A3 c3 w.heap.size m wr hown hg.size (fun q hq => ⟨hfm.out.1 q hq, by have := tot_mem q hq; have := hfm.out.2; omega⟩)
          replace hch := hide hch
          go_wp2_with fail
          refine hch.out.mono ?_
          rintro e w2 h
          rcases h with ⟨h1, rfl, hg2⟩ | ⟨m2, h1, rfl, hN2, hg2⟩
          · replace h1 := hide h1
            go_wp2_with fail
            go_roundw
            case rel => exact ⟨m, A3, c3, false, rfl, rfl, hown.pure hg2, hg.t hg2, hfm, hcm, fun _ => h1.out⟩
            case measure => simp [lenOf, bitOf]
          · have hlen := chain1_len h1
            have hT := hide (chain1_tot h1 hfm.out.1)
            have hS := hide (chainN_step h1)
            have hg3 : w.grownBy w2 none := gr_row hg hg2 (fun g e => by obtain ⟨_, ho, _⟩ := hown; exact (ho.blk_lt e).1)
            clear h1 hch
            go_wp2_with fail
            go_roundw
            case rel => exact ⟨m2, A3, c3, true, rfl, rfl, hN2, hg3, ⟨hT.out.1, by have := hT.out.2; have := hfm.out.2; omega⟩, by rw [Hid, hcm.out, hS.out], fun h => by cases h⟩
            case measure => simp [lenOf, bitOf]; omega

end Go.Proofs.YtlefdcodfjifcaaGreatDoor

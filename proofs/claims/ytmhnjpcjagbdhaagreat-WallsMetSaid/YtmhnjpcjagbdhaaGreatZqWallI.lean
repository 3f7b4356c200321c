/- Contracts of functions that this seat's laws reach, each: what one call returns and what it leaves in memory; no condition beyond each theorem's own hypotheses. -/
import Derived.Test.YtmhnjpcjagbdhaaGreatZqKit3
import Derived.Test.YtmhnjpcjagbdhaaGreatZqDelP
import Derived.Test.YtmhnjpcjagbdhaaGreatZqRegRev
import Derived.Test.YtmhnjpcjagbdhaaGreatZqPathN
import Derived.Test.YtmhnjpcjagbdhaaGreatZqJm
set_option linter.unusedVariables false
set_option linter.unusedSimpArgs false
namespace Go.Proofs.YtmhnjpcjagbdhaaGreat
open Go Go.RowKit Go.Bl

theorem getD_at {α : Type} [Inhabited α] {l : List α} {k : Nat} (h : k < l.length) : l.getD k default = l[k] := by rw [List.getD_eq_getElem?_getD, List.getElem?_eq_getElem h, Option.getD_some]

theorem Own.capMax {α : Type} [Enc α] {w : World} {lo : Nat} {e : TypeId} {g c : Nat} {l : List α} (h : Own w lo e (some ⟨g, 0, none⟩) c l) : c ≤ 9223372036854775807 := by
  obtain ⟨_, cs, _, ho⟩ := h
  rcases ho.2 with ⟨h1, _⟩ | ⟨g', cap, cur, hv, _, _, _, hc, _⟩
  · cases h1
  · injection hv with _ _ hx
    unfold maxLen at hc
    omega

theorem All2.erase {α β : Type} {R : α → β → Prop} {l : List α} {m : List β} (h : All2 R l m) (k : Nat) : All2 R (l.eraseIdx k) (m.eraseIdx k) := by
  induction h generalizing k with
  | nil => exact .nil
  | cons h h2 ih => cases k with
    | zero => exact h2
    | succ k => exact .cons h (ih k)

def SChain (lo : Nat) (w : World) (l : List PathV) (A : Option Addr) (c : Nat) (e : Ending) (w' : World) : Prop :=
  (chain1 l = none ∧ e = .returned (.tuple #[.slice A l.length c, .bool false]) ∧ w.grownBy w' none) ∨
  ∃ m, chain1 l = some m ∧ e = .returned (.tuple #[.slice A m.length c, .bool true]) ∧ OwnN RawP w' lo 62 A c m ∧ w.grownBy w' (blk A)

set_option maxHeartbeats 4000000 in
set_option maxRecDepth 100000 in
theorem chain_any (A : Option Addr) (c lo : Nat) (l : List PathV) (w : World) (hN : OwnN RawP w lo 62 A c l) (hlo : lo ≤ w.heap.size) (hne : ∀ p ∈ l, 0 < p.pts.length ∧ p.pts.length ≤ 400000) :
    Calls Tryz.prog 47 #[.slice A l.length c] w (SChain lo w l A c) := by
  have hl := hN.sl.mono (Nat.zero_le _)
  obtain ⟨raws, hO, hA2⟩ := hN
  have hrl := hA2.len
  have hm := hl.1
  unfold maxLen at hm
  replace hne := hide hne
  go_enter Tryz.func47, Tryz.ntmps47
  go_wp2_with fail
  go_loopw [12] (fun i wr => ∃ k : Nat, k ≤ l.length ∧ i = .int .i64 k ∧ w.grownBy wr none ∧ Hid (pairK l k = none)) (fun i _ => l.length - (intOf i).toNat)
  case atStart => exact ⟨0, Nat.zero_le _, rfl, World.grownBy.refl _ _, rfl⟩
  case round =>
    obtain ⟨i, hi, rfl, hg, hpk⟩ := hrel
    by_cases hlt : i < l.length
    · have hls := hl.pure hg
      obtain ⟨gg, rfl, hggl, hggr⟩ := hO.shape (by omega)
      obtain ⟨g, o, cx, e, hb0, hb1, ⟨A', c', rfl, hcp, hpts⟩, hc⟩ := hls.at_ (by decide) hlt
      cases e
      have c0 : wr.cell? ⟨gg, i * 2, none⟩ = some (.slice A' l[i].pts.length c') := by have := hc 0 _ rfl; rw [Nat.zero_add] at this; exact this
      have c1 : wr.cell? ⟨gg, i * 2 + 1, none⟩ = some (.bool l[i].cl) := by have := hc 1 _ rfl; rw [Nat.zero_add] at this; exact this
      clear hc
      have hp0 := (hne.out l[i] (List.getElem_mem _)).1
      have hgi := getD_at hlt
      go_upto_region 4 with fail
      obtain ⟨w5, hw5⟩ : ∃ x, x = (wr).alloc (.cells [.slice A' l[i].pts.length c', .bool l[i].cl].toArray 62) := ⟨_, rfl⟩
      have hg5 : (wr).grownBy w5 none := by rw [hw5]; exact gr_alloc (World.grownBy.refl _ _) _
      have hb5 : Box w5 (wr).heap.size 62 [.slice A' l[i].pts.length c', .bool l[i].cl] := by rw [hw5]; exact Box.new _ _ _
      have hxs5 := hb5.lt
      rw [← hw5]
      clear hw5
      obtain ⟨x5, hx5⟩ : ∃ x, x = (wr).heap.size := ⟨_, rfl⟩
      rw [← hx5] at hb5 hxs5 ⊢
      have hxl5 : (wr).heap.size ≤ x5 := by omega
      clear hx5
      obtain ⟨b0, _⟩ := hb5.c 0 rfl
      obtain ⟨b1, _⟩ := hb5.c 1 rfl
      replace hpts := (hpts.mono (Nat.zero_le _)).pure hg5
      replace hg := hg.t hg5
      clear c0 c1 hg5
      cases hcl : l[i].cl with
      | true =>
        have hp1 : Hid (pairK l (i + 1) = none) := pairK_cl hpk.out (by rw [hgi, hcl])
        rw [hcl] at b1
        clear hcl
        go_wp2_with fail
        (go_roundw; (case rel => exact ⟨i + 1, by omega, by go_num, hg, hp1⟩); (case measure => simp [intOf]; omega))
      | false =>
        rw [hcl] at b1
        obtain ⟨n, hn⟩ : ∃ n, l[i].pts.length = n + 1 := ⟨l[i].pts.length - 1, by omega⟩
        have hlast : n < l[i].pts.length := by omega
        have hnm := hpts.1
        unfold maxLen at hnm
        rw [hn] at hnm
        have hn0 : (0 : Int) ≤ n ∧ (n : Int) < (n : Int) + 1 := by omega
        obtain ⟨g2, o2, cx, rfl, hb2, hb3, rfl, hc⟩ := hpts.at_ (by decide) hlast
        have p0 : w5.cell? ⟨g2, o2 + n * 2, none⟩ = some (.int .i64 l[i].pts[n].x) := hc 0 _ rfl
        have p1 : w5.cell? ⟨g2, o2 + n * 2 + 1, none⟩ = some (.int .i64 l[i].pts[n].y) := hc 1 _ rfl
        clear hc
        have hend : Hid (endP l[i] = l[i].pts[n]) := by rw [Hid, endP, hn, Nat.add_sub_cancel, List.getD_eq_getElem?_getD, List.getElem?_eq_getElem hlast, Option.getD_some]
        have hcl2 := hide hcl
        clear hcl
        rw [hn] at b0
        clear hp0
        replace hn := hide hn
        go_upto_region 6 with fail
        obtain ⟨w6, hw6⟩ : ∃ x, x = (w5).alloc (.cells [.int .i64 l[i].pts[n].x, .int .i64 l[i].pts[n].y].toArray 29) := ⟨_, rfl⟩
        have hg6 : (w5).grownBy w6 none := by rw [hw6]; exact gr_alloc (World.grownBy.refl _ _) _
        have hb6 : Box w6 (w5).heap.size 29 [.int .i64 l[i].pts[n].x, .int .i64 l[i].pts[n].y] := by rw [hw6]; exact Box.new _ _ _
        have hxs6 := hb6.lt
        rw [← hw6]
        clear hw6
        obtain ⟨x6, hx6⟩ : ∃ x, x = (w5).heap.size := ⟨_, rfl⟩
        rw [← hx6] at hb6 hxs6 ⊢
        have hxl6 : (w5).heap.size ≤ x6 := by omega
        clear hx6
        have hb5 := hb5.pure hg6
        replace hpts := hpts.pure hg6
        clear b0 b1 p0 p1
        generalize l[i].pts[n] = en at *
        replace hg := hg.t hg6
        have hcl3 : Hid ((l.getD i default).cl = false) := by rw [Hid, hgi, hcl2.out]
        have hend2 : Hid (endP (l.getD i default) = en) := by rw [Hid, hgi, hend.out]
        clear hgi hend hls
        obtain ⟨wa, rfl⟩ : ∃ x, x = wr := ⟨wr, rfl⟩
        go_wp2_with fail
        go_loopw [7, 29] (fun q j wr => ∃ k : Nat, k ≤ l.length ∧ j = .int .i64 k ∧ q = .int .i64 (-1) ∧ w6.grownBy wr none ∧ Hid (nextK l i k = none)) (fun _ j _ => l.length - (intOf j).toNat)
        case atStart => exact ⟨0, Nat.zero_le _, rfl, rfl, World.grownBy.refl _ _, rfl⟩
        case round =>
          obtain ⟨j, hj, rfl, rfl, hgx, hnk⟩ := hrel
          by_cases hlj : j < l.length
          · obtain ⟨g', o', cx, e, hb0', hb1', ⟨A2, c2', rfl, hcp2, hpts2⟩, hc⟩ := (hl.pure (hg.t hgx)).at_ (by decide) hlj
            cases e
            have c0 : wr.cell? ⟨gg, j * 2, none⟩ = some (.slice A2 l[j].pts.length c2') := by have := hc 0 _ rfl; rw [Nat.zero_add] at this; exact this
            have c1 : wr.cell? ⟨gg, j * 2 + 1, none⟩ = some (.bool l[j].cl) := by have := hc 1 _ rfl; rw [Nat.zero_add] at this; exact this
            clear hc
            have hgj := getD_at hlj
            have hFB : Hid (fitB l i j = (decide (j ≠ i) && (!l[j].cl && decide (frontP l[j] = en)))) := by rw [Hid, fitB, hgj, hend2.out]
            have hp0 := (hne.out l[j] (List.getElem_mem _)).1
            have hNO : Hid (fitB l i j = false → nextK l i (j + 1) = none) := fun h => nextK_no hnk.out h
            have hYES : Hid (fitB l i j = true → nextK l i l.length = some j) := fun h => nextK_yes hnk.out h _ hlj
            clear hgj
            go_upto_region 10 with fail
            obtain ⟨w9, hw9⟩ : ∃ x, x = (wr).alloc (.cells [.slice A2 l[j].pts.length c2', .bool l[j].cl].toArray 62) := ⟨_, rfl⟩
            have hg9 : (wr).grownBy w9 none := by rw [hw9]; exact gr_alloc (World.grownBy.refl _ _) _
            have hb9 : Box w9 (wr).heap.size 62 [.slice A2 l[j].pts.length c2', .bool l[j].cl] := by rw [hw9]; exact Box.new _ _ _
            have hxs9 := hb9.lt
            rw [← hw9]
            clear hw9
            obtain ⟨x9, hx9⟩ : ∃ x, x = (wr).heap.size := ⟨_, rfl⟩
            rw [← hx9] at hb9 hxs9 ⊢
            have hxl9 : (wr).heap.size ≤ x9 := by omega
            clear hx9
            obtain ⟨b0, _⟩ := hb9.c 0 rfl
            obtain ⟨b1, _⟩ := hb9.c 1 rfl
            have hb6x := hb6.pure (hgx.t hg9)
            obtain ⟨e0, _⟩ := hb6x.c 0 rfl
            obtain ⟨e1, _⟩ := hb6x.c 1 rfl
            replace hpts2 := (hpts2.mono (Nat.zero_le _)).pure hg9
            replace hgx := hgx.t hg9
            have c0' := hide (hg9.k c0)
            clear c0 c1 hg9 hb9
            by_cases hij : j = i
            · have hb : ((j : Int) != (i : Int)) = false := by simp [hij]
              have hno := hide (hNO.out (by rw [hFB.out]; simp [hij]))
              replace hij := hide hij
              clear b0 b1 e0 e1 hb6x hpts2
              go_quiet (fail)
              go_wp2
              (go_roundw; (case rel => exact ⟨j + 1, by omega, by go_num, rfl, gr_drewN hgx _, hno⟩); (case measure => simp [intOf]; omega))
            · have hb : ((j : Int) != (i : Int)) = true := by simp; omega
              have hij2 := hide hij
              clear hij
              cases hcj : l[j].cl with
              | true =>
                have hno := hide (hNO.out (by rw [hFB.out, hcj]; simp))
                rw [hcj] at b1
                clear hcj b0 e0 e1 hb6x hpts2
                go_quiet (fail)
                go_wp2
                (go_roundw; (case rel => exact ⟨j + 1, by omega, by go_num, rfl, gr_drewN hgx _, hno⟩); (case measure => simp [intOf]; omega))
              | false =>
                rw [hcj] at b1
                obtain ⟨g3, o3, cx, rfl, hb2, hb3, rfl, hc⟩ := hpts2.at_ (by decide) hp0
                have p0 : w9.cell? ⟨g3, o3 + 0 * 2, none⟩ = some (.int .i64 l[j].pts[0].x) := hc 0 _ rfl
                have p1 : w9.cell? ⟨g3, o3 + 0 * 2 + 1, none⟩ = some (.int .i64 l[j].pts[0].y) := hc 1 _ rfl
                rw [Nat.zero_mul, Nat.add_zero] at p0 p1
                clear hc
                have hfr : Hid (frontP l[j] = l[j].pts[0]) := by rw [Hid, frontP, List.getD_eq_getElem?_getD, List.getElem?_eq_getElem hp0, Option.getD_some]
                have hFC : Hid (fitB l i j = decide (l[j].pts[0] = en)) := by rw [Hid, hFB.out, hcj, hfr.out]; simp [hij2.out]
                have hp1 : (0 : Int) < (l[j].pts.length : Int) := by omega
                generalize l[j].pts[0] = fr at *
                have hpj := hide hpts2
                clear hFB hfr hpts2
                have hcj2 := hide hcj
                clear hcj
                by_cases hx : fr.x = en.x
                · have hbx : (fr.x == en.x) = true := by simp [hx]
                  by_cases hy : fr.y = en.y
                  · have hby : (fr.y == en.y) = true := by simp [hy]
                    have hyes := hide (hYES.out (by rw [hFC.out]; simp [Pt.ext hx hy]))
                    have hfe := hide (hFC.out)
                    replace hx := hide hx
                    replace hy := hide hy
                    go_quiet (fail)
                    go_wp2_with fail
                    obtain ⟨W0, hW0⟩ : ∃ x, x = w9.drewN nq := ⟨_, rfl⟩
                    rw [← hW0]
                    have hgq : w9.grownBy W0 none := by rw [hW0]; exact gr_drewN (World.grownBy.refl _ _) _
                    clear hW0 e0 e1 b0 b1 p0 p1 hb6x
                    have hpi := hpts.pure (hgx.t hgq)
                    have hpj2 := hpj.out.pure hgq
                    have z5 := ((hb5.pure (hgx.t hgq)).c 0 rfl).1
                    rw [hn.out] at z5
                    have zj := hgq.k c0'.out
                    have hgW0 : w.grownBy W0 none := hg.t (hgx.t hgq)
                    clear hpts hb5 hb6 hgx hgq hg c0' hpj
                    have hil := (hne.out l[i] (List.getElem_mem _)).2
                    have hjl := (hne.out l[j] (List.getElem_mem _)).2
                    obtain ⟨m, hm0⟩ : ∃ m, l[j].pts.length = m + 1 := ⟨l[j].pts.length - 1, by omega⟩
                    rw [hm0] at zj
                    have hmc : m + 1 ≤ c2' := by rw [← hm0]; exact hcp2
                    have hm1 : (1 : Int) ≤ (m : Int) + 1 := by omega
                    obtain ⟨A3, hA3, hp3⟩ : ∃ A3 : Addr, (if c2' = 1 then (some ⟨g3, o3, none⟩ : Option Addr) else some ⟨g3, o3 + 2, none⟩) = some A3 ∧ Hid (Sl W0 0 (some A3) (l[j].pts.drop 1)) := by
                      by_cases hq : c2' = 1
                      · have h0 : l[j].pts.drop 1 = [] := by rw [List.drop_eq_nil_iff]; omega
                        exact ⟨_, by rw [if_pos hq], by rw [Hid, h0]; exact Sl.nil⟩
                      · exact ⟨_, by rw [if_neg hq], by have := Sl.drop hpj2 1; exact this⟩
                    have hdl : Hid ((l[j].pts.drop 1).length = m) := by rw [Hid, List.length_drop, hm0]; rfl
                    have hT : Hid (flatK [l[i].pts, l[j].pts.drop 1] 2 = (joinedP l i j).pts) := by rw [Hid, joinedP, getD_at hlt, getD_at hlj]; simp [flatK]
                    have hTl : Hid ((joinedP l i j).pts.length = n + 1 + m) := by rw [Hid, ← hT.out]; simp [flatK, hn.out, hm0]
                    have hJc : Hid ((joinedP l i j).cl = false) := by rw [Hid, joinedP]; exact hcl3.out
                    have hc1 : Hid (chain1 l = some (joinP l i j)) := by
                      rw [Hid, chain1, pairK_yes hpk.out hcl3.out hyes.out _ hlt]; rfl
                    have hO0 := hO.pure hgW0
                    have hA0 := hA2.grN hgW0
                    have hcm := Own.capMax hO0
                    have hnl : n + 1 ≤ 400000 := by rw [← hn.out]; exact hil
                    have hml : m + 1 ≤ 400000 := by rw [← hm0]; exact hjl
                    have hlw := Nat.le_trans hlo hgW0.size
                    have hir : i < raws.length := by omega
                    have hjr : j < raws.length := by omega
                    replace hm0 := hide hm0
                    refine wp_region_tree (fun wx => W0.grownBy wx none) [2, 2, 2, 1, 2, 2, 2, 2, 1, 2, 0, 0, 2, 2, 0] (.bl 0 (.bl 1 (.bl 2 (.bl 3 (.bl 4 (.bl 5 (.bl 6 (.bl 7 (.bl 8 (.bl 9 (.ef 10 (.ef 11 (.bl 12 (.bl 13 (.ef 14 .done))))))))))))))) (by kernel_rfl) (by kernel_rfl) (gr_drew (World.grownBy.refl _ _)) ?_
                    obtain ⟨W1, hW1⟩ : ∃ x, x = (W0).drew := ⟨_, rfl⟩
                    rw [← hW1]
                    have hgW1 : (W0).grownBy W1 none := by rw [hW1]; exact gr_drew (World.grownBy.refl _ _)
                    clear hW1
                    refine tree_p rfl rfl rfl rfl _ rfl (by simp) (fun K hK => ?_)
                    apply Exists.intro
                    refine ⟨fun wq K' hK' => ?_, ?_⟩
                    · go_wp2_with fail
                      exact hK'
                    go_simp
                    refine hK _ ?_
                    clear hK K
                    refine tree_p rfl rfl rfl rfl _ rfl (by simp) (fun K hK => ?_)
                    apply Exists.intro
                    refine ⟨fun wq K' hK' => ?_, ?_⟩
                    · go_wp2_with fail
                      exact hK'
                    go_simp
                    refine hK _ ?_
                    clear hK K
                    refine tree_p rfl rfl rfl rfl _ rfl (by simp) (fun K hK => ?_)
                    apply Exists.intro
                    refine ⟨fun wq K' hK' => ?_, ?_⟩
                    · go_wp2_with fail
                      exact hK'
                    go_simp
                    refine hK _ ?_
                    clear hK K
                    refine tree_b rfl rfl rfl rfl _ rfl (by simp) (fun K hK => ?_)
                    apply Exists.intro
                    refine ⟨fun wq hq K' hK' => ?_, ?_⟩
                    · have y5 := hq.k z5
                      have yj := hq.k zj
                      go_wp2_with fail
                      exact hK'
                    go_simp
                    refine hK _ ?_
                    clear hK K
                    refine tree_p rfl rfl rfl rfl _ rfl (by simp) (fun K hK => ?_)
                    apply Exists.intro
                    refine ⟨fun wq K' hK' => ?_, ?_⟩
                    · go_wp2_with fail
                      exact hK'
                    go_simp
                    refine hK _ ?_
                    clear hK K
                    refine tree_p rfl rfl rfl rfl _ rfl (by simp) (fun K hK => ?_)
                    apply Exists.intro
                    refine ⟨fun wq K' hK' => ?_, ?_⟩
                    · go_wp2_with fail
                      exact hK'
                    go_simp
                    refine hK _ ?_
                    clear hK K
                    refine tree_p rfl rfl rfl rfl _ rfl (by simp) (fun K hK => ?_)
                    apply Exists.intro
                    refine ⟨fun wq K' hK' => ?_, ?_⟩
                    · go_wp2_with fail
                      exact hK'
                    go_simp
                    refine hK _ ?_
                    clear hK K
                    refine tree_p rfl rfl rfl rfl _ rfl (by simp) (fun K hK => ?_)
                    apply Exists.intro
                    refine ⟨fun wq K' hK' => ?_, ?_⟩
                    · go_wp2_with fail
                      exact hK'
                    go_simp
                    refine hK _ ?_
                    clear hK K
                    refine tree_b rfl rfl rfl rfl _ rfl (by simp) (fun K hK => ?_)
                    apply Exists.intro
                    refine ⟨fun wq hq K' hK' => ?_, ?_⟩
                    · have y5 := hq.k z5
                      have yj := hq.k zj
                      go_wp2_with fail
                      exact hK'
                    go_simp
                    refine hK _ ?_
                    clear hK K
                    refine tree_p rfl rfl rfl rfl _ rfl (by simp) (fun K hK => ?_)
                    apply Exists.intro
                    refine ⟨fun wq K' hK' => ?_, ?_⟩
                    · go_wp2_with fail
                      exact hK'
                    go_simp
                    refine hK _ ?_
                    clear hK K
                    refine tree_e0 (by kernel_rfl) rfl rfl (fun K hK => ?_)
                    go_wp2_with fail
                    try go_simp
                    refine hK _ _ trivial ?_
                    clear hK K
                    obtain ⟨w10, hw10⟩ : ∃ x, x = (W1).alloc (.cells [.slice (some ⟨g2, o2, none⟩) (n + 1) c', .slice (some A3) m (c2' - 1)].toArray 56) := ⟨_, rfl⟩
                    have hg10 : (W1).grownBy w10 none := by rw [hw10]; exact gr_alloc (World.grownBy.refl _ _) _
                    have hb10 : Box w10 (W1).heap.size 56 [.slice (some ⟨g2, o2, none⟩) (n + 1) c', .slice (some A3) m (c2' - 1)] := by rw [hw10]; exact Box.new _ _ _
                    rw [← hw10]
                    clear hw10
                    have hw10 : W0.grownBy w10 none := gr_trans hgW1 hg10
                    have hsl10 := hb10.sl (l := [(⟨some ⟨g2, o2, none⟩, n + 1, c'⟩ : RawS), ⟨some A3, m, c2' - 1⟩]) ⟨_, _, rfl, rfl, _, [], rfl, rfl, rfl⟩ (Nat.zero_le _) (by simp [maxLen])
                    have hhd10 : Heads w10 [(⟨some ⟨g2, o2, none⟩, n + 1, c'⟩ : RawS), ⟨some A3, m, c2' - 1⟩] [l[i].pts, l[j].pts.drop 1] := .cons ⟨hn.out.symm, ⟨_, rfl⟩, hpi.pure hw10⟩ (.cons ⟨hdl.out.symm, ⟨_, rfl⟩, hp3.out.pure hw10⟩ .nil)
                    refine tree_e0 (by kernel_rfl) rfl rfl (fun K hK => ?_)
                    have hc11 := concatPt_any _ 2 2 _ [l[i].pts, l[j].pts.drop 1] w10 (hsl10.pure (World.grownBy.refl _ _)) rfl (hhd10.pure (World.grownBy.refl _ _)) (by rw [show [l[i].pts, l[j].pts.drop 1].length = 2 from rfl, hT.out, hTl.out]; omega) (by rw [show [l[i].pts, l[j].pts.drop 1].length = 2 from rfl, hT.out, hTl.out]; omega)
                    rw [show [l[i].pts, l[j].pts.drop 1].length = 2 from rfl, hT.out] at hc11
                    replace hc11 := hide hc11
                    go_wp2_with fail
                    refine hc11.out.mono ?_
                    rintro e w11 ⟨A4, c4, rfl, ho11, hg11⟩
                    have hW11 : W0.grownBy w11 none := gr_trans (gr_trans hgW1 hg10) hg11
                    have hlw11 : W0.heap.size ≤ (w10).heap.size := (gr_trans hgW1 hg10).size
                    clear hc11
                    go_wp2_with fail
                    try go_simp
                    refine hK _ _ trivial ?_
                    clear hK K
                    refine tree_p rfl rfl rfl rfl _ rfl (by simp) (fun K hK => ?_)
                    apply Exists.intro
                    refine ⟨fun wq K' hK' => ?_, ?_⟩
                    · go_wp2_with fail
                      exact hK'
                    go_simp
                    refine hK _ ?_
                    clear hK K
                    refine tree_p rfl rfl rfl rfl _ rfl (by simp) (fun K hK => ?_)
                    apply Exists.intro
                    refine ⟨fun wq K' hK' => ?_, ?_⟩
                    · go_wp2_with fail
                      exact hK'
                    go_simp
                    refine hK _ ?_
                    clear hK K
                    refine tree_e0 (by kernel_rfl) rfl rfl (fun K hK => ?_)
                    have hO11 := hO0.pure hW11
                    have hA11 := hA0.grN hW11
                    obtain ⟨k0, -⟩ := hO11.cell_rawp hir
                    have f0 := hO11.frozen (i * 2)
                    have hO12 := hO11.put (j := 0) hir (x := ⟨A4, (joinedP l i j).pts.length, c4, raws[i].b⟩) (u := .slice A4 (joinedP l i j).pts.length c4) (by decide) (by rintro c1 rfl; rfl)
                    have hg12 := gr_set (World.grownBy.refl w11 (some gg)) (p := ⟨gg, i * 2, none⟩) (.inl rfl) (.slice A4 (joinedP l i j).pts.length c4)
                    have hnew : NOk RawP w11 lo (some ⟨gg, 0, none⟩) ⟨A4, (joinedP l i j).pts.length, c4, raws[i].b⟩ (joinedP l i j) := by
                      refine ⟨⟨rfl, ?_, ho11.cap, ho11.sl.mono (by omega), fun q hq => ?_⟩, fun q hq e => ?_⟩
                      · show raws[i].b = _
                        rw [(hA2.get i hir hlt).1.2.1, hJc.out, hcl2.out]
                      · have := ho11.blk_lt hq; exact ⟨by omega, this.2⟩
                      · have := ho11.blk_lt hq
                        injection e with e
                        have hsz := hgW0.size
                        simp only at e
                        omega
                    have hA12 := (hA11.set_ i hnew).grB hg12 rfl
                    replace hnew := hide hnew
                    replace hO12 := hide hO12
                    replace hg12 := hide hg12
                    replace hA12 := hide hA12
                    go_wp2_with fail
                    try go_simp
                    refine hK _ _ trivial ?_
                    clear hK K
                    refine tree_done ?_
                    obtain ⟨w12, hw12⟩ : ∃ x, x = w11.setCell ⟨gg, i * 2, none⟩ (.slice A4 (joinedP l i j).pts.length c4) := ⟨_, rfl⟩
                    rw [← hw12]
                    have hO13 : Own w12 lo 62 (some ⟨gg, 0, none⟩) c (raws.set i ⟨A4, (joinedP l i j).pts.length, c4, raws[i].b⟩) := by rw [hw12]; exact hO12.out
                    have hA13 : All2 (NOk RawP w12 lo (some ⟨gg, 0, none⟩)) (raws.set i ⟨A4, (joinedP l i j).pts.length, c4, raws[i].b⟩) (l.set i (joinedP l i j)) := by rw [hw12]; exact hA12.out
                    have hg13 : w11.grownBy w12 (some gg) := by rw [hw12]; exact hg12.out
                    have hgw : w.grownBy w12 (some gg) := gr_trans (gr_any (hgW0.t hW11)) hg13
                    have hD := delPath_any gg c _ l.length j lo w12 hO13 (by rw [List.length_set]; exact hrl) hlj hcm
                    have hjl2 : Hid ((joinP l i j).length = l.length - 1) := by have := joinP_len (i := i) hlj; rw [Hid]; omega
                    clear hw12 hO12 hA12 hg12 hnew ho11 hW11 hg11 hlw11 hsl10 hhd10 hw10 hb10 hg10 hgW1 hpi hpj2 hp3 hdl hT hTl z5 zj
                    replace hD := hide hD
                    go_wp2_with fail
                    refine hD.out.mono ?_
                    rintro e w14 ⟨rfl, hO14, hg14⟩
                    go_wp2_with fail
                    go_ret2
                    exact .inr ⟨_, hc1.out, by rw [hjl2.out]; rfl, ⟨_, hO14, (All2.erase hA13 j).grB hg14 rfl⟩, gr_trans hgw hg14⟩
                  · have hby : (fr.y == en.y) = false := by simp [hy]
                    have hno := hide (hNO.out (by rw [hFC.out]; simp only [decide_eq_false_iff_not]; intro e; exact hy (by rw [e])))
                    replace hx := hide hx
                    replace hy := hide hy
                    go_quiet (fail)
                    go_wp2
                    (go_roundw; (case rel => exact ⟨j + 1, by omega, by go_num, rfl, gr_drewN hgx _, hno⟩); (case measure => simp [intOf]; omega))
                · have hbx : (fr.x == en.x) = false := by simp [hx]
                  have hno := hide (hNO.out (by rw [hFC.out]; simp only [decide_eq_false_iff_not]; intro e; exact hx (by rw [e])))
                  replace hx := hide hx
                  go_quiet (fail)
                  go_wp2
                  (go_roundw; (case rel => exact ⟨j + 1, by omega, by go_num, rfl, gr_drewN hgx _, hno⟩); (case measure => simp [intOf]; omega))
          · obtain rfl : j = l.length := by omega
            have hp1 : Hid (pairK l (i + 1) = none) := pairK_no hpk.out hnk.out
            go_wp2_with fail
            (go_roundw; (case rel => exact ⟨i + 1, by omega, by go_num, hg.t hgx, hp1⟩); (case measure => simp [intOf]; omega))
    · obtain rfl : i = l.length := by omega
      have hc : Hid (chain1 l = none) := by rw [Hid, chain1, hpk.out]; rfl
      go_wp2_with fail
      go_ret2
      exact .inl ⟨hc.out, rfl, hg⟩

end Go.Proofs.YtmhnjpcjagbdhaaGreat

namespace Go.Proofs.YtmhnjpcjagbdhaaGreat
open Go Go.RowKit Go.Bl

def SJoint (w : World) (l : List PathV) (e : Ending) (w' : World) : Prop :=
  ((pairK l l.length = none ∧ e = .returned (.tuple #[.int .i64 0, .int .i64 0, .bool false])) ∨
  ∃ i k : Nat, pairK l l.length = some (i, k) ∧ e = .returned (.tuple #[.int .i64 i, .int .i64 k, .bool true])) ∧ w.grownBy w' none

set_option maxHeartbeats 4000000 in
set_option maxRecDepth 100000 in
theorem joint_any (A : Option Addr) (c : Nat) (l : List PathV) (w : World) (hl : Sl w 0 A l) (hne : ∀ p ∈ l, 0 < p.pts.length ∧ p.pts.length ≤ 400000) :
    Calls Tryz.prog 55 #[.slice A l.length c] w (SJoint w l) := by
  have hm := hl.1
  unfold maxLen at hm
  replace hne := hide hne
  go_enter Tryz.func55, Tryz.ntmps55
  go_wp2_with fail
  go_loopw [11] (fun i wr => ∃ k : Nat, k ≤ l.length ∧ i = .int .i64 k ∧ w.grownBy wr none ∧ Hid (pairK l k = none)) (fun i _ => l.length - (intOf i).toNat)
  case atStart => exact ⟨0, Nat.zero_le _, rfl, World.grownBy.refl _ _, rfl⟩
  case round =>
    obtain ⟨i, hi, rfl, hg, hpk⟩ := hrel
    by_cases hlt : i < l.length
    · obtain ⟨gg, oo, cx, rfl, hb0, hb1, ⟨A', c', rfl, hcp, hpts⟩, hc⟩ := (hl.pure hg).at_ (by decide) hlt
      have c0 : wr.cell? ⟨gg, oo + i * 2, none⟩ = some (.slice A' l[i].pts.length c') := hc 0 _ rfl
      have c1 : wr.cell? ⟨gg, oo + i * 2 + 1, none⟩ = some (.bool l[i].cl) := hc 1 _ rfl
      clear hc
      have hp0 := (hne.out l[i] (List.getElem_mem _)).1
      have hgi := getD_at hlt
      go_upto_region 4 with fail
      obtain ⟨w6, hw6⟩ : ∃ x, x = (wr).alloc (.cells [.slice A' l[i].pts.length c', .bool l[i].cl].toArray 62) := ⟨_, rfl⟩
      have hg6 : (wr).grownBy w6 none := by rw [hw6]; exact gr_alloc (World.grownBy.refl _ _) _
      have hb6 : Box w6 (wr).heap.size 62 [.slice A' l[i].pts.length c', .bool l[i].cl] := by rw [hw6]; exact Box.new _ _ _
      have hxs6 := hb6.lt
      rw [← hw6]
      clear hw6
      obtain ⟨x6, hx6⟩ : ∃ x, x = (wr).heap.size := ⟨_, rfl⟩
      rw [← hx6] at hb6 hxs6 ⊢
      have hxl6 : (wr).heap.size ≤ x6 := by omega
      clear hx6
      replace hpts := (hpts.mono (Nat.zero_le _)).pure hg6
      replace hg := hg.t hg6
      obtain ⟨n, hn⟩ : ∃ n, l[i].pts.length = n + 1 := ⟨l[i].pts.length - 1, by omega⟩
      have hlast : n < l[i].pts.length := by omega
      have hnm := hpts.1
      unfold maxLen at hnm
      rw [hn] at hnm
      have hn0 : (0 : Int) ≤ n ∧ (n : Int) < (n : Int) + 1 := by omega
      obtain ⟨g2, o2, cx, rfl, hb2, hb3, rfl, hc⟩ := hpts.at_ (by decide) hlast
      have p0 : w6.cell? ⟨g2, o2 + n * 2, none⟩ = some (.int .i64 l[i].pts[n].x) := hc 0 _ rfl
      have p1 : w6.cell? ⟨g2, o2 + n * 2 + 1, none⟩ = some (.int .i64 l[i].pts[n].y) := hc 1 _ rfl
      clear hc c0 c1 hg6 hpts
      have hend : Hid (endP l[i] = l[i].pts[n]) := by rw [Hid, endP, hn, Nat.add_sub_cancel, List.getD_eq_getElem?_getD, List.getElem?_eq_getElem hlast, Option.getD_some]
      rw [hn] at hb6
      clear hp0
      replace hn := hide hn
      generalize l[i].pts[n] = en at *
      have hend2 : Hid (endP (l.getD i default) = en) := by rw [Hid, hgi, hend.out]
      have hgi2 : Hid ((l.getD i default).cl = l[i].cl) := by rw [Hid, hgi]
      clear hgi hend
      replace hb6 := hb6
      obtain ⟨ci, hci⟩ : ∃ ci, l[i].cl = ci := ⟨_, rfl⟩
      rw [hci] at hb6 hgi2
      clear hci
      obtain ⟨wa, rfl⟩ : ∃ x, x = wr := ⟨wr, rfl⟩
      go_wp2_with fail
      go_loopw [18] (fun j wr => ∃ k : Nat, k ≤ l.length ∧ j = .int .i64 k ∧ w6.grownBy wr none ∧ Hid (ci = false → nextK l i k = none)) (fun j _ => l.length - (intOf j).toNat)
      case atStart => exact ⟨0, Nat.zero_le _, rfl, World.grownBy.refl _ _, fun _ => rfl⟩
      case round =>
        obtain ⟨j, hj, rfl, hgx, hnk⟩ := hrel
        by_cases hlj : j < l.length
        · obtain ⟨g', o', cx, e, hb0', hb1', ⟨A2, c2', rfl, hcp2, hpts2⟩, hc⟩ := (hl.pure (hg.t hgx)).at_ (by decide) hlj
          cases e
          have c0 : wr.cell? ⟨gg, oo + j * 2, none⟩ = some (.slice A2 l[j].pts.length c2') := hc 0 _ rfl
          have c1 : wr.cell? ⟨gg, oo + j * 2 + 1, none⟩ = some (.bool l[j].cl) := hc 1 _ rfl
          clear hc
          have hgj := getD_at hlj
          have hFB : Hid (fitB l i j = (decide (j ≠ i) && (!l[j].cl && decide (frontP l[j] = en)))) := by rw [Hid, fitB, hgj, hend2.out]
          have hp0 := (hne.out l[j] (List.getElem_mem _)).1
          have hNO : Hid (fitB l i j = false → ci = false → nextK l i (j + 1) = none) := fun h hc => nextK_no (hnk.out hc) h
          have hYES : Hid (fitB l i j = true → ci = false → pairK l l.length = some (i, j)) := fun h hc => pairK_yes hpk.out (by rw [hgi2.out, hc]) (nextK_yes (hnk.out hc) h _ hlj) _ hlt
          clear hgj
          go_upto_region 7 with fail
          obtain ⟨w8, hw8⟩ : ∃ x, x = (wr).alloc (.cells [.slice A2 l[j].pts.length c2', .bool l[j].cl].toArray 62) := ⟨_, rfl⟩
          have hg8 : (wr).grownBy w8 none := by rw [hw8]; exact gr_alloc (World.grownBy.refl _ _) _
          have hb8 : Box w8 (wr).heap.size 62 [.slice A2 l[j].pts.length c2', .bool l[j].cl] := by rw [hw8]; exact Box.new _ _ _
          have hxs8 := hb8.lt
          rw [← hw8]
          clear hw8
          obtain ⟨x8, hx8⟩ : ∃ x, x = (wr).heap.size := ⟨_, rfl⟩
          rw [← hx8] at hb8 hxs8 ⊢
          have hxl8 : (wr).heap.size ≤ x8 := by omega
          clear hx8
          obtain ⟨b0, _⟩ := hb8.c 0 rfl
          obtain ⟨b1, _⟩ := hb8.c 1 rfl
          have hb6x := hb6.pure (hgx.t hg8)
          obtain ⟨e0, _⟩ := hb6x.c 0 rfl
          obtain ⟨e1, _⟩ := hb6x.c 1 rfl
          have q0 := (hgx.t hg8).k p0
          have q1 := (hgx.t hg8).k p1
          replace hpts2 := (hpts2.mono (Nat.zero_le _)).pure hg8
          replace hgx := hgx.t hg8
          clear c0 c1 hg8 hb8 hb6x
          by_cases hij : j = i
          · have hb : ((i : Int) != (j : Int)) = false := by simp [hij]
            have hno := hide (hNO.out (by rw [hFB.out]; simp [hij]))
            replace hij := hide hij
            clear b0 b1 e0 e1 hpts2 q0 q1 p0 p1
            go_quiet (fail)
            go_wp2
            (go_roundw; (case rel => exact ⟨j + 1, by omega, by go_num, gr_drewN hgx _, hno⟩); (case measure => simp [intOf]; omega))
          · have hb : ((i : Int) != (j : Int)) = true := by simp; omega
            have hij2 := hide hij
            clear hij
            cases ci with
            | true =>
              clear b0 b1 e0 hpts2 q0 q1 p0 p1
              go_quiet (fail)
              go_wp2
              (go_roundw; (case rel => exact ⟨j + 1, by omega, by go_num, gr_drewN hgx _, fun h => by cases h⟩); (case measure => simp [intOf]; omega))
            | false =>
              cases hcj : l[j].cl with
              | true =>
                have hno := hide (hNO.out (by rw [hFB.out, hcj]; simp))
                rw [hcj] at b1
                clear hcj b0 e0 hpts2 q0 q1 p0 p1
                go_quiet (fail)
                go_wp2
                (go_roundw; (case rel => exact ⟨j + 1, by omega, by go_num, gr_drewN hgx _, fun _ => hno.out rfl⟩); (case measure => simp [intOf]; omega))
              | false =>
                rw [hcj] at b1
                obtain ⟨g3, o3, cx, rfl, hb2, hb3, rfl, hc⟩ := hpts2.at_ (by decide) hp0
                have r0 : w8.cell? ⟨g3, o3 + 0 * 2, none⟩ = some (.int .i64 l[j].pts[0].x) := hc 0 _ rfl
                have r1 : w8.cell? ⟨g3, o3 + 0 * 2 + 1, none⟩ = some (.int .i64 l[j].pts[0].y) := hc 1 _ rfl
                rw [Nat.zero_mul, Nat.add_zero] at r0 r1
                clear hc
                have hfr : Hid (frontP l[j] = l[j].pts[0]) := by rw [Hid, frontP, List.getD_eq_getElem?_getD, List.getElem?_eq_getElem hp0, Option.getD_some]
                have hFC : Hid (fitB l i j = decide (l[j].pts[0] = en)) := by rw [Hid, hFB.out, hcj, hfr.out]; simp [hij2.out]
                have hp1 : (0 : Int) < (l[j].pts.length : Int) := by omega
                generalize l[j].pts[0] = fr at *
                clear hFB hfr hpts2
                have hcj2 := hide hcj
                clear hcj p0 p1
                by_cases hx : fr.x = en.x
                · have hbx : (en.x == fr.x) = true := by simp [hx]
                  by_cases hy : fr.y = en.y
                  · have hby : (en.y == fr.y) = true := by simp [hy]
                    have hyes := hide (hYES.out (by rw [hFC.out]; simp [Pt.ext hx hy]) rfl)
                    replace hx := hide hx
                    replace hy := hide hy
                    go_quiet (fail)
                    go_wp2_with fail
                    go_ret3
                    exact ⟨.inr ⟨i, j, hyes.out, rfl⟩, hg.t (gr_drewN hgx _)⟩
                  · have hby : (en.y == fr.y) = false := by simp; omega
                    have hno := hide (hNO.out (by rw [hFC.out]; simp only [decide_eq_false_iff_not]; intro e; exact hy (by rw [e])))
                    replace hx := hide hx
                    replace hy := hide hy
                    go_quiet (fail)
                    go_wp2
                    (go_roundw; (case rel => exact ⟨j + 1, by omega, by go_num, gr_drewN hgx _, fun _ => hno.out rfl⟩); (case measure => simp [intOf]; omega))
                · have hbx : (en.x == fr.x) = false := by simp; omega
                  have hno := hide (hNO.out (by rw [hFC.out]; simp only [decide_eq_false_iff_not]; intro e; exact hx (by rw [e])))
                  replace hx := hide hx
                  go_quiet (fail)
                  go_wp2
                  (go_roundw; (case rel => exact ⟨j + 1, by omega, by go_num, gr_drewN hgx _, fun _ => hno.out rfl⟩); (case measure => simp [intOf]; omega))
        · obtain rfl : j = l.length := by omega
          have hp1 : Hid (pairK l (i + 1) = none) := by
            rw [Hid]
            cases ci with
            | true => exact pairK_cl hpk.out hgi2.out
            | false => exact pairK_no hpk.out (hnk.out rfl)
          go_wp2_with fail
          (go_roundw; (case rel => exact ⟨i + 1, by omega, by go_num, hg.t hgx, hp1⟩); (case measure => simp [intOf]; omega))
    · obtain rfl : i = l.length := by omega
      go_wp2_with fail
      go_ret3
      exact ⟨.inl ⟨hpk.out, rfl⟩, hg⟩

end Go.Proofs.YtmhnjpcjagbdhaaGreat

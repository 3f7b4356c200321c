/- Contracts of functions that this seat's laws reach, each: what one call returns and what it leaves in memory; no condition beyond each theorem's own hypotheses. -/
import Derived.Test.YtgcpegjggakemaaGreatDoorZqSimpA
import Derived.Test.YtgcpegjggakemaaGreatDoorZqStaA
set_option linter.unusedVariables false
set_option linter.unusedSimpArgs false
namespace Go.Proofs.YtgcpegjggakemaaGreatDoor
open Go Go.RowKit Go.Bl

set_option maxHeartbeats 8000000 in
set_option maxRecDepth 100000 in
theorem simplifiedT_any (A : Option Addr) (c : Nat) (rs : List (List Pt)) (w : World) (hl : Sl w 0 A rs) (hF : regF rs = 0) (hs : (flatK rs rs.length).length ≤ 1000000) :
    Calls Tryz.prog 42 #[.slice A rs.length c] w fun e w' => ∃ (A' : Option Addr) (c' : Nat) (raws : List RawS), e = .returned (.tuple #[.slice A' raws.length c', .int .i64 0]) ∧ Own w' w.heap.size 66 A' c' raws ∧ (∀ r ∈ raws, RgOk w' w.heap.size A' r) ∧ raws.length ≤ 100 ∧ w.grownBy w' none := by
  have hC := checkRegion_any A c rs w hl hs
  rw [hF] at hC
  have hok := rok_of hF
  have h3s : Hid (∀ r ∈ rs, 3 ≤ (simpR r).length) := fun r hr => by have := keep3 (rr_of ((rok2_of hF).ring r hr)); rw [(simp_len r).1]; exact this
  have hfew := hok.few
  replace hok := hide hok
  clear hF
  obtain ⟨i0, hi, hz, h1, h2⟩ := info_parts info_ring
  obtain ⟨j0, hj, hjz, j1, j2⟩ := info_parts info_pt
  go_enter Tryz.func42, Tryz.ntmps42
  go_wp2_with fail
  refine hC.mono ?_
  rintro e w1 ⟨rfl, hg1⟩
  clear hC
  go_wp2_with fail
  go_loopw [5, 19] (fun o i wr => ∃ (k : Nat) (raws : List RawS) (A2 : Option Addr) (c2 : Nat), k ≤ rs.length ∧ i = .int .i64 k ∧ o = .slice A2 raws.length c2 ∧ Hid (raws.length = k) ∧ Own wr w.heap.size 66 A2 c2 raws ∧ Hid (∀ r ∈ raws, RgOk wr w.heap.size A2 r) ∧ w.grownBy wr none) (fun _ i _ => rs.length - (intOf i).toNat)
  case atStart => exact ⟨0, [], none, 0, Nat.zero_le _, rfl, rfl, rfl, Own.nil _ _ _, by simp [Hid], hg1⟩
  case round =>
    clear hg1
    obtain ⟨k, raws, A2, c2, hk, rfl, rfl, hlk, hOr, hall, hg⟩ := hrel
    by_cases hlt : k < rs.length
    · obtain ⟨g, o, Bk, dk, rfl, hb1, c0, -, hsl⟩ := sl_inner' hl hlt
      replace c0 := hg.k c0
      have hlen := hok.out.len _ (List.getElem_mem hlt)
      have hbd := hok.out.bd _ (List.getElem_mem hlt)
      have h3k := h3s.out _ (List.getElem_mem hlt)
      generalize rs[k] = r at *
      have hcb := hide fun i => cor_bd hbd (by omega) i
      obtain ⟨gr, orr, rfl, -, hbgr, hcell⟩ := hsl.pt (by omega)
      have hct : ∀ i (wx : World), w.grownBy wx none → ∀ j, j = i % r.length → wx.cell? ⟨gr, orr + j * 2, none⟩ = some (.int .i64 (cor r i).x) ∧ wx.cell? ⟨gr, orr + j * 2 + 1, none⟩ = some (.int .i64 (cor r i).y) := fun i wx hg j hj => by
        subst hj
        obtain ⟨h, e⟩ := cor_at (r := r) (i := i) (by omega)
        rw [e]; exact ⟨hg.k (hcell _ h).1, hg.k (hcell _ h).2⟩
      replace hct := hide hct
      clear hcell hsl hbd
      obtain ⟨wa, rfl⟩ : ∃ x, x = wr := ⟨wr, rfl⟩
      go_wp2_with fail
      go_loopw [8, 27] (fun s i wx => ∃ (j : Nat) (A5 : Option Addr) (c5 : Nat), j ≤ r.length ∧ i = .int .i64 j ∧ s = .slice A5 (simpK r j).length c5 ∧ Own wx wa.heap.size 30 A5 c5 (simpK r j) ∧ wa.grownBy wx none) (fun _ i _ => r.length - (intOf i).toNat)
      case atStart => exact ⟨0, none, 0, Nat.zero_le _, rfl, rfl, Own.nil _ _ _, World.grownBy.refl _ _⟩
      case round =>
        obtain ⟨j, A5, c5, hjn, rfl, rfl, hO5, hgx⟩ := hrel
        by_cases hlj : j < r.length
        · have hgj := hg.t hgx
          have hm0 : j = j % r.length := (Nat.mod_eq_of_lt hlj).symm
          obtain ⟨q0, q1⟩ := hct.out j wr hgj j hm0
          clear hm0
          obtain ⟨m1, hm1⟩ : ∃ m, m = (j + 1) % r.length := ⟨_, rfl⟩
          have hm1b : ((j : Int) + 1) % r.length = m1 := by rw [hm1]; simp
          obtain ⟨s0, s1⟩ := hct.out (j + 1) wr hgj m1 hm1
          have hm1l : m1 < r.length := by rw [hm1]; exact Nat.mod_lt _ (by omega)
          obtain ⟨m2, hm2⟩ : ∃ m, m = (j + r.length - 1) % r.length := ⟨_, rfl⟩
          have hm2b : ((j : Int) + (r.length : Int) - 1) % r.length = m2 := by
            rw [hm2, show ((j : Int) + (r.length : Int) - 1) = ((j + r.length - 1 : Nat) : Int) by omega]; simp
          obtain ⟨t0, t1⟩ := hct.out (j + r.length - 1) wr hgj m2 hm2
          have hm2l : m2 < r.length := by rw [hm2]; exact Nat.mod_lt _ (by omega)
          replace hm1 := hide hm1
          replace hm2 := hide hm2
          have hT := hide fun wx => turn_any (cor r (j + r.length - 1)) (cor r j) (cor r (j + 1)) wx (hcb.out _) (hcb.out _) (hcb.out _)
          have hY : Hid (turnP (cor r (j + r.length - 1)) (cor r j) (cor r (j + 1)) ≠ 0 → simpK r (j + 1) = simpK r j ++ [cor r j]) := fun h => simpK_yes h
          have hN : Hid (turnP (cor r (j + r.length - 1)) (cor r j) (cor r (j + 1)) = 0 → simpK r (j + 1) = simpK r j) := fun h => simpK_no h
          have hsl := simpK_len r j
          generalize cor r (j + r.length - 1) = a at *
          generalize cor r (j + 1) = b at *
          generalize cor r j = p at *
          generalize turnP a p b = T at *
          generalize simpK r j = K at *
          obtain ⟨K2, hK2⟩ : ∃ x, x = simpK r (j + 1) := ⟨_, rfl⟩
          rw [← hK2] at hY hN
          replace hK2 := hide hK2
          go_upto_region 13 with fail
          obtain ⟨w11, hw11⟩ : ∃ x, x = (wr).alloc (.cells [.int .i64 p.x, .int .i64 p.y].toArray 30) := ⟨_, rfl⟩
          have hg11 : (wr).grownBy w11 none := by rw [hw11]; exact gr_alloc (World.grownBy.refl _ _) _
          have hb11 : Box w11 (wr).heap.size 30 [.int .i64 p.x, .int .i64 p.y] := by rw [hw11]; exact Box.new _ _ _
          have hxs11 := hb11.lt
          rw [← hw11]
          clear hw11
          obtain ⟨x11, hx11⟩ : ∃ x, x = (wr).heap.size := ⟨_, rfl⟩
          rw [← hx11] at hb11 hxs11 ⊢
          have hxl11 : (wr).heap.size ≤ x11 := by omega
          clear hx11
          obtain ⟨b0, _⟩ := hb11.c 0 rfl
          obtain ⟨b1, _⟩ := hb11.c 1 rfl
          replace s0 := hg11.k s0
          replace s1 := hg11.k s1
          replace t0 := hg11.k t0
          replace t1 := hg11.k t1
          replace hO5 := hO5.pure hg11
          replace hgx := hgx.t hg11
          clear q0 q1 hg11
          refine wp_region_tree (fun wx => w11.grownBy wx none) [2, 2, 2, 2, 2, 2, 2, 2, 1, 1, 2, 2, 2, 2, 2, 2, 1, 0, 2] (.bl 0 (.bl 1 (.bl 2 (.bl 3 (.bl 4 (.bl 5 (.bl 6 (.bl 7 (.bl 8 (.bl 9 (.bl 10 (.bl 11 (.bl 12 (.bl 13 (.bl 14 (.bl 15 (.bl 16 (.ef 17 (.bl 18 .done))))))))))))))))))) (by kernel_rfl) (by kernel_rfl) (gr_drew (World.grownBy.refl _ _)) ?_
          obtain ⟨W1, hW1⟩ : ∃ x, x = (w11).drew := ⟨_, rfl⟩
          rw [← hW1]
          have hgW1 : (w11).grownBy W1 none := by rw [hW1]; exact gr_drew (World.grownBy.refl _ _)
          clear hW1
          refine tree_p rfl rfl rfl rfl _ rfl (by simp) (fun K hK => ?_)
          apply Exists.intro
          refine ⟨fun wq K' hK' => ?_, ?_⟩
          · go_wp2_with fail
            exact hK'
          go_simp
          refine hK _ ?_
          clear hK K
          refine tree_p rfl rfl rfl rfl _ rfl (by simp) (fun K hK => ?_)
          apply Exists.intro
          refine ⟨fun wq K' hK' => ?_, ?_⟩
          · go_wp2_with fail
            exact hK'
          go_simp
          refine hK _ ?_
          clear hK K
          refine tree_p rfl rfl rfl rfl _ rfl (by simp) (fun K hK => ?_)
          apply Exists.intro
          refine ⟨fun wq K' hK' => ?_, ?_⟩
          · go_wp2_with fail
            exact hK'
          go_simp
          refine hK _ ?_
          clear hK K
          refine tree_p rfl rfl rfl rfl _ rfl (by simp) (fun K hK => ?_)
          apply Exists.intro
          refine ⟨fun wq K' hK' => ?_, ?_⟩
          · go_wp2_with fail
            exact hK'
          go_simp
          refine hK _ ?_
          clear hK K
          refine tree_p rfl rfl rfl rfl _ rfl (by simp) (fun K hK => ?_)
          apply Exists.intro
          refine ⟨fun wq K' hK' => ?_, ?_⟩
          · go_wp2_with fail
            exact hK'
          go_simp
          refine hK _ ?_
          clear hK K
          refine tree_p rfl rfl rfl rfl _ rfl (by simp) (fun K hK => ?_)
          apply Exists.intro
          refine ⟨fun wq K' hK' => ?_, ?_⟩
          · go_wp2_with fail
            exact hK'
          go_simp
          refine hK _ ?_
          clear hK K
          refine tree_p rfl rfl rfl rfl _ rfl (by simp) (fun K hK => ?_)
          apply Exists.intro
          refine ⟨fun wq K' hK' => ?_, ?_⟩
          · go_wp2_with fail
            exact hK'
          go_simp
          refine hK _ ?_
          clear hK K
          refine tree_p rfl rfl rfl rfl _ rfl (by simp) (fun K hK => ?_)
          apply Exists.intro
          refine ⟨fun wq K' hK' => ?_, ?_⟩
          · go_wp2_with fail
            exact hK'
          go_simp
          refine hK _ ?_
          clear hK K
          refine tree_b rfl rfl rfl rfl _ rfl (by simp) (fun K hK => ?_)
          apply Exists.intro
          refine ⟨fun wq hq K' hK' => ?_, ?_⟩
          · have y0 := hq.k s0
            have y1 := hq.k s1
            have y2 := hq.k t0
            have y3 := hq.k t1
            have y4 := hq.k b0
            have y5 := hq.k b1
            go_wp2_with fail
            exact hK'
          go_simp
          refine hK _ ?_
          clear hK K
          refine tree_b rfl rfl rfl rfl _ rfl (by simp) (fun K hK => ?_)
          apply Exists.intro
          refine ⟨fun wq hq K' hK' => ?_, ?_⟩
          · have y0 := hq.k s0
            have y1 := hq.k s1
            have y2 := hq.k t0
            have y3 := hq.k t1
            have y4 := hq.k b0
            have y5 := hq.k b1
            go_wp2_with fail
            exact hK'
          go_simp
          refine hK _ ?_
          clear hK K
          refine tree_p rfl rfl rfl rfl _ rfl (by simp) (fun K hK => ?_)
          apply Exists.intro
          refine ⟨fun wq K' hK' => ?_, ?_⟩
          · go_wp2_with fail
            exact hK'
          go_simp
          refine hK _ ?_
          clear hK K
          refine tree_p rfl rfl rfl rfl _ rfl (by simp) (fun K hK => ?_)
          apply Exists.intro
          refine ⟨fun wq K' hK' => ?_, ?_⟩
          · go_wp2_with fail
            exact hK'
          go_simp
          refine hK _ ?_
          clear hK K
          refine tree_p rfl rfl rfl rfl _ rfl (by simp) (fun K hK => ?_)
          apply Exists.intro
          refine ⟨fun wq K' hK' => ?_, ?_⟩
          · go_wp2_with fail
            exact hK'
          go_simp
          refine hK _ ?_
          clear hK K
          refine tree_p rfl rfl rfl rfl _ rfl (by simp) (fun K hK => ?_)
          apply Exists.intro
          refine ⟨fun wq K' hK' => ?_, ?_⟩
          · go_wp2_with fail
            exact hK'
          go_simp
          refine hK _ ?_
          clear hK K
          refine tree_p rfl rfl rfl rfl _ rfl (by simp) (fun K hK => ?_)
          apply Exists.intro
          refine ⟨fun wq K' hK' => ?_, ?_⟩
          · go_wp2_with fail
            exact hK'
          go_simp
          refine hK _ ?_
          clear hK K
          refine tree_p rfl rfl rfl rfl _ rfl (by simp) (fun K hK => ?_)
          apply Exists.intro
          refine ⟨fun wq K' hK' => ?_, ?_⟩
          · go_wp2_with fail
            exact hK'
          go_simp
          refine hK _ ?_
          clear hK K
          refine tree_b rfl rfl rfl rfl _ rfl (by simp) (fun K hK => ?_)
          apply Exists.intro
          refine ⟨fun wq hq K' hK' => ?_, ?_⟩
          · have y0 := hq.k s0
            have y1 := hq.k s1
            have y2 := hq.k t0
            have y3 := hq.k t1
            have y4 := hq.k b0
            have y5 := hq.k b1
            go_wp2_with fail
            exact hK'
          go_simp
          refine hK _ ?_
          clear hK K
          refine tree_e0 (by kernel_rfl) rfl rfl (fun K hK => ?_)
          go_wp2_with fail
          refine (hT.out W1).mono ?_
          rintro e w17 ⟨rfl, hg17⟩
          have hW17 : w11.grownBy w17 none := gr_trans (gr_trans hgW1 (World.grownBy.refl _ _)) hg17
          go_wp2_with fail
          try go_simp
          refine hK _ _ trivial ?_
          clear hK K
          refine tree_p rfl rfl rfl rfl _ rfl (by simp) (fun K hK => ?_)
          apply Exists.intro
          refine ⟨fun wq K' hK' => ?_, ?_⟩
          · go_wp2_with fail
            exact hK'
          go_simp
          refine hK _ ?_
          clear hK K
          refine tree_done ?_
          replace hO5 := hO5.pure hW17
          replace hgx := hgx.t hW17
          replace hb11 := hb11.pure hW17
          clear s0 s1 t0 t1 b0 b1 hgW1 hg17 hT
          obtain ⟨b0, _⟩ := hb11.c 0 rfl
          obtain ⟨b1, _⟩ := hb11.c 1 rfl
          by_cases hT0 : T = 0
          · subst hT0
            have hKe := hide (hN.out rfl)
            go_wp2_with fail
            go_roundw
            case rel => exact ⟨j + 1, A5, c5, by omega, by go_num, by rw [← hK2.out, hKe.out], by rw [← hK2.out, hKe.out]; exact hO5, hgx⟩
            case measure => simp [intOf]; omega
          · have hKe := hide (hY.out hT0)
            have hb : (T != 0) = true := by simp [hT0]
            clear hT0
            have hszx := hgx.size
            go_wp2_with (at_builtin; refine wpList_push (α := Pt) _ rfl (.tmp 51) (.tmp 53) _ rfl wa.heap.size 30 j0 _ 16 Tryz.underlying66 hj hjz j1 j2 rfl _ _ _ K rfl rfl (by exact hO5.pure (gr_alloc (World.grownBy.refl _ _) _)) 0 ⟨_, 0, none⟩ 1 1 [p] rfl rfl (by exact sl_oneAt _ 0 [.int .i64 p.x, .int .i64 p.y] _ _ _ (by first | rfl | simp) (Nat.zero_le _) rfl) ?d2 ?d3 ?d4 ?_)
            case d2 => simp; omega
            case d3 => simp [maxLen]; omega
            case d4 => simp; omega
            intro A6 c6 w6 hO6 hU6
            have hgy := hU6.gr (Nat.le_refl _) (hgx.t (gr_alloc (World.grownBy.refl _ _) (.cells #[.int .i64 p.x, .int .i64 p.y] 30)))
            go_wp2_with fail
            go_roundw
            case rel => exact ⟨j + 1, A6, c6, by omega, by go_num, by rw [← hK2.out, hKe.out]; simp, by rw [← hK2.out, hKe.out]; exact hO6, hgy⟩
            case measure => simp [intOf]; omega
        · obtain rfl : j = r.length := by omega
          rw [simpK_all] at hO5 ⊢
          obtain ⟨g5, rfl, hgl5, hgr5⟩ := hO5.shape (by omega)
          generalize hSr : simpR r = S at *
          have hS6 : S.length ≤ 500 := by rw [← hSr]; exact Nat.le_trans (simp_len r).2 hlen.2
          replace hSr := hide hSr
          have hcp5 := hO5.cap
          have hrl2 : raws.length ≤ 100 := by rw [hlk.out]; omega
          have hTh := ThawR.own hO5
          have h3S : 3 ≤ S.length := h3k
          have hOr5 := hOr.pure hgx
          have hA5 : Hid (∀ r ∈ raws, RgOk wr w.heap.size A2 r) := fun r hr => (hall.out r hr).pure hgx
          have hgy := hg.t hgx
          have hne5 := ringNew (A := A2) (hO5.sl.mono hg.size) hcp5 ⟨Nat.le_trans hg.size hgl5, hgr5⟩ (fun e => by have := (hOr.blk_lt e).2; omega)
          have hga := gr_alloc (World.grownBy.refl wr none) (.cells #[.slice (some ⟨g5, 0, none⟩) S.length c5] 66)
          have hszy := hgy.size
          clear c0
          go_wp2_with (at_builtin; refine wpList_pushAt (α := RawS) _ rfl (.tmp 56) (.tmp 58) _ rfl w.heap.size 66 i0 _ 24 Tryz.underlying26 hi hz h1 h2 rfl _ _ _ raws rfl rfl (by exact hOr5.pure hga) 0 ⟨_, 0, none⟩ 1 1 [⟨some ⟨g5, 0, none⟩, S.length, c5⟩] rfl rfl (by exact sl_oneAt _ 0 [.slice (some ⟨g5, 0, none⟩) S.length c5] _ _ _ (by first | rfl | simp) (Nat.zero_le _) rfl) ?d2 ?d3 ?d4 ?_)
          case d2 => simp; omega
          case d3 => simp [maxLen]; omega
          case d4 => simp; omega
          intro A6 c6 w6 hO6 hG6
          have hnew : RgOk wr w.heap.size A2 ⟨some ⟨g5, 0, none⟩, S.length, c5⟩ := ⟨S, ⟨hne5, hTh⟩, h3S, hS6⟩
          have hN6 : Hid (∀ q ∈ raws ++ [(⟨some ⟨g5, 0, none⟩, S.length, c5⟩ : RawS)], RgOk w6 w.heap.size A6 q) := fun q hq => by
            rcases List.mem_append.1 hq with h | h
            · exact ((hA5.out q h).pure hga).grew hG6
            · rw [List.mem_singleton.1 h]; exact (hnew.pure hga).grew hG6
          have hgz := gr_row (hgy.t hga) hG6.1 (fun x e => ((hOr5.pure hga).blk_lt e).1)
          have hl6 : Hid ((raws ++ [(⟨some ⟨g5, 0, none⟩, S.length, c5⟩ : RawS)]).length = k + 1) := by rw [Hid, List.length_append, hlk.out]; rfl
          go_wp2_with fail
          (go_roundw; (case rel => exact ⟨k + 1, raws ++ [⟨some ⟨g5, 0, none⟩, S.length, c5⟩], A6, c6, by omega, by go_num, by rw [List.length_append]; rfl, hl6, hO6, hN6, hgz⟩); (case measure => simp [intOf]; omega))
    · obtain rfl : k = rs.length := by omega
      have hrl2 : raws.length ≤ 100 := by rw [hlk.out]; omega
      go_wp2_with fail
      go_ret2
      exact ⟨A2, c2, raws, rfl, hOr, hall.out, hrl2, hg⟩

end Go.Proofs.YtgcpegjggakemaaGreatDoor

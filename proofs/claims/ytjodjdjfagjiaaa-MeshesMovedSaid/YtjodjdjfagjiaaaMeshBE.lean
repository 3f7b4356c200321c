/- Contracts of functions that this seat's laws reach, each: what one call returns and what it leaves in memory; no condition beyond each theorem's own hypotheses. -/
import Derived.Test.YtjodjdjfagjiaaaMeshBD
set_option linter.unusedVariables false
set_option linter.unusedSimpArgs false
namespace Go.Proofs.Ytjodjdjfagjiaaa
open Go.RowKit Go.Bl

set_option maxHeartbeats 4000000 in
set_option maxRecDepth 100000 in
theorem madeTurn_any (t : V3 → V3) (gq ga : Nat) (A : Option Addr) (c : Nat) (vs : List V3) (B : Option Addr) (d : Nat) (fs : List Fc) (w : World) (hl : Sl w 0 A vs) (hfs : Sl w 0 B fs) (hvl : vs.length ≤ 1000) (hfl : fs.length ≤ 1000)
    (hcl : Hid (∀ v ∈ vs, ∀ wx, w.grownBy wx none → Calls Try.prog 71 #[.agg #[.int .i64 v.x, .int .i64 v.y, .int .i64 v.z], .pointer (some ⟨gq, 0, none⟩), .pointer (some ⟨ga, 0, none⟩)] wx fun e w' => e = .returned (.agg #[.int .i64 (t v).x, .int .i64 (t v).y, .int .i64 (t v).z]) ∧ wx.grownBy w' none)) :
    Calls Try.prog 70 #[.agg #[.slice A vs.length c, .slice B fs.length d], .func (.func 71) #[] #[.pointer (some ⟨gq, 0, none⟩), .pointer (some ⟨ga, 0, none⟩)]] w (SMeshE w.heap.size (okM ⟨vs.map t, fs⟩) (meshF ⟨vs.map t, fs⟩) w) := by
  have hm := hl.1
  unfold maxLen at hm
  obtain ⟨W, hW⟩ : ∃ W, W = (w.alloc (.cells #[.slice A vs.length c, .slice B fs.length d] 29)).alloc (.cells #[.slice none 0 0, .slice none 0 0] 29) := ⟨_, rfl⟩
  have hlt0 : w.heap.size < w.heap.size + 1 := Nat.lt_succ_self _
  have hWs : W.heap.size = w.heap.size + 1 + 1 := by rw [hW]; simp
  have hg0 : w.grownBy W none := by rw [hW]; exact (by repeat (first | exact World.grownBy.refl _ _ | assumption | refine gr_alloc ?_ _ | (apply gr_tail; assumption) | refine gr_drewN ?_ _ | refine gr_drew ?_))
  have b0 : W.cell? ⟨w.heap.size, 0, none⟩ = some (.slice A vs.length c) := by rw [hW]; go_simp
  have b1 : W.cell? ⟨w.heap.size, 1, none⟩ = some (.slice B fs.length d) := by rw [hW]; go_simp
  have q0 : Cell W (w.heap.size + 1) 0 (.slice none 0 0) := by rw [hW]; exact ⟨by go_simp, by go_simp⟩
  have q1 : Cell W (w.heap.size + 1) 1 (.slice none 0 0) := by rw [hW]; exact ⟨by go_simp, by go_simp⟩
  replace hW := hide hW.symm
  replace hWs := hide hWs
  go_enter Try.func70, Try.ntmps70
  go_wp2_with fail
  rw [hW.out]
  refine (cloneFc_any B d fs W (hfs.pure hg0) (by omega)).mono ?_
  rintro e w1 ⟨B', d', rfl, hB, hg1⟩
  replace b0 := hg1.k b0
  replace q0 := hide (q0.gr hg1 (by simp))
  replace q1 := hide (q1.gr hg1 (by simp))
  have hg2 := gr_trans hg0 hg1
  have hlt1 : w.heap.size + 1 < w1.heap.size := q0.out.lt
  have hlw1 : w.heap.size < w1.heap.size := by omega
  have hlw2 : w.heap.size < w1.heap.size + 1 := by omega
  clear hW hg0
  go_wp2_with fail
  obtain ⟨Wb, hWb⟩ : ∃ Wb, Wb = w1.alloc (.cells #[.slice none 0 0, .slice B' fs.length d'] 29) := ⟨_, rfl⟩
  have hgb : w1.grownBy Wb none := by rw [hWb]; exact gr_alloc (World.grownBy.refl _ _) _
  have m0 : Cell Wb w1.heap.size 0 (.slice none 0 0) := by rw [hWb]; exact Cell.new w1 [.slice none 0 0, .slice B' fs.length d'] 29 0 _ rfl _ rfl
  have m1 : Cell Wb w1.heap.size 1 (.slice B' fs.length d') := by rw [hWb]; exact Cell.new w1 [.slice none 0 0, .slice B' fs.length d'] 29 1 _ rfl _ rfl
  have hWbs : Wb.heap.size = w1.heap.size + 1 := by rw [hWb]; simp
  rw [← hWb]
  clear hWb
  have hg3 := gr_trans hg2 hgb
  replace q0 := hide (q0.out.gr hgb (by simp))
  replace q1 := hide (q1.out.gr hgb (by simp))
  have hBlt := hide (fun g e => (hB.blk_lt (g := g) e))
  replace hB := hB.pure hgb
  have hlw := hg2.size
  go_loopw [16] (fun i wr => ∃ (k : Nat) (Aq : Option Addr) (cq : Nat), k ≤ vs.length ∧ i = .int .i64 k ∧ Own wr Wb.heap.size 49 Aq cq ((vs.take k).map t) ∧ Cell wr w1.heap.size 0 (.slice Aq k cq) ∧ Cell wr w1.heap.size 1 (.slice B' fs.length d') ∧ Wb.grownBy wr (some w1.heap.size)) (fun i _ => vs.length - (intOf i).toNat)
  case atStart => exact ⟨0, none, 0, by omega, rfl, Own.nil _ _ _, m0, m1, World.grownBy.refl _ _⟩
  case round =>
    obtain ⟨n1, Aq, cq, hk, rfl, hown, c0, c1, hg⟩ := hrel
    clear m0 m1
    by_cases hlt : n1 < vs.length
    · have hgw : w.grownBy wr none := gr_row hg3 hg (fun g e => by injection e; omega)
      obtain ⟨g, o, rfl, -, hbg, hcc⟩ := (hl.pure hgw).v3 (by omega)
      obtain ⟨v0, v1, v2⟩ := hcc n1 hlt
      clear hcc
      have hcl1 := fun wx hx => hcl.out vs[n1] (List.getElem_mem hlt) wx hx
      have hls : (vs.take (n1 + 1)).map t = (vs.take n1).map t ++ [t vs[n1]] := by rw [take_snoc hlt, List.map_append]; rfl
      have hq1 : ((vs.take n1).map t).length = n1 := by rw [List.length_map, List.length_take]; omega
      have hn1 : n1 ≤ 1000 := by omega
      generalize vs[n1] = vq at *
      generalize t vq = uq at *
      replace hls := hide hls
      generalize (vs.take n1).map t = lq at *
      have hclo := hide hcl1
      clear hcl1
      replace c0 := hide c0
      replace c1 := hide c1
      replace hq1 := hide hq1
      go_upto_region 5 with fail
      have hal := gr_alloc (r := none) (World.grownBy.refl wr none) (.cells #[.int .i64 vq.x, .int .i64 vq.y, .int .i64 vq.z] 49)
      have hV : VAt (wr.alloc (.cells #[.int .i64 vq.x, .int .i64 vq.y, .int .i64 vq.z] 49)) wr.heap.size vq := ⟨Cell.new wr [.int .i64 vq.x, .int .i64 vq.y, .int .i64 vq.z] 49 0 _ rfl _ rfl, Cell.new wr [.int .i64 vq.x, .int .i64 vq.y, .int .i64 vq.z] 49 1 _ rfl _ rfl, Cell.new wr [.int .i64 vq.x, .int .i64 vq.y, .int .i64 vq.z] 49 2 _ rfl _ rfl⟩
      have hqA0 : ∀ g, blk Aq = some g → g < wr.heap.size := fun g e => (hown.blk_lt e).2
      have hlo2 : wr.heap.size + 1 ≤ (wr.alloc (.cells #[.int .i64 vq.x, .int .i64 vq.y, .int .i64 vq.z] 49)).heap.size := by simp
      have hszb := hg.size
      replace hown := hown.pure hal
      replace c0 := c0.out.gr hal (by simp)
      replace c1 := c1.out.gr hal (by simp)
      replace hg := gr_step hg hal
      replace hgw := gr_trans hgw hal
      generalize (wr.alloc (.cells #[.int .i64 vq.x, .int .i64 vq.y, .int .i64 vq.z] 49)) = wv at *
      clear hal v0 v1 v2 hbg
      generalize hgv : wr.heap.size = gv at *
      generalize hgm : w1.heap.size = gm at *
      obtain ⟨lo, hlo⟩ : ∃ lo, lo = Wb.heap.size := ⟨_, rfl⟩
      obtain ⟨lo2, hlo2e⟩ : ∃ lo2, lo2 = gv + 1 := ⟨_, rfl⟩
      obtain ⟨bv, hbv⟩ : ∃ bv, bv = Value.slice B' fs.length d' := ⟨_, rfl⟩
      have hq : MpOk gm gv lo lo2 Aq w Wb := ⟨by omega, by omega, by omega, by omega, by omega, by omega, fun g e => by have := hqA0 g e; omega⟩
      have hqA : ∀ g, blk Aq = some g → g < lo2 := fun g e => by have := hqA0 g e; omega
      have hgml : gm < lo := by omega
      have hgml2 : gm < lo2 := by omega
      have hlll : lo ≤ wv.heap.size := by omega
      have hlll2 : lo ≤ lo2 := by omega
      have hI0 : ∀ m : Nat → Bool, m 8 = false → MpI gm gv lo lo2 n1 cq Aq lq vq uq bv w Wb m 0 wv.drew := fun m hm => by
        have hd := gr_drew (World.grownBy.refl wv none)
        exact ⟨gr_trans hgw hd, by show lo2 ≤ wv.heap.size; omega, hV.gr hd (by simp), fun _ => by rw [hlo]; exact hown.pure hd, fun _ => c0.gr hd (by simp), by rw [hbv]; exact c1.gr hd (by simp), gr_step hg hd, fun h => by rw [hm] at h; cases h⟩
      replace hI0 := hide hI0
      replace hq := hide hq
      replace hqA := hide hqA
      replace hq1 := hq1.out
      clear hown c0 c1 hg hV hqA0 hgw
      replace hq := hq.out
      replace hqA := hqA.out
      replace hlo := hide hlo
      replace hlo2e := hide hlo2e
      replace hbv := hide hbv
      replace hgv := hide hgv
      replace hgm := hide hgm
      refine wp_region_minvF (MpI gm gv lo lo2 n1 cq Aq lq vq uq bv w Wb) (fun m => Wrt (fun g => g = gm ∨ (m 6 = false ∧ lo ≤ g ∧ g < lo2))) [VIs (.pointer (some ⟨gm, 0, none⟩)), VIs (.slice Aq n1 cq), VIs (.func (.func 71) #[] #[.pointer (some ⟨gq, 0, none⟩), .pointer (some ⟨ga, 0, none⟩)]), VIs (.agg #[.int .i64 vq.x, .int .i64 vq.y, .int .i64 vq.z]), VIs (.agg #[.int .i64 uq.x, .int .i64 uq.y, .int .i64 uq.z]), VOne lo2 uq, VMp lo n1 lq uq, VIs (.pointer (some ⟨gm, 0, none⟩)), (fun _ _ => True)] [0, 0, 0, 0, 0, 0, 0, 0, 0] (by kernel_rfl) (by kernel_rfl) (by intro vs; simp only [putAll, Act.put, List.setIfInBounds_toArray, List.set_cons_zero, List.set_cons_succ, Nat.reduceAdd]; exact rfl) ?iv0 ?iv1 rfl ?iv2 ?iv3
      case iv1 => exact Stab.ok ⟨fun m v w w' _ _ h => h, fun m v w w' _ _ h => h, fun m v w w' _ _ h => h, fun m v w w' _ _ h => h, fun m v w w' _ _ h => h, fun m v w w' _ hw h => h.stab hw (fun g h => by rcases h with h | ⟨_, h1, h2⟩ <;> omega), fun m v w w' hm hw h => h.stab hw (fun g h => by rcases h with h | ⟨h, _⟩ <;> first | omega | (rw [show m 6 = true from hm] at h; cases h)), fun m v w w' _ _ h => h, fun m v w w' _ _ h => h, trivial⟩
      case iv2 =>
        refine MOpsF.op (fun vs wx m k hmj hcl hI hk hf K hK => ?_) ?_
        · clear hf hcl
          replace hK := hide hK
          replace hI := hide hI
          go_wp2_with fail
          replace hK := hK.out (.pointer (some ⟨gm, 0, none⟩))
          simp only [Act.put, List.setIfInBounds_toArray, List.set_cons_zero, List.set_cons_succ, Nat.add_zero] at hK
          exact hK _ ((hI.out.same (by decide) (by decide))) (Wrt.pure (World.grownBy.refl _ _)) (rfl)
        refine MOpsF.op (fun vs wx m k hmj hcl hI hk hf K hK => ?_) ?_
        · have e0 : vs 0 = .pointer (some ⟨gm, 0, none⟩) := hf 0 (by decide) (by kernel_rfl)
          clear hf
          have h8 : m 8 = false := by
            cases hq : m 8 with
            | false => rfl
            | true => exact absurd (hcl 8 1 (by decide) (by decide) hq (by kernel_rfl)) (by rw [show m 1 = false from hmj]; simp)
          have c := (hI.2.2.2.2.1 h8).1
          clear hcl h8
          replace hK := hide hK
          replace hI := hide hI
          rw [e0]
          replace e0 := hide e0
          go_wp2_with fail
          replace hK := hK.out (.slice Aq n1 cq)
          simp only [Act.put, List.setIfInBounds_toArray, List.set_cons_zero, List.set_cons_succ, e0.out, Nat.add_zero] at hK
          exact hK _ ((hI.out.same (by decide) (by decide))) (Wrt.pure (World.grownBy.refl _ _)) (rfl)
        refine MOpsF.op (fun vs wx m k hmj hcl hI hk hf K hK => ?_) ?_
        · clear hf hcl
          replace hK := hide hK
          replace hI := hide hI
          go_wp2_with fail
          replace hK := hK.out (.func (.func 71) #[] #[.pointer (some ⟨gq, 0, none⟩), .pointer (some ⟨ga, 0, none⟩)])
          simp only [Act.put, List.setIfInBounds_toArray, List.set_cons_zero, List.set_cons_succ, Nat.add_zero] at hK
          exact hK _ ((hI.out.same (by decide) (by decide))) (Wrt.pure (World.grownBy.refl _ _)) (rfl)
        refine MOpsF.op (fun vs wx m k hmj hcl hI hk hf K hK => ?_) ?_
        · clear hf hcl
          have hVV := hI.2.2.1
          obtain ⟨⟨z0, -⟩, ⟨z1, -⟩, ⟨z2, -⟩⟩ := hVV
          replace hK := hide hK
          replace hI := hide hI
          go_wp2_with fail
          replace hK := hK.out (.agg #[.int .i64 vq.x, .int .i64 vq.y, .int .i64 vq.z])
          simp only [Act.put, List.setIfInBounds_toArray, List.set_cons_zero, List.set_cons_succ, Nat.add_zero] at hK
          exact hK _ ((hI.out.same (by decide) (by decide))) (Wrt.pure (World.grownBy.refl _ _)) (rfl)
        refine MOpsF.op (fun vs wx m k hmj hcl hI hk hf K hK => ?_) ?_
        · have e2 : vs 2 = .func (.func 71) #[] #[.pointer (some ⟨gq, 0, none⟩), .pointer (some ⟨ga, 0, none⟩)] := hf 2 (by decide) (by kernel_rfl)
          have e3 : vs 3 = .agg #[.int .i64 vq.x, .int .i64 vq.y, .int .i64 vq.z] := hf 3 (by decide) (by kernel_rfl)
          clear hf hcl
          have hCL := hide (hclo.out wx hI.1)
          replace hK := hide hK
          replace hI := hide hI
          rw [e2, e3]
          replace e2 := hide e2
          replace e3 := hide e3
          go_wp2_with fail
          go_at_call 71
          refine hCL.out.mono ?_
          rintro e wy ⟨rfl, hgy⟩
          go_wp2_with fail
          replace hK := hK.out (.agg #[.int .i64 uq.x, .int .i64 uq.y, .int .i64 uq.z])
          simp only [Act.put, List.setIfInBounds_toArray, List.set_cons_zero, List.set_cons_succ, e2.out, e3.out, Nat.add_zero] at hK
          exact hK _ (((hI.out.same (by decide) (by decide)).pure hgy)) (Wrt.pure hgy) (rfl)
        refine MOpsF.op (fun vs wx m k hmj hcl hI hk hf K hK => ?_) ?_
        · have e4 : vs 4 = .agg #[.int .i64 uq.x, .int .i64 uq.y, .int .i64 uq.z] := hf 4 (by decide) (by kernel_rfl)
          clear hf hcl
          replace hK := hide hK
          replace hI := hide hI
          rw [e4]
          replace e4 := hide e4
          go_wp2_with fail
          replace hK := hK.out (.slice (some ⟨wx.heap.size, 0, none⟩) 1 1)
          simp only [Act.put, List.setIfInBounds_toArray, List.set_cons_zero, List.set_cons_succ, e4.out, Nat.add_zero] at hK
          exact hK _ (((hI.out.same (by decide) (by decide)).pure (gr_alloc (World.grownBy.refl _ _) _))) (Wrt.pure (gr_alloc (World.grownBy.refl _ _) _)) (⟨wx.heap.size, rfl, sl_oneAt _ _ _ _ _ _ rfl hI.out.2.1 rfl⟩)
        refine MOpsF.op (fun vs wx m k hmj hcl hI hk hf K hK => ?_) ?_
        · have e1 : vs 1 = .slice Aq n1 cq := hf 1 (by decide) (by kernel_rfl)
          obtain ⟨g5, e5, hsl⟩ := hf 5 (by decide) (by kernel_rfl)
          clear hf
          have h8 : m 8 = false := by
            cases hq : m 8 with
            | false => rfl
            | true => exact absurd (hcl 8 6 (by decide) (by decide) hq (by kernel_rfl)) (by rw [show m 6 = false from hmj]; simp)
          have hown := hI.2.2.2.1 hmj
          obtain ⟨i0, hi, hz, h1, h2⟩ := info_parts info_v3
          replace hK := hide hK
          replace hI := hide hI
          rw [e1, e5]
          replace e1 := hide e1
          replace e5 := hide e5
          refine wp_pushAt (α := V3) _ (.tmp 21) (.tmp 25) _ rfl lo 49 i0 _ 24 Try.underlying26 hi hz h1 h2 rfl _ _ _ lq rfl ?_ hown lo2 ⟨g5, 0, none⟩ 1 1 [uq] rfl ?_ hsl ?_ ?_ ?_ ?_
          · exact hq1.symm
          · rfl
          · simp; omega
          · simp [maxLen]; omega
          · have := hI.out.2.1; omega
          intro A5 c5 w5 hown5 hG5
          simp only [Act.put, List.setIfInBounds_toArray, List.set_cons_zero, List.set_cons_succ]
          replace hK := hK.out (.slice A5 (lq ++ [uq]).length c5)
          simp only [Act.put, List.setIfInBounds_toArray, List.set_cons_zero, List.set_cons_succ, e1.out, e5.out, Nat.add_zero] at hK
          exact hK _ ((hI.out.app hq (show m 6 = false from hmj) h8 hG5 hown)) (⟨_, hG5.1, fun g e => .inr ⟨hmj, (hown.blk_lt e).1, hqA g e⟩⟩) (⟨A5, c5, by rw [List.length_append, hq1]; rfl, hown5⟩)
        refine MOpsF.op (fun vs wx m k hmj hcl hI hk hf K hK => ?_) ?_
        · clear hf hcl
          replace hK := hide hK
          replace hI := hide hI
          go_wp2_with fail
          replace hK := hK.out (.pointer (some ⟨gm, 0, none⟩))
          simp only [Act.put, List.setIfInBounds_toArray, List.set_cons_zero, List.set_cons_succ, Nat.add_zero] at hK
          exact hK _ ((hI.out.same (by decide) (by decide))) (Wrt.pure (World.grownBy.refl _ _)) (rfl)
        refine MOpsF.op (fun vs wx m k hmj hcl hI hk hf K hK => ?_) ?_
        · have e7 : vs 7 = .pointer (some ⟨gm, 0, none⟩) := hf 7 (by decide) (by kernel_rfl)
          obtain ⟨A6, c6, e6, ho6⟩ := hf 6 (by decide) (by kernel_rfl)
          clear hf hcl
          have c := hI.2.2.2.2.1 hmj
          obtain ⟨c, fz⟩ := c
          have hgs := gr_set (World.grownBy.refl wx (some gm)) (p := ⟨gm, 0, none⟩) (.inl rfl) (.slice A6 (n1 + 1) c6)
          replace hgs := hide hgs
          replace ho6 := hide ho6
          replace hK := hide hK
          replace hI := hide hI
          rw [e7, e6]
          replace e7 := hide e7
          replace e6 := hide e6
          go_wp2_with fail
          replace hK := hK.out (undef)
          simp only [Act.put, List.setIfInBounds_toArray, List.set_cons_zero, List.set_cons_succ, e7.out, e6.out, Nat.add_zero] at hK
          exact hK _ ((hI.out.fin hq ⟨c, fz⟩ ho6.out)) (Wrt.one hgs.out (.inl rfl)) (trivial)
        exact MOpsF.done
      case iv0 => exact fun m hm => hI0.out m (hm 8 (by decide))
      case iv3 =>
        intro vs' w9 m hm' hI hf
        have h8 := hm' 8 (by decide)
        obtain ⟨-, -, -, -, -, k6, k7, k8⟩ := hI
        obtain ⟨A2, c2, k0, kO⟩ := k8 h8
        clear hf hm' h8 hI0 hq hqA k8
        rw [hlo.out] at kO
        rw [hbv.out] at k6
        obtain rfl := hgm.out
        obtain rfl := hgv.out
        go_wp2_with fail
        (go_roundw; (case rel => exact ⟨n1 + 1, A2, c2, by omega, by go_num, by rw [hls.out]; exact kO, k0, k6, k7⟩); (case measure => simp [intOf]; omega))
    · have hkn : n1 = vs.length := by omega
      subst hkn
      rw [List.take_length] at hown
      have hgw : w.grownBy wr none := gr_row hg3 hg (fun g e => by injection e; omega)
      have hB2 := hB.ne hg (fun g e1 e2 => by have := hBlt.out g e1; injection e2; omega)
      obtain ⟨x0, y0⟩ := q0.out.gr hg (fun e => by injection e; omega)
      obtain ⟨x1, y1⟩ := q1.out.gr hg (fun e => by injection e; omega)
      obtain ⟨c0, -⟩ := c0
      obtain ⟨c1, -⟩ := c1
      have hltb : w1.heap.size < wr.heap.size := cell_lt c0
      clear hg hcl
      have hlm : (vs.map t).length = vs.length := List.length_map _
      have hR := right_any Aq cq (vs.map t) B' d' fs wr W.heap.size (hown.sl.mono (show W.heap.size ≤ _ by have := hWs.out; omega)) hB2.sl
      rw [hlm] at hR
      replace hR := hide hR
      have hX0 := hide (show Cell wr (w.heap.size + 1) 0 (.slice none 0 0) from ⟨x0, y0⟩)
      have hX1 := hide (show Cell wr (w.heap.size + 1) 1 (.slice none 0 0) from ⟨x1, y1⟩)
      clear x0 y0 x1 y1
      go_wp2_with fail
      refine hR.out.mono ?_
      rintro e w9 ⟨A9, c9, B9, d9, rfl, s1, s2, g9⟩
      obtain ⟨x0, y0⟩ := hX0.out.gr g9 (by simp)
      obtain ⟨x1, y1⟩ := hX1.out.gr g9 (by simp)
      clear hR
      go_wp2_with fail
      have hk := fun (v1 v2 : Value) => gr_set (gr_set (gr_trans hgw g9) (p := ⟨w.heap.size + 1, 0, none⟩) (.inr (Nat.le_succ _)) v1) (p := ⟨w.heap.size + 1, 1, none⟩) (.inr (Nat.le_succ _)) v2
      have hgs := fun (v1 v2 : Value) => gr_set (gr_set (World.grownBy.refl w9 (some (w.heap.size + 1))) (p := ⟨w.heap.size + 1, 0, none⟩) (.inl rfl) v1) (p := ⟨w.heap.size + 1, 1, none⟩) (.inl rfl) v2
      refine bodyPost_ret (v := .tuple #[.agg #[.slice A9 (okM ⟨vs.map t, fs⟩).vs.length c9, .slice B9 (okM ⟨vs.map t, fs⟩).fs.length d9], .int .i64 (meshF ⟨vs.map t, fs⟩)]) (by simp [results, Try.results70, go_sem, x0, x1, y0, y1]) rfl ⟨A9, c9, B9, d9, rfl, ?_, ?_, hk _ _⟩
      · exact (s1.gr (hgs _ _) (fun g e => by injection e; have := hWs.out; omega)).mono (by have := hWs.out; omega)
      · exact (s2.gr (hgs _ _) (fun g e => by injection e; have := hWs.out; omega)).mono (by have := hWs.out; omega)

set_option maxHeartbeats 4000000 in
set_option maxRecDepth 100000 in
theorem madeMove_any (t : V3 → V3) (gq : Nat) (A : Option Addr) (c : Nat) (vs : List V3) (B : Option Addr) (d : Nat) (fs : List Fc) (w : World) (hl : Sl w 0 A vs) (hfs : Sl w 0 B fs) (hvl : vs.length ≤ 1000) (hfl : fs.length ≤ 1000)
    (hcl : Hid (∀ v ∈ vs, ∀ wx, w.grownBy wx none → Calls Try.prog 72 #[.agg #[.int .i64 v.x, .int .i64 v.y, .int .i64 v.z], .pointer (some ⟨gq, 0, none⟩)] wx fun e w' => e = .returned (.agg #[.int .i64 (t v).x, .int .i64 (t v).y, .int .i64 (t v).z]) ∧ wx.grownBy w' none)) :
    Calls Try.prog 70 #[.agg #[.slice A vs.length c, .slice B fs.length d], .func (.func 72) #[] #[.pointer (some ⟨gq, 0, none⟩)]] w (SMeshE w.heap.size (okM ⟨vs.map t, fs⟩) (meshF ⟨vs.map t, fs⟩) w) := by
  have hm := hl.1
  unfold maxLen at hm
  obtain ⟨W, hW⟩ : ∃ W, W = (w.alloc (.cells #[.slice A vs.length c, .slice B fs.length d] 29)).alloc (.cells #[.slice none 0 0, .slice none 0 0] 29) := ⟨_, rfl⟩
  have hlt0 : w.heap.size < w.heap.size + 1 := Nat.lt_succ_self _
  have hWs : W.heap.size = w.heap.size + 1 + 1 := by rw [hW]; simp
  have hg0 : w.grownBy W none := by rw [hW]; exact (by repeat (first | exact World.grownBy.refl _ _ | assumption | refine gr_alloc ?_ _ | (apply gr_tail; assumption) | refine gr_drewN ?_ _ | refine gr_drew ?_))
  have b0 : W.cell? ⟨w.heap.size, 0, none⟩ = some (.slice A vs.length c) := by rw [hW]; go_simp
  have b1 : W.cell? ⟨w.heap.size, 1, none⟩ = some (.slice B fs.length d) := by rw [hW]; go_simp
  have q0 : Cell W (w.heap.size + 1) 0 (.slice none 0 0) := by rw [hW]; exact ⟨by go_simp, by go_simp⟩
  have q1 : Cell W (w.heap.size + 1) 1 (.slice none 0 0) := by rw [hW]; exact ⟨by go_simp, by go_simp⟩
  replace hW := hide hW.symm
  replace hWs := hide hWs
  go_enter Try.func70, Try.ntmps70
  go_wp2_with fail
  rw [hW.out]
  refine (cloneFc_any B d fs W (hfs.pure hg0) (by omega)).mono ?_
  rintro e w1 ⟨B', d', rfl, hB, hg1⟩
  replace b0 := hg1.k b0
  replace q0 := hide (q0.gr hg1 (by simp))
  replace q1 := hide (q1.gr hg1 (by simp))
  have hg2 := gr_trans hg0 hg1
  have hlt1 : w.heap.size + 1 < w1.heap.size := q0.out.lt
  have hlw1 : w.heap.size < w1.heap.size := by omega
  have hlw2 : w.heap.size < w1.heap.size + 1 := by omega
  clear hW hg0
  go_wp2_with fail
  obtain ⟨Wb, hWb⟩ : ∃ Wb, Wb = w1.alloc (.cells #[.slice none 0 0, .slice B' fs.length d'] 29) := ⟨_, rfl⟩
  have hgb : w1.grownBy Wb none := by rw [hWb]; exact gr_alloc (World.grownBy.refl _ _) _
  have m0 : Cell Wb w1.heap.size 0 (.slice none 0 0) := by rw [hWb]; exact Cell.new w1 [.slice none 0 0, .slice B' fs.length d'] 29 0 _ rfl _ rfl
  have m1 : Cell Wb w1.heap.size 1 (.slice B' fs.length d') := by rw [hWb]; exact Cell.new w1 [.slice none 0 0, .slice B' fs.length d'] 29 1 _ rfl _ rfl
  have hWbs : Wb.heap.size = w1.heap.size + 1 := by rw [hWb]; simp
  rw [← hWb]
  clear hWb
  have hg3 := gr_trans hg2 hgb
  replace q0 := hide (q0.out.gr hgb (by simp))
  replace q1 := hide (q1.out.gr hgb (by simp))
  have hBlt := hide (fun g e => (hB.blk_lt (g := g) e))
  replace hB := hB.pure hgb
  have hlw := hg2.size
  go_loopw [16] (fun i wr => ∃ (k : Nat) (Aq : Option Addr) (cq : Nat), k ≤ vs.length ∧ i = .int .i64 k ∧ Own wr Wb.heap.size 49 Aq cq ((vs.take k).map t) ∧ Cell wr w1.heap.size 0 (.slice Aq k cq) ∧ Cell wr w1.heap.size 1 (.slice B' fs.length d') ∧ Wb.grownBy wr (some w1.heap.size)) (fun i _ => vs.length - (intOf i).toNat)
  case atStart => exact ⟨0, none, 0, by omega, rfl, Own.nil _ _ _, m0, m1, World.grownBy.refl _ _⟩
  case round =>
    obtain ⟨n1, Aq, cq, hk, rfl, hown, c0, c1, hg⟩ := hrel
    clear m0 m1
    by_cases hlt : n1 < vs.length
    · have hgw : w.grownBy wr none := gr_row hg3 hg (fun g e => by injection e; omega)
      obtain ⟨g, o, rfl, -, hbg, hcc⟩ := (hl.pure hgw).v3 (by omega)
      obtain ⟨v0, v1, v2⟩ := hcc n1 hlt
      clear hcc
      have hcl1 := fun wx hx => hcl.out vs[n1] (List.getElem_mem hlt) wx hx
      have hls : (vs.take (n1 + 1)).map t = (vs.take n1).map t ++ [t vs[n1]] := by rw [take_snoc hlt, List.map_append]; rfl
      have hq1 : ((vs.take n1).map t).length = n1 := by rw [List.length_map, List.length_take]; omega
      have hn1 : n1 ≤ 1000 := by omega
      generalize vs[n1] = vq at *
      generalize t vq = uq at *
      replace hls := hide hls
      generalize (vs.take n1).map t = lq at *
      have hclo := hide hcl1
      clear hcl1
      replace c0 := hide c0
      replace c1 := hide c1
      replace hq1 := hide hq1
      go_upto_region 5 with fail
      have hal := gr_alloc (r := none) (World.grownBy.refl wr none) (.cells #[.int .i64 vq.x, .int .i64 vq.y, .int .i64 vq.z] 49)
      have hV : VAt (wr.alloc (.cells #[.int .i64 vq.x, .int .i64 vq.y, .int .i64 vq.z] 49)) wr.heap.size vq := ⟨Cell.new wr [.int .i64 vq.x, .int .i64 vq.y, .int .i64 vq.z] 49 0 _ rfl _ rfl, Cell.new wr [.int .i64 vq.x, .int .i64 vq.y, .int .i64 vq.z] 49 1 _ rfl _ rfl, Cell.new wr [.int .i64 vq.x, .int .i64 vq.y, .int .i64 vq.z] 49 2 _ rfl _ rfl⟩
      have hqA0 : ∀ g, blk Aq = some g → g < wr.heap.size := fun g e => (hown.blk_lt e).2
      have hlo2 : wr.heap.size + 1 ≤ (wr.alloc (.cells #[.int .i64 vq.x, .int .i64 vq.y, .int .i64 vq.z] 49)).heap.size := by simp
      have hszb := hg.size
      replace hown := hown.pure hal
      replace c0 := c0.out.gr hal (by simp)
      replace c1 := c1.out.gr hal (by simp)
      replace hg := gr_step hg hal
      replace hgw := gr_trans hgw hal
      generalize (wr.alloc (.cells #[.int .i64 vq.x, .int .i64 vq.y, .int .i64 vq.z] 49)) = wv at *
      clear hal v0 v1 v2 hbg
      generalize hgv : wr.heap.size = gv at *
      generalize hgm : w1.heap.size = gm at *
      obtain ⟨lo, hlo⟩ : ∃ lo, lo = Wb.heap.size := ⟨_, rfl⟩
      obtain ⟨lo2, hlo2e⟩ : ∃ lo2, lo2 = gv + 1 := ⟨_, rfl⟩
      obtain ⟨bv, hbv⟩ : ∃ bv, bv = Value.slice B' fs.length d' := ⟨_, rfl⟩
      have hq : MpOk gm gv lo lo2 Aq w Wb := ⟨by omega, by omega, by omega, by omega, by omega, by omega, fun g e => by have := hqA0 g e; omega⟩
      have hqA : ∀ g, blk Aq = some g → g < lo2 := fun g e => by have := hqA0 g e; omega
      have hgml : gm < lo := by omega
      have hgml2 : gm < lo2 := by omega
      have hlll : lo ≤ wv.heap.size := by omega
      have hlll2 : lo ≤ lo2 := by omega
      have hI0 : ∀ m : Nat → Bool, m 8 = false → MpI gm gv lo lo2 n1 cq Aq lq vq uq bv w Wb m 0 wv.drew := fun m hm => by
        have hd := gr_drew (World.grownBy.refl wv none)
        exact ⟨gr_trans hgw hd, by show lo2 ≤ wv.heap.size; omega, hV.gr hd (by simp), fun _ => by rw [hlo]; exact hown.pure hd, fun _ => c0.gr hd (by simp), by rw [hbv]; exact c1.gr hd (by simp), gr_step hg hd, fun h => by rw [hm] at h; cases h⟩
      replace hI0 := hide hI0
      replace hq := hide hq
      replace hqA := hide hqA
      replace hq1 := hq1.out
      clear hown c0 c1 hg hV hqA0 hgw
      replace hq := hq.out
      replace hqA := hqA.out
      replace hlo := hide hlo
      replace hlo2e := hide hlo2e
      replace hbv := hide hbv
      replace hgv := hide hgv
      replace hgm := hide hgm
      refine wp_region_minvF (MpI gm gv lo lo2 n1 cq Aq lq vq uq bv w Wb) (fun m => Wrt (fun g => g = gm ∨ (m 6 = false ∧ lo ≤ g ∧ g < lo2))) [VIs (.pointer (some ⟨gm, 0, none⟩)), VIs (.slice Aq n1 cq), VIs (.func (.func 72) #[] #[.pointer (some ⟨gq, 0, none⟩)]), VIs (.agg #[.int .i64 vq.x, .int .i64 vq.y, .int .i64 vq.z]), VIs (.agg #[.int .i64 uq.x, .int .i64 uq.y, .int .i64 uq.z]), VOne lo2 uq, VMp lo n1 lq uq, VIs (.pointer (some ⟨gm, 0, none⟩)), (fun _ _ => True)] [0, 0, 0, 0, 0, 0, 0, 0, 0] (by kernel_rfl) (by kernel_rfl) (by intro vs; simp only [putAll, Act.put, List.setIfInBounds_toArray, List.set_cons_zero, List.set_cons_succ, Nat.reduceAdd]; exact rfl) ?iv0 ?iv1 rfl ?iv2 ?iv3
      case iv1 => exact Stab.ok ⟨fun m v w w' _ _ h => h, fun m v w w' _ _ h => h, fun m v w w' _ _ h => h, fun m v w w' _ _ h => h, fun m v w w' _ _ h => h, fun m v w w' _ hw h => h.stab hw (fun g h => by rcases h with h | ⟨_, h1, h2⟩ <;> omega), fun m v w w' hm hw h => h.stab hw (fun g h => by rcases h with h | ⟨h, _⟩ <;> first | omega | (rw [show m 6 = true from hm] at h; cases h)), fun m v w w' _ _ h => h, fun m v w w' _ _ h => h, trivial⟩
      case iv2 =>
        refine MOpsF.op (fun vs wx m k hmj hcl hI hk hf K hK => ?_) ?_
        · clear hf hcl
          replace hK := hide hK
          replace hI := hide hI
          go_wp2_with fail
          replace hK := hK.out (.pointer (some ⟨gm, 0, none⟩))
          simp only [Act.put, List.setIfInBounds_toArray, List.set_cons_zero, List.set_cons_succ, Nat.add_zero] at hK
          exact hK _ ((hI.out.same (by decide) (by decide))) (Wrt.pure (World.grownBy.refl _ _)) (rfl)
        refine MOpsF.op (fun vs wx m k hmj hcl hI hk hf K hK => ?_) ?_
        · have e0 : vs 0 = .pointer (some ⟨gm, 0, none⟩) := hf 0 (by decide) (by kernel_rfl)
          clear hf
          have h8 : m 8 = false := by
            cases hq : m 8 with
            | false => rfl
            | true => exact absurd (hcl 8 1 (by decide) (by decide) hq (by kernel_rfl)) (by rw [show m 1 = false from hmj]; simp)
          have c := (hI.2.2.2.2.1 h8).1
          clear hcl h8
          replace hK := hide hK
          replace hI := hide hI
          rw [e0]
          replace e0 := hide e0
          go_wp2_with fail
          replace hK := hK.out (.slice Aq n1 cq)
          simp only [Act.put, List.setIfInBounds_toArray, List.set_cons_zero, List.set_cons_succ, e0.out, Nat.add_zero] at hK
          exact hK _ ((hI.out.same (by decide) (by decide))) (Wrt.pure (World.grownBy.refl _ _)) (rfl)
        refine MOpsF.op (fun vs wx m k hmj hcl hI hk hf K hK => ?_) ?_
        · clear hf hcl
          replace hK := hide hK
          replace hI := hide hI
          go_wp2_with fail
          replace hK := hK.out (.func (.func 72) #[] #[.pointer (some ⟨gq, 0, none⟩)])
          simp only [Act.put, List.setIfInBounds_toArray, List.set_cons_zero, List.set_cons_succ, Nat.add_zero] at hK
          exact hK _ ((hI.out.same (by decide) (by decide))) (Wrt.pure (World.grownBy.refl _ _)) (rfl)
        refine MOpsF.op (fun vs wx m k hmj hcl hI hk hf K hK => ?_) ?_
        · clear hf hcl
          have hVV := hI.2.2.1
          obtain ⟨⟨z0, -⟩, ⟨z1, -⟩, ⟨z2, -⟩⟩ := hVV
          replace hK := hide hK
          replace hI := hide hI
          go_wp2_with fail
          replace hK := hK.out (.agg #[.int .i64 vq.x, .int .i64 vq.y, .int .i64 vq.z])
          simp only [Act.put, List.setIfInBounds_toArray, List.set_cons_zero, List.set_cons_succ, Nat.add_zero] at hK
          exact hK _ ((hI.out.same (by decide) (by decide))) (Wrt.pure (World.grownBy.refl _ _)) (rfl)
        refine MOpsF.op (fun vs wx m k hmj hcl hI hk hf K hK => ?_) ?_
        · have e2 : vs 2 = .func (.func 72) #[] #[.pointer (some ⟨gq, 0, none⟩)] := hf 2 (by decide) (by kernel_rfl)
          have e3 : vs 3 = .agg #[.int .i64 vq.x, .int .i64 vq.y, .int .i64 vq.z] := hf 3 (by decide) (by kernel_rfl)
          clear hf hcl
          have hCL := hide (hclo.out wx hI.1)
          replace hK := hide hK
          replace hI := hide hI
          rw [e2, e3]
          replace e2 := hide e2
          replace e3 := hide e3
          go_wp2_with fail
          go_at_call 72
          refine hCL.out.mono ?_
          rintro e wy ⟨rfl, hgy⟩
          go_wp2_with fail
          replace hK := hK.out (.agg #[.int .i64 uq.x, .int .i64 uq.y, .int .i64 uq.z])
          simp only [Act.put, List.setIfInBounds_toArray, List.set_cons_zero, List.set_cons_succ, e2.out, e3.out, Nat.add_zero] at hK
          exact hK _ (((hI.out.same (by decide) (by decide)).pure hgy)) (Wrt.pure hgy) (rfl)
        refine MOpsF.op (fun vs wx m k hmj hcl hI hk hf K hK => ?_) ?_
        · have e4 : vs 4 = .agg #[.int .i64 uq.x, .int .i64 uq.y, .int .i64 uq.z] := hf 4 (by decide) (by kernel_rfl)
          clear hf hcl
          replace hK := hide hK
          replace hI := hide hI
          rw [e4]
          replace e4 := hide e4
          go_wp2_with fail
          replace hK := hK.out (.slice (some ⟨wx.heap.size, 0, none⟩) 1 1)
          simp only [Act.put, List.setIfInBounds_toArray, List.set_cons_zero, List.set_cons_succ, e4.out, Nat.add_zero] at hK
          exact hK _ (((hI.out.same (by decide) (by decide)).pure (gr_alloc (World.grownBy.refl _ _) _))) (Wrt.pure (gr_alloc (World.grownBy.refl _ _) _)) (⟨wx.heap.size, rfl, sl_oneAt _ _ _ _ _ _ rfl hI.out.2.1 rfl⟩)
        refine MOpsF.op (fun vs wx m k hmj hcl hI hk hf K hK => ?_) ?_
        · have e1 : vs 1 = .slice Aq n1 cq := hf 1 (by decide) (by kernel_rfl)
          obtain ⟨g5, e5, hsl⟩ := hf 5 (by decide) (by kernel_rfl)
          clear hf
          have h8 : m 8 = false := by
            cases hq : m 8 with
            | false => rfl
            | true => exact absurd (hcl 8 6 (by decide) (by decide) hq (by kernel_rfl)) (by rw [show m 6 = false from hmj]; simp)
          have hown := hI.2.2.2.1 hmj
          obtain ⟨i0, hi, hz, h1, h2⟩ := info_parts info_v3
          replace hK := hide hK
          replace hI := hide hI
          rw [e1, e5]
          replace e1 := hide e1
          replace e5 := hide e5
          refine wp_pushAt (α := V3) _ (.tmp 21) (.tmp 25) _ rfl lo 49 i0 _ 24 Try.underlying26 hi hz h1 h2 rfl _ _ _ lq rfl ?_ hown lo2 ⟨g5, 0, none⟩ 1 1 [uq] rfl ?_ hsl ?_ ?_ ?_ ?_
          · exact hq1.symm
          · rfl
          · simp; omega
          · simp [maxLen]; omega
          · have := hI.out.2.1; omega
          intro A5 c5 w5 hown5 hG5
          simp only [Act.put, List.setIfInBounds_toArray, List.set_cons_zero, List.set_cons_succ]
          replace hK := hK.out (.slice A5 (lq ++ [uq]).length c5)
          simp only [Act.put, List.setIfInBounds_toArray, List.set_cons_zero, List.set_cons_succ, e1.out, e5.out, Nat.add_zero] at hK
          exact hK _ ((hI.out.app hq (show m 6 = false from hmj) h8 hG5 hown)) (⟨_, hG5.1, fun g e => .inr ⟨hmj, (hown.blk_lt e).1, hqA g e⟩⟩) (⟨A5, c5, by rw [List.length_append, hq1]; rfl, hown5⟩)
        refine MOpsF.op (fun vs wx m k hmj hcl hI hk hf K hK => ?_) ?_
        · clear hf hcl
          replace hK := hide hK
          replace hI := hide hI
          go_wp2_with fail
          replace hK := hK.out (.pointer (some ⟨gm, 0, none⟩))
          simp only [Act.put, List.setIfInBounds_toArray, List.set_cons_zero, List.set_cons_succ, Nat.add_zero] at hK
          exact hK _ ((hI.out.same (by decide) (by decide))) (Wrt.pure (World.grownBy.refl _ _)) (rfl)
        refine MOpsF.op (fun vs wx m k hmj hcl hI hk hf K hK => ?_) ?_
        · have e7 : vs 7 = .pointer (some ⟨gm, 0, none⟩) := hf 7 (by decide) (by kernel_rfl)
          obtain ⟨A6, c6, e6, ho6⟩ := hf 6 (by decide) (by kernel_rfl)
          clear hf hcl
          have c := hI.2.2.2.2.1 hmj
          obtain ⟨c, fz⟩ := c
          have hgs := gr_set (World.grownBy.refl wx (some gm)) (p := ⟨gm, 0, none⟩) (.inl rfl) (.slice A6 (n1 + 1) c6)
          replace hgs := hide hgs
          replace ho6 := hide ho6
          replace hK := hide hK
          replace hI := hide hI
          rw [e7, e6]
          replace e7 := hide e7
          replace e6 := hide e6
          go_wp2_with fail
          replace hK := hK.out (undef)
          simp only [Act.put, List.setIfInBounds_toArray, List.set_cons_zero, List.set_cons_succ, e7.out, e6.out, Nat.add_zero] at hK
          exact hK _ ((hI.out.fin hq ⟨c, fz⟩ ho6.out)) (Wrt.one hgs.out (.inl rfl)) (trivial)
        exact MOpsF.done
      case iv0 => exact fun m hm => hI0.out m (hm 8 (by decide))
      case iv3 =>
        intro vs' w9 m hm' hI hf
        have h8 := hm' 8 (by decide)
        obtain ⟨-, -, -, -, -, k6, k7, k8⟩ := hI
        obtain ⟨A2, c2, k0, kO⟩ := k8 h8
        clear hf hm' h8 hI0 hq hqA k8
        rw [hlo.out] at kO
        rw [hbv.out] at k6
        obtain rfl := hgm.out
        obtain rfl := hgv.out
        go_wp2_with fail
        (go_roundw; (case rel => exact ⟨n1 + 1, A2, c2, by omega, by go_num, by rw [hls.out]; exact kO, k0, k6, k7⟩); (case measure => simp [intOf]; omega))
    · have hkn : n1 = vs.length := by omega
      subst hkn
      rw [List.take_length] at hown
      have hgw : w.grownBy wr none := gr_row hg3 hg (fun g e => by injection e; omega)
      have hB2 := hB.ne hg (fun g e1 e2 => by have := hBlt.out g e1; injection e2; omega)
      obtain ⟨x0, y0⟩ := q0.out.gr hg (fun e => by injection e; omega)
      obtain ⟨x1, y1⟩ := q1.out.gr hg (fun e => by injection e; omega)
      obtain ⟨c0, -⟩ := c0
      obtain ⟨c1, -⟩ := c1
      have hltb : w1.heap.size < wr.heap.size := cell_lt c0
      clear hg hcl
      have hlm : (vs.map t).length = vs.length := List.length_map _
      have hR := right_any Aq cq (vs.map t) B' d' fs wr W.heap.size (hown.sl.mono (show W.heap.size ≤ _ by have := hWs.out; omega)) hB2.sl
      rw [hlm] at hR
      replace hR := hide hR
      have hX0 := hide (show Cell wr (w.heap.size + 1) 0 (.slice none 0 0) from ⟨x0, y0⟩)
      have hX1 := hide (show Cell wr (w.heap.size + 1) 1 (.slice none 0 0) from ⟨x1, y1⟩)
      clear x0 y0 x1 y1
      go_wp2_with fail
      refine hR.out.mono ?_
      rintro e w9 ⟨A9, c9, B9, d9, rfl, s1, s2, g9⟩
      obtain ⟨x0, y0⟩ := hX0.out.gr g9 (by simp)
      obtain ⟨x1, y1⟩ := hX1.out.gr g9 (by simp)
      clear hR
      go_wp2_with fail
      have hk := fun (v1 v2 : Value) => gr_set (gr_set (gr_trans hgw g9) (p := ⟨w.heap.size + 1, 0, none⟩) (.inr (Nat.le_succ _)) v1) (p := ⟨w.heap.size + 1, 1, none⟩) (.inr (Nat.le_succ _)) v2
      have hgs := fun (v1 v2 : Value) => gr_set (gr_set (World.grownBy.refl w9 (some (w.heap.size + 1))) (p := ⟨w.heap.size + 1, 0, none⟩) (.inl rfl) v1) (p := ⟨w.heap.size + 1, 1, none⟩) (.inl rfl) v2
      refine bodyPost_ret (v := .tuple #[.agg #[.slice A9 (okM ⟨vs.map t, fs⟩).vs.length c9, .slice B9 (okM ⟨vs.map t, fs⟩).fs.length d9], .int .i64 (meshF ⟨vs.map t, fs⟩)]) (by simp [results, Try.results70, go_sem, x0, x1, y0, y1]) rfl ⟨A9, c9, B9, d9, rfl, ?_, ?_, hk _ _⟩
      · exact (s1.gr (hgs _ _) (fun g e => by injection e; have := hWs.out; omega)).mono (by have := hWs.out; omega)
      · exact (s2.gr (hgs _ _) (fun g e => by injection e; have := hWs.out; omega)).mono (by have := hWs.out; omega)

set_option maxHeartbeats 4000000 in
set_option maxRecDepth 100000 in
theorem madeMir_any (t : V3 → V3) (gq : Nat) (A : Option Addr) (c : Nat) (vs : List V3) (B : Option Addr) (d : Nat) (fs : List Fc) (w : World) (hl : Sl w 0 A vs) (hfs : Sl w 0 B fs) (hvl : vs.length ≤ 1000) (hfl : fs.length ≤ 1000)
    (hcl : Hid (∀ v ∈ vs, ∀ wx, w.grownBy wx none → Calls Try.prog 74 #[.agg #[.int .i64 v.x, .int .i64 v.y, .int .i64 v.z], .pointer (some ⟨gq, 0, none⟩)] wx fun e w' => e = .returned (.agg #[.int .i64 (t v).x, .int .i64 (t v).y, .int .i64 (t v).z]) ∧ wx.grownBy w' none)) :
    Calls Try.prog 70 #[.agg #[.slice A vs.length c, .slice B fs.length d], .func (.func 74) #[] #[.pointer (some ⟨gq, 0, none⟩)]] w (SMeshE w.heap.size (okM ⟨vs.map t, fs⟩) (meshF ⟨vs.map t, fs⟩) w) := by
  have hm := hl.1
  unfold maxLen at hm
  obtain ⟨W, hW⟩ : ∃ W, W = (w.alloc (.cells #[.slice A vs.length c, .slice B fs.length d] 29)).alloc (.cells #[.slice none 0 0, .slice none 0 0] 29) := ⟨_, rfl⟩
  have hlt0 : w.heap.size < w.heap.size + 1 := Nat.lt_succ_self _
  have hWs : W.heap.size = w.heap.size + 1 + 1 := by rw [hW]; simp
  have hg0 : w.grownBy W none := by rw [hW]; exact (by repeat (first | exact World.grownBy.refl _ _ | assumption | refine gr_alloc ?_ _ | (apply gr_tail; assumption) | refine gr_drewN ?_ _ | refine gr_drew ?_))
  have b0 : W.cell? ⟨w.heap.size, 0, none⟩ = some (.slice A vs.length c) := by rw [hW]; go_simp
  have b1 : W.cell? ⟨w.heap.size, 1, none⟩ = some (.slice B fs.length d) := by rw [hW]; go_simp
  have q0 : Cell W (w.heap.size + 1) 0 (.slice none 0 0) := by rw [hW]; exact ⟨by go_simp, by go_simp⟩
  have q1 : Cell W (w.heap.size + 1) 1 (.slice none 0 0) := by rw [hW]; exact ⟨by go_simp, by go_simp⟩
  replace hW := hide hW.symm
  replace hWs := hide hWs
  go_enter Try.func70, Try.ntmps70
  go_wp2_with fail
  rw [hW.out]
  refine (cloneFc_any B d fs W (hfs.pure hg0) (by omega)).mono ?_
  rintro e w1 ⟨B', d', rfl, hB, hg1⟩
  replace b0 := hg1.k b0
  replace q0 := hide (q0.gr hg1 (by simp))
  replace q1 := hide (q1.gr hg1 (by simp))
  have hg2 := gr_trans hg0 hg1
  have hlt1 : w.heap.size + 1 < w1.heap.size := q0.out.lt
  have hlw1 : w.heap.size < w1.heap.size := by omega
  have hlw2 : w.heap.size < w1.heap.size + 1 := by omega
  clear hW hg0
  go_wp2_with fail
  obtain ⟨Wb, hWb⟩ : ∃ Wb, Wb = w1.alloc (.cells #[.slice none 0 0, .slice B' fs.length d'] 29) := ⟨_, rfl⟩
  have hgb : w1.grownBy Wb none := by rw [hWb]; exact gr_alloc (World.grownBy.refl _ _) _
  have m0 : Cell Wb w1.heap.size 0 (.slice none 0 0) := by rw [hWb]; exact Cell.new w1 [.slice none 0 0, .slice B' fs.length d'] 29 0 _ rfl _ rfl
  have m1 : Cell Wb w1.heap.size 1 (.slice B' fs.length d') := by rw [hWb]; exact Cell.new w1 [.slice none 0 0, .slice B' fs.length d'] 29 1 _ rfl _ rfl
  have hWbs : Wb.heap.size = w1.heap.size + 1 := by rw [hWb]; simp
  rw [← hWb]
  clear hWb
  have hg3 := gr_trans hg2 hgb
  replace q0 := hide (q0.out.gr hgb (by simp))
  replace q1 := hide (q1.out.gr hgb (by simp))
  have hBlt := hide (fun g e => (hB.blk_lt (g := g) e))
  replace hB := hB.pure hgb
  have hlw := hg2.size
  go_loopw [16] (fun i wr => ∃ (k : Nat) (Aq : Option Addr) (cq : Nat), k ≤ vs.length ∧ i = .int .i64 k ∧ Own wr Wb.heap.size 49 Aq cq ((vs.take k).map t) ∧ Cell wr w1.heap.size 0 (.slice Aq k cq) ∧ Cell wr w1.heap.size 1 (.slice B' fs.length d') ∧ Wb.grownBy wr (some w1.heap.size)) (fun i _ => vs.length - (intOf i).toNat)
  case atStart => exact ⟨0, none, 0, by omega, rfl, Own.nil _ _ _, m0, m1, World.grownBy.refl _ _⟩
  case round =>
    obtain ⟨n1, Aq, cq, hk, rfl, hown, c0, c1, hg⟩ := hrel
    clear m0 m1
    by_cases hlt : n1 < vs.length
    · have hgw : w.grownBy wr none := gr_row hg3 hg (fun g e => by injection e; omega)
      obtain ⟨g, o, rfl, -, hbg, hcc⟩ := (hl.pure hgw).v3 (by omega)
      obtain ⟨v0, v1, v2⟩ := hcc n1 hlt
      clear hcc
      have hcl1 := fun wx hx => hcl.out vs[n1] (List.getElem_mem hlt) wx hx
      have hls : (vs.take (n1 + 1)).map t = (vs.take n1).map t ++ [t vs[n1]] := by rw [take_snoc hlt, List.map_append]; rfl
      have hq1 : ((vs.take n1).map t).length = n1 := by rw [List.length_map, List.length_take]; omega
      have hn1 : n1 ≤ 1000 := by omega
      generalize vs[n1] = vq at *
      generalize t vq = uq at *
      replace hls := hide hls
      generalize (vs.take n1).map t = lq at *
      have hclo := hide hcl1
      clear hcl1
      replace c0 := hide c0
      replace c1 := hide c1
      replace hq1 := hide hq1
      go_upto_region 5 with fail
      have hal := gr_alloc (r := none) (World.grownBy.refl wr none) (.cells #[.int .i64 vq.x, .int .i64 vq.y, .int .i64 vq.z] 49)
      have hV : VAt (wr.alloc (.cells #[.int .i64 vq.x, .int .i64 vq.y, .int .i64 vq.z] 49)) wr.heap.size vq := ⟨Cell.new wr [.int .i64 vq.x, .int .i64 vq.y, .int .i64 vq.z] 49 0 _ rfl _ rfl, Cell.new wr [.int .i64 vq.x, .int .i64 vq.y, .int .i64 vq.z] 49 1 _ rfl _ rfl, Cell.new wr [.int .i64 vq.x, .int .i64 vq.y, .int .i64 vq.z] 49 2 _ rfl _ rfl⟩
      have hqA0 : ∀ g, blk Aq = some g → g < wr.heap.size := fun g e => (hown.blk_lt e).2
      have hlo2 : wr.heap.size + 1 ≤ (wr.alloc (.cells #[.int .i64 vq.x, .int .i64 vq.y, .int .i64 vq.z] 49)).heap.size := by simp
      have hszb := hg.size
      replace hown := hown.pure hal
      replace c0 := c0.out.gr hal (by simp)
      replace c1 := c1.out.gr hal (by simp)
      replace hg := gr_step hg hal
      replace hgw := gr_trans hgw hal
      generalize (wr.alloc (.cells #[.int .i64 vq.x, .int .i64 vq.y, .int .i64 vq.z] 49)) = wv at *
      clear hal v0 v1 v2 hbg
      generalize hgv : wr.heap.size = gv at *
      generalize hgm : w1.heap.size = gm at *
      obtain ⟨lo, hlo⟩ : ∃ lo, lo = Wb.heap.size := ⟨_, rfl⟩
      obtain ⟨lo2, hlo2e⟩ : ∃ lo2, lo2 = gv + 1 := ⟨_, rfl⟩
      obtain ⟨bv, hbv⟩ : ∃ bv, bv = Value.slice B' fs.length d' := ⟨_, rfl⟩
      have hq : MpOk gm gv lo lo2 Aq w Wb := ⟨by omega, by omega, by omega, by omega, by omega, by omega, fun g e => by have := hqA0 g e; omega⟩
      have hqA : ∀ g, blk Aq = some g → g < lo2 := fun g e => by have := hqA0 g e; omega
      have hgml : gm < lo := by omega
      have hgml2 : gm < lo2 := by omega
      have hlll : lo ≤ wv.heap.size := by omega
      have hlll2 : lo ≤ lo2 := by omega
      have hI0 : ∀ m : Nat → Bool, m 8 = false → MpI gm gv lo lo2 n1 cq Aq lq vq uq bv w Wb m 0 wv.drew := fun m hm => by
        have hd := gr_drew (World.grownBy.refl wv none)
        exact ⟨gr_trans hgw hd, by show lo2 ≤ wv.heap.size; omega, hV.gr hd (by simp), fun _ => by rw [hlo]; exact hown.pure hd, fun _ => c0.gr hd (by simp), by rw [hbv]; exact c1.gr hd (by simp), gr_step hg hd, fun h => by rw [hm] at h; cases h⟩
      replace hI0 := hide hI0
      replace hq := hide hq
      replace hqA := hide hqA
      replace hq1 := hq1.out
      clear hown c0 c1 hg hV hqA0 hgw
      replace hq := hq.out
      replace hqA := hqA.out
      replace hlo := hide hlo
      replace hlo2e := hide hlo2e
      replace hbv := hide hbv
      replace hgv := hide hgv
      replace hgm := hide hgm
      refine wp_region_minvF (MpI gm gv lo lo2 n1 cq Aq lq vq uq bv w Wb) (fun m => Wrt (fun g => g = gm ∨ (m 6 = false ∧ lo ≤ g ∧ g < lo2))) [VIs (.pointer (some ⟨gm, 0, none⟩)), VIs (.slice Aq n1 cq), VIs (.func (.func 74) #[] #[.pointer (some ⟨gq, 0, none⟩)]), VIs (.agg #[.int .i64 vq.x, .int .i64 vq.y, .int .i64 vq.z]), VIs (.agg #[.int .i64 uq.x, .int .i64 uq.y, .int .i64 uq.z]), VOne lo2 uq, VMp lo n1 lq uq, VIs (.pointer (some ⟨gm, 0, none⟩)), (fun _ _ => True)] [0, 0, 0, 0, 0, 0, 0, 0, 0] (by kernel_rfl) (by kernel_rfl) (by intro vs; simp only [putAll, Act.put, List.setIfInBounds_toArray, List.set_cons_zero, List.set_cons_succ, Nat.reduceAdd]; exact rfl) ?iv0 ?iv1 rfl ?iv2 ?iv3
      case iv1 => exact Stab.ok ⟨fun m v w w' _ _ h => h, fun m v w w' _ _ h => h, fun m v w w' _ _ h => h, fun m v w w' _ _ h => h, fun m v w w' _ _ h => h, fun m v w w' _ hw h => h.stab hw (fun g h => by rcases h with h | ⟨_, h1, h2⟩ <;> omega), fun m v w w' hm hw h => h.stab hw (fun g h => by rcases h with h | ⟨h, _⟩ <;> first | omega | (rw [show m 6 = true from hm] at h; cases h)), fun m v w w' _ _ h => h, fun m v w w' _ _ h => h, trivial⟩
      case iv2 =>
        refine MOpsF.op (fun vs wx m k hmj hcl hI hk hf K hK => ?_) ?_
        · clear hf hcl
          replace hK := hide hK
          replace hI := hide hI
          go_wp2_with fail
          replace hK := hK.out (.pointer (some ⟨gm, 0, none⟩))
          simp only [Act.put, List.setIfInBounds_toArray, List.set_cons_zero, List.set_cons_succ, Nat.add_zero] at hK
          exact hK _ ((hI.out.same (by decide) (by decide))) (Wrt.pure (World.grownBy.refl _ _)) (rfl)
        refine MOpsF.op (fun vs wx m k hmj hcl hI hk hf K hK => ?_) ?_
        · have e0 : vs 0 = .pointer (some ⟨gm, 0, none⟩) := hf 0 (by decide) (by kernel_rfl)
          clear hf
          have h8 : m 8 = false := by
            cases hq : m 8 with
            | false => rfl
            | true => exact absurd (hcl 8 1 (by decide) (by decide) hq (by kernel_rfl)) (by rw [show m 1 = false from hmj]; simp)
          have c := (hI.2.2.2.2.1 h8).1
          clear hcl h8
          replace hK := hide hK
          replace hI := hide hI
          rw [e0]
          replace e0 := hide e0
          go_wp2_with fail
          replace hK := hK.out (.slice Aq n1 cq)
          simp only [Act.put, List.setIfInBounds_toArray, List.set_cons_zero, List.set_cons_succ, e0.out, Nat.add_zero] at hK
          exact hK _ ((hI.out.same (by decide) (by decide))) (Wrt.pure (World.grownBy.refl _ _)) (rfl)
        refine MOpsF.op (fun vs wx m k hmj hcl hI hk hf K hK => ?_) ?_
        · clear hf hcl
          replace hK := hide hK
          replace hI := hide hI
          go_wp2_with fail
          replace hK := hK.out (.func (.func 74) #[] #[.pointer (some ⟨gq, 0, none⟩)])
          simp only [Act.put, List.setIfInBounds_toArray, List.set_cons_zero, List.set_cons_succ, Nat.add_zero] at hK
          exact hK _ ((hI.out.same (by decide) (by decide))) (Wrt.pure (World.grownBy.refl _ _)) (rfl)
        refine MOpsF.op (fun vs wx m k hmj hcl hI hk hf K hK => ?_) ?_
        · clear hf hcl
          have hVV := hI.2.2.1
          obtain ⟨⟨z0, -⟩, ⟨z1, -⟩, ⟨z2, -⟩⟩ := hVV
          replace hK := hide hK
          replace hI := hide hI
          go_wp2_with fail
          replace hK := hK.out (.agg #[.int .i64 vq.x, .int .i64 vq.y, .int .i64 vq.z])
          simp only [Act.put, List.setIfInBounds_toArray, List.set_cons_zero, List.set_cons_succ, Nat.add_zero] at hK
          exact hK _ ((hI.out.same (by decide) (by decide))) (Wrt.pure (World.grownBy.refl _ _)) (rfl)
        refine MOpsF.op (fun vs wx m k hmj hcl hI hk hf K hK => ?_) ?_
        · have e2 : vs 2 = .func (.func 74) #[] #[.pointer (some ⟨gq, 0, none⟩)] := hf 2 (by decide) (by kernel_rfl)
          have e3 : vs 3 = .agg #[.int .i64 vq.x, .int .i64 vq.y, .int .i64 vq.z] := hf 3 (by decide) (by kernel_rfl)
          clear hf hcl
          have hCL := hide (hclo.out wx hI.1)
          replace hK := hide hK
          replace hI := hide hI
          rw [e2, e3]
          replace e2 := hide e2
          replace e3 := hide e3
          go_wp2_with fail
          go_at_call 74
          refine hCL.out.mono ?_
          rintro e wy ⟨rfl, hgy⟩
          go_wp2_with fail
          replace hK := hK.out (.agg #[.int .i64 uq.x, .int .i64 uq.y, .int .i64 uq.z])
          simp only [Act.put, List.setIfInBounds_toArray, List.set_cons_zero, List.set_cons_succ, e2.out, e3.out, Nat.add_zero] at hK
          exact hK _ (((hI.out.same (by decide) (by decide)).pure hgy)) (Wrt.pure hgy) (rfl)
        refine MOpsF.op (fun vs wx m k hmj hcl hI hk hf K hK => ?_) ?_
        · have e4 : vs 4 = .agg #[.int .i64 uq.x, .int .i64 uq.y, .int .i64 uq.z] := hf 4 (by decide) (by kernel_rfl)
          clear hf hcl
          replace hK := hide hK
          replace hI := hide hI
          rw [e4]
          replace e4 := hide e4
          go_wp2_with fail
          replace hK := hK.out (.slice (some ⟨wx.heap.size, 0, none⟩) 1 1)
          simp only [Act.put, List.setIfInBounds_toArray, List.set_cons_zero, List.set_cons_succ, e4.out, Nat.add_zero] at hK
          exact hK _ (((hI.out.same (by decide) (by decide)).pure (gr_alloc (World.grownBy.refl _ _) _))) (Wrt.pure (gr_alloc (World.grownBy.refl _ _) _)) (⟨wx.heap.size, rfl, sl_oneAt _ _ _ _ _ _ rfl hI.out.2.1 rfl⟩)
        refine MOpsF.op (fun vs wx m k hmj hcl hI hk hf K hK => ?_) ?_
        · have e1 : vs 1 = .slice Aq n1 cq := hf 1 (by decide) (by kernel_rfl)
          obtain ⟨g5, e5, hsl⟩ := hf 5 (by decide) (by kernel_rfl)
          clear hf
          have h8 : m 8 = false := by
            cases hq : m 8 with
            | false => rfl
            | true => exact absurd (hcl 8 6 (by decide) (by decide) hq (by kernel_rfl)) (by rw [show m 6 = false from hmj]; simp)
          have hown := hI.2.2.2.1 hmj
          obtain ⟨i0, hi, hz, h1, h2⟩ := info_parts info_v3
          replace hK := hide hK
          replace hI := hide hI
          rw [e1, e5]
          replace e1 := hide e1
          replace e5 := hide e5
          refine wp_pushAt (α := V3) _ (.tmp 21) (.tmp 25) _ rfl lo 49 i0 _ 24 Try.underlying26 hi hz h1 h2 rfl _ _ _ lq rfl ?_ hown lo2 ⟨g5, 0, none⟩ 1 1 [uq] rfl ?_ hsl ?_ ?_ ?_ ?_
          · exact hq1.symm
          · rfl
          · simp; omega
          · simp [maxLen]; omega
          · have := hI.out.2.1; omega
          intro A5 c5 w5 hown5 hG5
          simp only [Act.put, List.setIfInBounds_toArray, List.set_cons_zero, List.set_cons_succ]
          replace hK := hK.out (.slice A5 (lq ++ [uq]).length c5)
          simp only [Act.put, List.setIfInBounds_toArray, List.set_cons_zero, List.set_cons_succ, e1.out, e5.out, Nat.add_zero] at hK
          exact hK _ ((hI.out.app hq (show m 6 = false from hmj) h8 hG5 hown)) (⟨_, hG5.1, fun g e => .inr ⟨hmj, (hown.blk_lt e).1, hqA g e⟩⟩) (⟨A5, c5, by rw [List.length_append, hq1]; rfl, hown5⟩)
        refine MOpsF.op (fun vs wx m k hmj hcl hI hk hf K hK => ?_) ?_
        · clear hf hcl
          replace hK := hide hK
          replace hI := hide hI
          go_wp2_with fail
          replace hK := hK.out (.pointer (some ⟨gm, 0, none⟩))
          simp only [Act.put, List.setIfInBounds_toArray, List.set_cons_zero, List.set_cons_succ, Nat.add_zero] at hK
          exact hK _ ((hI.out.same (by decide) (by decide))) (Wrt.pure (World.grownBy.refl _ _)) (rfl)
        refine MOpsF.op (fun vs wx m k hmj hcl hI hk hf K hK => ?_) ?_
        · have e7 : vs 7 = .pointer (some ⟨gm, 0, none⟩) := hf 7 (by decide) (by kernel_rfl)
          obtain ⟨A6, c6, e6, ho6⟩ := hf 6 (by decide) (by kernel_rfl)
          clear hf hcl
          have c := hI.2.2.2.2.1 hmj
          obtain ⟨c, fz⟩ := c
          have hgs := gr_set (World.grownBy.refl wx (some gm)) (p := ⟨gm, 0, none⟩) (.inl rfl) (.slice A6 (n1 + 1) c6)
          replace hgs := hide hgs
          replace ho6 := hide ho6
          replace hK := hide hK
          replace hI := hide hI
          rw [e7, e6]
          replace e7 := hide e7
          replace e6 := hide e6
          go_wp2_with fail
          replace hK := hK.out (undef)
          simp only [Act.put, List.setIfInBounds_toArray, List.set_cons_zero, List.set_cons_succ, e7.out, e6.out, Nat.add_zero] at hK
          exact hK _ ((hI.out.fin hq ⟨c, fz⟩ ho6.out)) (Wrt.one hgs.out (.inl rfl)) (trivial)
        exact MOpsF.done
      case iv0 => exact fun m hm => hI0.out m (hm 8 (by decide))
      case iv3 =>
        intro vs' w9 m hm' hI hf
        have h8 := hm' 8 (by decide)
        obtain ⟨-, -, -, -, -, k6, k7, k8⟩ := hI
        obtain ⟨A2, c2, k0, kO⟩ := k8 h8
        clear hf hm' h8 hI0 hq hqA k8
        rw [hlo.out] at kO
        rw [hbv.out] at k6
        obtain rfl := hgm.out
        obtain rfl := hgv.out
        go_wp2_with fail
        (go_roundw; (case rel => exact ⟨n1 + 1, A2, c2, by omega, by go_num, by rw [hls.out]; exact kO, k0, k6, k7⟩); (case measure => simp [intOf]; omega))
    · have hkn : n1 = vs.length := by omega
      subst hkn
      rw [List.take_length] at hown
      have hgw : w.grownBy wr none := gr_row hg3 hg (fun g e => by injection e; omega)
      have hB2 := hB.ne hg (fun g e1 e2 => by have := hBlt.out g e1; injection e2; omega)
      obtain ⟨x0, y0⟩ := q0.out.gr hg (fun e => by injection e; omega)
      obtain ⟨x1, y1⟩ := q1.out.gr hg (fun e => by injection e; omega)
      obtain ⟨c0, -⟩ := c0
      obtain ⟨c1, -⟩ := c1
      have hltb : w1.heap.size < wr.heap.size := cell_lt c0
      clear hg hcl
      have hlm : (vs.map t).length = vs.length := List.length_map _
      have hR := right_any Aq cq (vs.map t) B' d' fs wr W.heap.size (hown.sl.mono (show W.heap.size ≤ _ by have := hWs.out; omega)) hB2.sl
      rw [hlm] at hR
      replace hR := hide hR
      have hX0 := hide (show Cell wr (w.heap.size + 1) 0 (.slice none 0 0) from ⟨x0, y0⟩)
      have hX1 := hide (show Cell wr (w.heap.size + 1) 1 (.slice none 0 0) from ⟨x1, y1⟩)
      clear x0 y0 x1 y1
      go_wp2_with fail
      refine hR.out.mono ?_
      rintro e w9 ⟨A9, c9, B9, d9, rfl, s1, s2, g9⟩
      obtain ⟨x0, y0⟩ := hX0.out.gr g9 (by simp)
      obtain ⟨x1, y1⟩ := hX1.out.gr g9 (by simp)
      clear hR
      go_wp2_with fail
      have hk := fun (v1 v2 : Value) => gr_set (gr_set (gr_trans hgw g9) (p := ⟨w.heap.size + 1, 0, none⟩) (.inr (Nat.le_succ _)) v1) (p := ⟨w.heap.size + 1, 1, none⟩) (.inr (Nat.le_succ _)) v2
      have hgs := fun (v1 v2 : Value) => gr_set (gr_set (World.grownBy.refl w9 (some (w.heap.size + 1))) (p := ⟨w.heap.size + 1, 0, none⟩) (.inl rfl) v1) (p := ⟨w.heap.size + 1, 1, none⟩) (.inl rfl) v2
      refine bodyPost_ret (v := .tuple #[.agg #[.slice A9 (okM ⟨vs.map t, fs⟩).vs.length c9, .slice B9 (okM ⟨vs.map t, fs⟩).fs.length d9], .int .i64 (meshF ⟨vs.map t, fs⟩)]) (by simp [results, Try.results70, go_sem, x0, x1, y0, y1]) rfl ⟨A9, c9, B9, d9, rfl, ?_, ?_, hk _ _⟩
      · exact (s1.gr (hgs _ _) (fun g e => by injection e; have := hWs.out; omega)).mono (by have := hWs.out; omega)
      · exact (s2.gr (hgs _ _) (fun g e => by injection e; have := hWs.out; omega)).mono (by have := hWs.out; omega)

end Go.Proofs.Ytjodjdjfagjiaaa

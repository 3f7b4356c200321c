/- Contracts of functions that this seat's laws reach, each: what one call returns and what it leaves in memory; no condition beyond each theorem's own hypotheses. -/
import Derived.Test.YtgcfaamgilbjdaaGreatDoorZqBegP
import Derived.Test.YtgcfaamgilbjdaaGreatDoorZqGrS
set_option linter.unusedVariables false
set_option linter.unusedSimpArgs false
namespace Go.Bl
open Go

def byL (C : List Chc) (lf : List Int) (at_ : Pt) (k : Nat) : Option Int := some (distP at_ (C.getD k default).a + lf.getD k 0)

end Go.Bl
namespace Go.Proofs.YtgcfaamgilbjdaaGreatDoor
open Go Go.RowKit Go.Bl

set_option maxHeartbeats 4000000 in
set_option maxRecDepth 100000 in
theorem nearestL_any (A B : Option Addr) (ca cb : Nat) (C : List Chc) (lf : List Int) (at_ : Pt) (w : World) (hA : Sl w 0 A C) (hB : Sl w 0 B lf) (hll : lf.length = C.length) (hst : near at_) (hC : ∀ c ∈ C, near c.a) (hlf : ∀ x ∈ lf, 0 ≤ x ∧ x ≤ 100000000) :
    Calls Tryz.prog 23 #[.agg #[.int .i64 at_.x, .int .i64 at_.y], .slice A C.length ca, .slice B lf.length cb] w fun e w' => e = .returned (.agg #[.int .i64 (nxI (fmin (byL C lf at_) C.length)), .int .i64 (nxV (fmin (byL C lf at_) C.length))]) ∧ w.grownBy w' none := by
  have hal := hA.1
  unfold maxLen at hal
  replace hlf := hide hlf
  replace hC := hide hC
  replace hll := hide hll
  go_enter Tryz.func23, Tryz.ntmps23
  go_upto_region 2 with fail
  obtain ⟨w3, hw3⟩ : ∃ x, x = w.alloc (.cells #[.int .i64 at_.x, .int .i64 at_.y] 28) := ⟨_, rfl⟩
  have hb3 : Box w3 w.heap.size 28 [.int .i64 at_.x, .int .i64 at_.y] := by rw [hw3]; exact Box.new _ _ _
  have hg3 : w.grownBy w3 none := by rw [hw3]; exact gr_alloc (World.grownBy.refl _ _) _
  have hz3 : w.heap.size + 1 = w3.heap.size := by rw [hw3]; simp
  obtain ⟨w6, hw6⟩ : ∃ x, x = w3.alloc (.cells #[.int .i64 0, .int .i64 0] 69) := ⟨_, rfl⟩
  have hb6 : Box w6 w3.heap.size 69 [.int .i64 0, .int .i64 0] := by rw [hw6]; exact Box.new _ _ _
  have hg6 : w3.grownBy w6 none := by rw [hw6]; exact gr_alloc (World.grownBy.refl _ _) _
  have hz6 : w3.heap.size + 1 = w6.heap.size := by rw [hw6]; simp
  obtain ⟨w7, hw7⟩ : ∃ x, x = w6.alloc (.cells #[.int .i64 (-1), .int .i64 0] 69) := ⟨_, rfl⟩
  have hb7 : Box w7 w6.heap.size 69 [.int .i64 (-1), .int .i64 0] := by rw [hw7]; exact Box.new _ _ _
  have hg7 : w6.grownBy w7 none := by rw [hw7]; exact gr_alloc (World.grownBy.refl _ _) _
  rw [← hw3, ← hw6, ← hw7, hz3, hz6]
  have hx3 := hb3.lt
  have hx6 := hb6.lt
  have hx7 := hb7.lt
  clear hw3 hw6 hw7
  replace hb3 := hb3.pure (hg6.t hg7)
  replace hb6 := hb6.pure hg7
  have hgw := hg3.t (hg6.t hg7)
  obtain ⟨x3, e3⟩ : ∃ x, x = w.heap.size := ⟨_, rfl⟩
  obtain ⟨x6, e6⟩ : ∃ x, x = w3.heap.size := ⟨_, rfl⟩
  obtain ⟨x7, e7⟩ : ∃ x, x = w6.heap.size := ⟨_, rfl⟩
  rw [← e3] at hb3 hx3
  rw [← e6] at hb6 hx6
  rw [← e7] at hb7 hx7
  rw [← e3, ← e6, ← e7]
  have h37 : x3 < x7 ∧ x6 < x7 := by omega
  have hw7x : w.heap.size ≤ x7 ∧ w.heap.size ≤ x6 := by omega
  clear e3 e6 e7 hz3 hz6 hx3 hx6 hg3 hg6 hg7
  go_wp2_with fail
  go_loopw [14] (fun i wr => ∃ (q : Nat) (ac : Option (Nat × Int)), q ≤ C.length ∧ i = .int .i64 q ∧ Hid (ac = fmin (byL C lf at_) q) ∧ Box wr x7 69 [.int .i64 (nxI ac), .int .i64 (nxV ac)] ∧ GrS (fun x => x = x7) w7 wr) (fun i _ => C.length - (intOf i).toNat)
  case atStart => exact ⟨0, none, Nat.zero_le _, rfl, rfl, hb7, GrS.refl _ _⟩
  case round =>
    clear hb7
    obtain ⟨q, ac, hq, rfl, hac, hb7, hG⟩ := hrel
    have hcur : w.grownBy wr none := hG.new hgw (fun x e => by rw [e]; exact hw7x.1)
    have hb3r := hG.box hb3 (by omega)
    have hb6r := hG.box hb6 (by omega)
    by_cases hlt : q < C.length
    · have hlq : q < lf.length := by rw [hll.out]; exact hlt
      have hna := hC.out _ (List.getElem_mem hlt)
      have hlb := hlf.out _ (List.getElem_mem hlq)
      have hstep : Hid (byL C lf at_ q = some (distP at_ C[q].a + lf[q])) := by
        rw [Hid]; unfold byL
        rw [List.getD_eq_getElem?_getD, List.getElem?_eq_getElem hlt, List.getD_eq_getElem?_getD, List.getElem?_eq_getElem hlq]; rfl
      obtain ⟨ga, oa, cx, rfl, -, -, rfl, hcx⟩ := (hA.pure hcur).at_ (by decide) hlt
      have c0 : wr.cell? ⟨ga, oa + q * 7, none⟩ = some (.int .i64 C[q].v.path) := hcx 0 _ rfl
      have c1 : wr.cell? ⟨ga, oa + q * 7 + 1, none⟩ = some (.int .i64 C[q].v.start) := hcx 1 _ rfl
      have c2 : wr.cell? ⟨ga, oa + q * 7 + 2, none⟩ = some (.bool C[q].v.back) := hcx 2 _ rfl
      have c3 : wr.cell? ⟨ga, oa + q * 7 + 3, none⟩ = some (.int .i64 C[q].a.x) := hcx 3 _ rfl
      have c4 : wr.cell? ⟨ga, oa + q * 7 + 4, none⟩ = some (.int .i64 C[q].a.y) := hcx 4 _ rfl
      have c5 : wr.cell? ⟨ga, oa + q * 7 + 5, none⟩ = some (.int .i64 C[q].b.x) := hcx 5 _ rfl
      have c6 : wr.cell? ⟨ga, oa + q * 7 + 6, none⟩ = some (.int .i64 C[q].b.y) := hcx 6 _ rfl
      obtain ⟨gm, om, cx, rfl, -, -, rfl, hcm⟩ := (hB.pure hcur).at_ (by decide) hlq
      have m0 : wr.cell? ⟨gm, om + q, none⟩ = some (.int .i64 lf[q]) := by
        have := hcm 0 _ rfl
        rwa [show Enc.sz Int = 1 from rfl, Nat.mul_one, Nat.add_zero] at this
      have hbl : (0 : Int) ≤ (q : Int) ∧ (q : Int) < lf.length := by omega
      clear hcx hcm
      generalize C[q] = cc at *
      generalize lf[q] = lq at *
      have hD := hide fun W => distance_any at_ cc.a W hst hna
      have hDb := distP_bd hst hna
      have hLk : ∀ wx, wr.grownBy wx none → (wx.cell? ⟨x3, 0, none⟩ = some (.int .i64 at_.x) ∧ wx.cell? ⟨x3, 1, none⟩ = some (.int .i64 at_.y)) ∧ wx.cell? ⟨gm, om + q, none⟩ = some (.int .i64 lq) := fun wx h => ⟨⟨((hb3r.pure h).c 0 rfl).1, ((hb3r.pure h).c 1 rfl).1⟩, h.k m0⟩
      replace hLk := hide hLk
      obtain ⟨wy, hwy⟩ : ∃ x, x = wr.alloc (.cells #[.int .i64 cc.v.path, .int .i64 cc.v.start, .bool cc.v.back, .int .i64 cc.a.x, .int .i64 cc.a.y, .int .i64 cc.b.x, .int .i64 cc.b.y] 58) := ⟨_, rfl⟩
      have hT : Box wy wr.heap.size 58 [.int .i64 cc.v.path, .int .i64 cc.v.start, .bool cc.v.back, .int .i64 cc.a.x, .int .i64 cc.a.y, .int .i64 cc.b.x, .int .i64 cc.b.y] := by rw [hwy]; exact Box.new _ _ _
      have hgy : wr.grownBy wy none := by rw [hwy]; exact gr_alloc (World.grownBy.refl _ _) _
      replace hwy := hide hwy.symm
      clear m0
      go_upto_region 5 with fail
      rw [show wr.alloc (.cells #[.int .i64 cc.v.path, .int .i64 cc.v.start, .bool cc.v.back, .int .i64 cc.a.x, .int .i64 cc.a.y, .int .i64 cc.b.x, .int .i64 cc.b.y] 58) = wy from hwy.out]
      clear hwy c0 c1 c2 c3 c4 c5 c6
      generalize wr.heap.size = gt at *
      refine wp_region_tree (fun wx => wy.grownBy wx none) [1, 2, 1, 0, 2, 2, 2, 1, 2, 2] (.bl 0 (.bl 1 (.bl 2 (.bl 4 (.bl 5 (.bl 6 (.bl 7 (.ef 3 (.bl 8 (.bl 9 .done)))))))))) (by kernel_rfl) (by kernel_rfl) (gr_drew (World.grownBy.refl _ _)) ?_
      obtain ⟨wd, hwd⟩ : ∃ x, x = (wy).drew := ⟨_, rfl⟩
      rw [← hwd]
      have hgwd : (wy).grownBy wd none := by rw [hwd]; exact gr_drew (World.grownBy.refl _ _)
      clear hwd
      refine tree_b rfl rfl rfl rfl _ rfl (by simp) (fun K hK => ?_)
      apply Exists.intro
      refine ⟨fun wq hq K' hK' => ?_, ?_⟩
      · obtain ⟨⟨d0, d1⟩, d3⟩ := hLk.out wq (hgy.t hq)
        obtain ⟨t3, -⟩ := (hT.pure hq).c 3 rfl
        obtain ⟨t4, -⟩ := (hT.pure hq).c 4 rfl
        go_wp2_with fail
        exact hK'
      go_simp
      refine hK _ ?_
      clear hK K
      refine tree_p rfl rfl rfl rfl _ rfl (by simp) (fun K hK => ?_)
      apply Exists.intro
      refine ⟨fun wq K' hK' => ?_, ?_⟩
      · go_wp2_with fail
        exact hK'
      go_simp
      refine hK _ ?_
      clear hK K
      refine tree_b rfl rfl rfl rfl _ rfl (by simp) (fun K hK => ?_)
      apply Exists.intro
      refine ⟨fun wq hq K' hK' => ?_, ?_⟩
      · obtain ⟨⟨d0, d1⟩, d3⟩ := hLk.out wq (hgy.t hq)
        obtain ⟨t3, -⟩ := (hT.pure hq).c 3 rfl
        obtain ⟨t4, -⟩ := (hT.pure hq).c 4 rfl
        go_wp2_with fail
        exact hK'
      go_simp
      refine hK _ ?_
      clear hK K
      refine tree_p rfl rfl rfl rfl _ rfl (by simp) (fun K hK => ?_)
      apply Exists.intro
      refine ⟨fun wq K' hK' => ?_, ?_⟩
      · go_wp2_with fail
        exact hK'
      go_simp
      refine hK _ ?_
      clear hK K
      refine tree_p rfl rfl rfl rfl _ rfl (by simp) (fun K hK => ?_)
      apply Exists.intro
      refine ⟨fun wq K' hK' => ?_, ?_⟩
      · go_wp2_with fail
        exact hK'
      go_simp
      refine hK _ ?_
      clear hK K
      refine tree_p rfl rfl rfl rfl _ rfl (by simp) (fun K hK => ?_)
      apply Exists.intro
      refine ⟨fun wq K' hK' => ?_, ?_⟩
      · go_wp2_with fail
        exact hK'
      go_simp
      refine hK _ ?_
      clear hK K
      refine tree_b rfl rfl rfl rfl _ rfl (by simp) (fun K hK => ?_)
      apply Exists.intro
      refine ⟨fun wq hq K' hK' => ?_, ?_⟩
      · obtain ⟨⟨d0, d1⟩, d3⟩ := hLk.out wq (hgy.t hq)
        obtain ⟨t3, -⟩ := (hT.pure hq).c 3 rfl
        obtain ⟨t4, -⟩ := (hT.pure hq).c 4 rfl
        go_wp2_with fail
        exact hK'
      go_simp
      refine hK _ ?_
      clear hK K
      refine tree_e rfl rfl (fun K hK => ?_)
      go_wp2_with fail
      refine (hD.out _).mono ?_
      rintro e w9 ⟨rfl, hg9⟩
      go_wp2_with fail
      try go_simp
      refine hK _ _ (gr_trans hgwd hg9) ?_
      clear hK K
      refine tree_p rfl rfl rfl rfl _ rfl (by simp) (fun K hK => ?_)
      apply Exists.intro
      refine ⟨fun wq K' hK' => ?_, ?_⟩
      · go_wp2_with fail
        exact hK'
      go_simp
      refine hK _ ?_
      clear hK K
      refine tree_p rfl rfl rfl rfl _ rfl (by simp) (fun K hK => ?_)
      apply Exists.intro
      refine ⟨fun wq K' hK' => ?_, ?_⟩
      · go_wp2_with fail
        exact hK'
      go_simp
      refine hK _ ?_
      clear hK K
      refine tree_done ?_
      have hgz := hgy.t (gr_trans hgwd hg9)
      have hb79 := hb7.pure hgz
      have hG9 := hG.pure hgz
      obtain ⟨v0, y0⟩ := hb79.c 0 rfl
      obtain ⟨v1, y1⟩ := hb79.c 1 rfl
      clear hLk hD hT hgwd hg9 hgy hb7 hG
      have hgs : ∀ a b : Value, GrS (fun x => x = x7) w7 ((w9.setCell ⟨x7, 0, none⟩ a).setCell ⟨x7, 1, none⟩ b) := fun a b => hG9.step (gr_set (gr_set (World.grownBy.refl w9 (some x7)) (p := ⟨x7, 0, none⟩) (.inl rfl) _) (p := ⟨x7, 1, none⟩) (.inl rfl) _) (fun x e => .inl (Option.some.inj e).symm)
      replace hgs := hide hgs
      have hbs := hide fun (a b : Value) (ha hb) => (hb79.set_ 0 a ha).set_ 1 b hb
      have hov : -9223372036854775808 ≤ distP at_ cc.a + lq ∧ distP at_ cc.a + lq ≤ 9223372036854775807 := by omega
      rcases ac with _ | b
      · have hs2 : Hid (fmin (byL C lf at_) (q + 1) = some (q, distP at_ cc.a + lq)) := fmin_first hstep.out hac.out.symm
        simp only [nxI, nxV] at v0 v1
        go_wp2_with fail
        (go_roundw; (case rel => exact ⟨q + 1, some (q, distP at_ cc.a + lq), by omega, by go_num, hs2.out.symm, hbs.out _ _ (by simp) (by simp), hgs.out _ _⟩); (case measure => simp [intOf]; omega))
      · have hs2 := hide (fmin_next hstep.out hac.out.symm)
        have hb0 : decide ((b.1 : Int) < 0) = false := by simp
        simp only [nxI, nxV] at v0 v1
        by_cases hd : distP at_ cc.a + lq < b.2
        · have hdd : decide (distP at_ cc.a + lq < b.2) = true := decide_eq_true hd
          rw [if_pos hd] at hs2
          go_wp2_with fail
          (go_roundw; (case rel => exact ⟨q + 1, some (q, distP at_ cc.a + lq), by omega, by go_num, hs2.out.symm, hbs.out _ _ (by simp) (by simp), hgs.out _ _⟩); (case measure => simp [intOf]; omega))
        · have hdd : decide (distP at_ cc.a + lq < b.2) = false := decide_eq_false hd
          rw [if_neg hd] at hs2
          go_wp2_with fail
          (go_roundw; (case rel => exact ⟨q + 1, some b, by omega, by go_num, hs2.out.symm, hb79, hG9⟩); (case measure => simp [intOf]; omega))
    · obtain rfl : q = C.length := by omega
      obtain ⟨v0, -⟩ := hb7.c 0 rfl
      obtain ⟨v1, -⟩ := hb7.c 1 rfl
      obtain ⟨u0, z0⟩ := hb6r.c 0 rfl
      obtain ⟨u1, z1⟩ := hb6r.c 1 rfl
      have hfin := hide hac.out.symm
      clear hac
      go_wp2_with fail
      have hb9 := (hb6r.set_ 0 (.int .i64 (nxI ac)) (by simp)).set_ 1 (.int .i64 (nxV ac)) (by simp)
      obtain ⟨k0, -⟩ := hb9.c 0 rfl
      obtain ⟨k1, -⟩ := hb9.c 1 rfl
      exact bodyPost_ret (v := .agg #[.int .i64 (nxI ac), .int .i64 (nxV ac)]) (by simp [results, Tryz.results23, go_sem, k0, k1]) rfl ⟨by rw [hfin.out], gr_set (gr_set hcur (.inr hw7x.2) _) (.inr hw7x.2) _⟩

end Go.Proofs.YtgcfaamgilbjdaaGreatDoor

namespace Go.Bl
open Go Go.Proofs.YtgcfaamgilbjdaaGreatDoor

/-- the first choice of the first path of an order by which it is least far -/
def begM (l : List PathV) (rs : List Int) (o : List Int) (at_ : Pt) : Option (Nat × Int) := match o with
  | [] => none
  | y :: _ => fmin (byL (chs l y.toNat) rs at_) (chs l y.toNat).length
/-- how far it is behind each choice of the first path of an order -/
def begR (l : List PathV) : List Int → List Int
  | [] => []
  | x :: o => (chs l x.toNat).map fun c => nxV (begM l (begR l o) o c.b)

def begC (l : List PathV) (at_ : Pt) (o : List Int) : Chc := match o with
  | [] => default
  | x :: o => (chs l x.toNat).getD (nxI (begM l (begR l (x :: o)) (x :: o) at_)).toNat default

def begK (l : List PathV) (st : Pt) (o : List Int) : Nat → List Vis × Pt
  | 0 => ([], st)
  | k + 1 => let s := begK l st o k; let c := begC l s.2 (o.drop k); (s.1 ++ [c.v], c.b)

theorem begR_len (l : List PathV) (x : Int) (o : List Int) : (begR l (x :: o)).length = (chs l x.toNat).length := by unfold begR; rw [List.length_map]

def InR (l : List PathV) (o : List Int) : Prop := ∀ x ∈ o, x.toNat < l.length

theorem InR.tl {l : List PathV} {x : Int} {o : List Int} (h : InR l (x :: o)) : InR l o := fun y hy => h y (List.mem_cons_of_mem _ hy)

theorem InR.drop {l : List PathV} {o : List Int} (h : InR l o) (k : Nat) : InR l (o.drop k) := fun y hy => h y (List.mem_of_mem_drop hy)

theorem InR.of_perm {l : List PathV} {o : List Int} (h : o.Perm ((List.range l.length).map Int.ofNat)) : InR l o := fun x hx => by
  obtain ⟨i, hi, rfl⟩ := List.mem_map.1 (h.mem_iff.1 hx)
  have := List.mem_range.1 hi
  exact this

theorem chs_near {l : List PathV} (hp : pathsF l = 0) {i : Nat} (hi : i < l.length) {c : Chc} (hc : c ∈ chs l i) : near c.a ∧ near c.b := by
  obtain ⟨-, h2, -, h4, h5⟩ := chs_mem hp hi hc
  rw [h4, h5]
  exact ⟨h2.nA, h2.nB⟩

theorem begM_some {l : List PathV} (hp : pathsF l = 0) {x : Int} {o : List Int} (hx : x.toNat < l.length) (rs : List Int) (at_ : Pt) : ∃ b : Nat × Int, begM l rs (x :: o) at_ = some b ∧ ∃ h : b.1 < (chs l x.toNat).length, b.2 = distP at_ (chs l x.toNat)[b.1].a + rs.getD b.1 0 := by
  have hne := List.length_pos_iff.2 (chs_ne hp hx)
  rcases hb : begM l rs (x :: o) at_ with _ | b
  · have h1 := fmin_none (f := byL (chs l x.toNat) rs at_) hb 0 hne
    cases h1
  · obtain ⟨h1, h2, -⟩ := fmin_some (f := byL (chs l x.toNat) rs at_) hb
    refine ⟨b, rfl, h1, ?_⟩
    unfold byL at h2
    injection h2 with h2
    rw [← h2, List.getD_eq_getElem?_getD, List.getElem?_eq_getElem h1, Option.getD_some]

theorem begR_bd {l : List PathV} (hp : pathsF l = 0) : ∀ {o : List Int}, InR l o → ∀ r ∈ begR l o, 0 ≤ r ∧ r ≤ 200000 * o.length
  | [], _, r, hr => by simp [begR] at hr
  | [x], h, r, hr => by
    unfold begR at hr
    obtain ⟨c, -, rfl⟩ := List.mem_map.1 hr
    simp [begM, nxV]
  | x :: y :: o, h, r, hr => by
    unfold begR at hr
    obtain ⟨c, hc, rfl⟩ := List.mem_map.1 hr
    have hx := h x (List.mem_cons_self ..)
    have hy := h y (List.mem_cons_of_mem _ (List.mem_cons_self ..))
    obtain ⟨b, e, hb, e2⟩ := begM_some (o := o) hp hy (begR l (y :: o)) c.b
    rw [e]
    have hn := chs_near hp hx hc
    have hm := chs_near hp hy (List.getElem_mem hb)
    have hd := distP_bd hn.2 hm.1
    have hb2 : b.1 < (begR l (y :: o)).length := by rw [begR_len]; exact hb
    have hr2 := begR_bd hp (o := y :: o) h.tl _ (List.getElem_mem hb2)
    rw [List.getD_eq_getElem?_getD, List.getElem?_eq_getElem hb2, Option.getD_some] at e2
    simp only [nxV, List.length_cons] at hr2 ⊢
    omega

theorem begC_mem {l : List PathV} (hp : pathsF l = 0) {x : Int} {o : List Int} (hx : x.toNat < l.length) (at_ : Pt) : begC l at_ (x :: o) ∈ chs l x.toNat := by
  obtain ⟨b, e, hb, -⟩ := begM_some (o := o) hp hx (begR l (x :: o)) at_
  show (chs l x.toNat).getD (nxI (begM l (begR l (x :: o)) (x :: o) at_)).toNat default ∈ _
  rw [e]
  simp only [nxI, Int.toNat_natCast]
  rw [List.getD_eq_getElem?_getD, List.getElem?_eq_getElem hb, Option.getD_some]
  exact List.getElem_mem hb

theorem drop_cons {o : List Int} {k : Nat} (hk : k < o.length) : o.drop k = o[k] :: o.drop (k + 1) := by
  rw [List.drop_eq_getElem_cons hk]

theorem begK_ok {l : List PathV} (hp : pathsF l = 0) {st : Pt} (hst : near st) {o : List Int} (h : InR l o) (h0 : ∀ x ∈ o, 0 ≤ x) : ∀ k, k ≤ o.length → (begK l st o k).1.map Vis.path = o.take k ∧ (∀ v ∈ (begK l st o k).1, v ∈ chV (l.getD v.path.toNat default) v.path.toNat) ∧ near (begK l st o k).2
  | 0, _ => ⟨rfl, fun v hv => by simp [begK] at hv, hst⟩
  | k + 1, hk => by
    obtain ⟨h1, h2, h3⟩ := begK_ok hp hst h h0 k (by omega)
    have hk2 : k < o.length := by omega
    have hx := h _ (List.getElem_mem hk2)
    have hx0 := h0 _ (List.getElem_mem hk2)
    have hm := begC_mem (o := o.drop (k + 1)) hp hx (begK l st o k).2
    rw [← drop_cons hk2] at hm
    have hn := chs_near hp hx hm
    have hv : (begC l (begK l st o k).2 (o.drop k)).v.path = o[k] := by
      rw [(chs_mem hp hx hm).1]; omega
    refine ⟨?_, fun v hv2 => ?_, hn.2⟩
    · unfold begK
      simp only [List.map_append, List.map_cons, List.map_nil, h1, hv]
      exact (take_snoc hk2).symm
    · unfold begK at hv2
      simp only [List.mem_append, List.mem_singleton] at hv2
      rcases hv2 with hv2 | rfl
      · exact h2 v hv2
      · rw [hv]
        unfold chs at hm
        obtain ⟨u, hu, e⟩ := List.mem_map.1 hm
        rw [← e]
        exact hu

theorem begK_len (l : List PathV) (st : Pt) (o : List Int) : ∀ k, (begK l st o k).1.length = k
  | 0 => rfl
  | k + 1 => by unfold begK; simp [begK_len l st o k]
/-! ### the rows while they are made: from j on -/

def begLC (l : List PathV) (o : List Int) (j : Nat) : List (List Chc) := (List.range o.length).map fun t => if t < j then [] else chs l (o.getD t 0).toNat

def begLI (l : List PathV) (o : List Int) (j : Nat) : List (List Int) := (List.range (o.length + 1)).map fun t => if t < j then [] else begR l (o.drop t)

theorem begLC_len (l : List PathV) (o : List Int) (j : Nat) : (begLC l o j).length = o.length := by simp [begLC]

theorem begLI_len (l : List PathV) (o : List Int) (j : Nat) : (begLI l o j).length = o.length + 1 := by simp [begLI]

theorem begLC_top (l : List PathV) (o : List Int) : begLC l o o.length = List.replicate o.length [] := by
  refine List.ext_getElem (by simp [begLC_len]) fun t h1 h2 => ?_
  rw [begLC_len] at h1
  simp [begLC, h1]

theorem begLI_top (l : List PathV) (o : List Int) : begLI l o o.length = List.replicate (o.length + 1) [] := by
  refine List.ext_getElem (by simp [begLI_len]) fun t h1 h2 => ?_
  rw [begLI_len] at h1
  simp only [begLI, List.getElem_map, List.getElem_range, List.getElem_replicate]
  by_cases h : t < o.length
  · rw [if_pos h]
  · rw [if_neg h, List.drop_eq_nil_of_le (by omega)]; rfl

theorem begLC_at {l : List PathV} {o : List Int} {j t : Nat} (ht : t < o.length) (h : j ≤ t) : (begLC l o j)[t]'(by rw [begLC_len]; exact ht) = chs l (o[t]).toNat := by
  simp only [begLC, List.getElem_map, List.getElem_range]
  rw [if_neg (by omega), List.getD_eq_getElem?_getD, List.getElem?_eq_getElem ht, Option.getD_some]

theorem begLI_at {l : List PathV} {o : List Int} {j t : Nat} (ht : t < o.length + 1) (h : j ≤ t) : (begLI l o j)[t]'(by rw [begLI_len]; exact ht) = begR l (o.drop t) := by
  simp only [begLI, List.getElem_map, List.getElem_range]
  rw [if_neg (by omega)]

theorem begLC_put {l : List PathV} {o : List Int} {j : Nat} (h : j < o.length) : (begLC l o (j + 1)).set j (chs l (o[j]).toNat) = begLC l o j := by
  refine List.ext_getElem (by simp [begLC_len]) fun t h1 h2 => ?_
  rw [List.getElem_set]
  rw [begLC_len] at h2
  by_cases e : j = t
  · subst e
    rw [if_pos rfl, begLC_at h (Nat.le_refl _)]
  · rw [if_neg e]
    simp only [begLC, List.getElem_map, List.getElem_range]
    by_cases h3 : t < j
    · rw [if_pos (by omega), if_pos h3]
    · rw [if_neg (by omega), if_neg h3]

theorem begLI_put {l : List PathV} {o : List Int} {j : Nat} (h : j < o.length + 1) : (begLI l o (j + 1)).set j (begR l (o.drop j)) = begLI l o j := by
  refine List.ext_getElem (by simp [begLI_len]) fun t h1 h2 => ?_
  rw [List.getElem_set]
  rw [begLI_len] at h2
  by_cases e : j = t
  · subst e
    rw [if_pos rfl, begLI_at h (Nat.le_refl _)]
  · rw [if_neg e]
    simp only [begLI, List.getElem_map, List.getElem_range]
    by_cases h3 : t < j
    · rw [if_pos (by omega), if_pos h3]
    · rw [if_neg (by omega), if_neg h3]

theorem begLI_free {l : List PathV} {o : List Int} {j : Nat} (h : j < o.length + 1) : (begLI l o (j + 1)).set j [] = begLI l o (j + 1) := by
  refine List.ext_getElem (by simp [begLI_len]) fun t h1 h2 => ?_
  rw [List.getElem_set]
  by_cases e : j = t
  · subst e
    simp [begLI]
  · rw [if_neg e]

theorem begR_at {l : List PathV} {o : List Int} {k m : Nat} (hk : k < o.length) (hm : m < (chs l (o[k]).toNat).length) : (begR l (o.drop k)).take (m + 1) = (begR l (o.drop k)).take m ++ [nxV (begM l (begR l (o.drop (k + 1))) (o.drop (k + 1)) (chs l (o[k]).toNat)[m].b)] := by
  rw [drop_cons hk]
  have hl : m < (begR l (o[k] :: o.drop (k + 1))).length := by rw [begR_len]; exact hm
  rw [take_snoc hl]
  congr 2
  simp [begR]

end Go.Bl

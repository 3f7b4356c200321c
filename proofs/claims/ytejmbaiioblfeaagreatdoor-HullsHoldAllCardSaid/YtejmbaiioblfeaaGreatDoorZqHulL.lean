/- Contracts of functions that this seat's laws reach, each: what one call returns and what it leaves in memory; no condition beyond each theorem's own hypotheses. -/
import Derived.Test.YtejmbaiioblfeaaGreatDoorZqHulEX
import Derived.Test.YtejmbaiioblfeaaGreatDoorZqRegRefC
import Derived.Test.YtejmbaiioblfeaaGreatDoorZqRegSame
set_option linter.unusedVariables false
set_option linter.unusedSimpArgs false
namespace Go.Proofs.YtejmbaiioblfeaaGreatDoor
open Go Go.RowKit Go.Bl

set_option maxHeartbeats 800000 in
theorem indexPs_any (A : Option Addr) (c : Nat) (l : List Pt) (s : Pt) (w : World) (hl : Sl w 0 A l) :
    Calls Tryz.prog 62 #[.slice A l.length c, .agg #[.int .i64 s.x, .int .i64 s.y]] w fun e w' => ∃ r : Int, e = .returned (.int .i64 r) ∧ decide (0 ≤ r) = decide (s ∈ l) ∧ w.grownBy w' none := by
  have hm := hl.1
  unfold maxLen at hm
  have hg0 := gr_alloc (World.grownBy.refl w none) (.cells #[.int .i64 s.x, .int .i64 s.y] 29)
  have b0 := hide ((Cell.new w [.int .i64 s.x, .int .i64 s.y] 29 0 _ rfl _ rfl).1)
  have b1 := hide ((Cell.new w [.int .i64 s.x, .int .i64 s.y] 29 1 _ rfl _ rfl).1)
  go_enter Tryz.func62, Tryz.ntmps62
  go_wp2_with fail
  generalize w.alloc (.cells #[.int .i64 s.x, .int .i64 s.y] 29) = W at *
  have hWW := World.grownBy.refl W none
  go_loopw [8] (fun i wr => ∃ k : Nat, k ≤ l.length ∧ i = .int .i64 k ∧ w.grownBy wr none ∧ W.grownBy wr none ∧ Hid (s ∉ l.take k)) (fun i _ => l.length - (intOf i).toNat)
  case atStart => exact ⟨0, Nat.zero_le _, rfl, hg0, hWW, by simp [Hid]⟩
  case round =>
    obtain ⟨k, hk, rfl, hg, hgW, hall⟩ := hrel
    replace b0 := hgW.k b0.out
    replace b1 := hgW.k b1.out
    by_cases hlt : k < l.length
    · obtain ⟨g, o, cx, rfl, hb0, hb1, rfl, hc⟩ := (hl.pure hg).at_ (by decide) hlt
      have v0 : wr.cell? ⟨g, o + k * 2, none⟩ = some (.int .i64 l[k].x) := hc 0 _ rfl
      have v1 : wr.cell? ⟨g, o + k * 2 + 1, none⟩ = some (.int .i64 l[k].y) := hc 1 _ rfl
      clear hc
      have HI : Hid (l[k].x = s.x → l[k].y = s.y → s ∈ l) := fun h1 h2 => by
        have : s = l[k] := by cases hh : l[k]; cases s; simp_all
        rw [this]; exact List.getElem_mem _
      have HN : Hid (¬ (s.x = l[k].x ∧ s.y = l[k].y) → s ∉ l.take (k + 1)) := fun h => notinP_snoc hlt hall.out (fun e => h (by rw [e]; exact ⟨rfl, rfl⟩))
      generalize l[k] = y at *
      go_wp2_with fail
      refine wp_region_fix 5 ((fun wx => wr.grownBy wx none)) (by kernel_rfl) (by kernel_rfl) (gr_drew (World.grownBy.refl _ _)) ?_
      simp only [List.take_succ_cons, List.take_zero, List.drop_succ_cons, List.drop_zero]
      iterate 5 ((refine fix_b (fun K hK => ?_); apply Exists.intro; refine ⟨fun wx hC K' hK' => ?_, ?_⟩; (focus (replace hK' := hide hK'; (have c0 := hC.k b0; have c1 := hC.k b1; have c2 := hC.k v0; have c3 := hC.k v1); go_wp2_with fail; exact hK'.out _ hC)); go_simp; refine hK _ ?_; clear hK K))
      refine fix_nil ?_
      intro wz hC
      replace hg := gr_trans hg hC
      replace hgW := gr_trans hgW hC
      obtain ⟨su, sv⟩ := s
      obtain ⟨yu, yv⟩ := y
      simp only at *
      by_cases h1 : su = yu
      · subst h1
        by_cases h2 : sv = yv
        · subst h2
          go_wp2
          go_ret
          exact ⟨k, rfl, by have hX := HI.out trivial trivial; simp [hX], hg⟩
        · go_wp2
          go_roundw
          case rel => exact ⟨k + 1, by omega, by go_num, hg, hgW, HN.out (fun h => h2 h.2)⟩
          case measure => simp [intOf]; omega
      · go_wp2
        go_roundw
        case rel => exact ⟨k + 1, by omega, by go_num, hg, hgW, HN.out (fun h => h1 h.1)⟩
        case measure => simp [intOf]; omega
    · have HB : s ∉ l := by have := hall.out; rwa [List.take_of_length_le (by omega)] at this
      go_wp2
      go_ret
      exact ⟨-1, rfl, by simp [HB], hg⟩

set_option maxHeartbeats 800000 in
theorem containsPs_any (A : Option Addr) (n c : Nat) (l : List Pt) (s : Pt) (w : World) (hl : Sl w 0 A l) (hn : l.length = n) :
    Calls Tryz.prog 26 #[.slice A n c, .agg #[.int .i64 s.x, .int .i64 s.y]] w fun e w' => e = .returned (.bool (decide (s ∈ l))) ∧ w.grownBy w' none := by
  subst hn
  have hg0 := gr_alloc (World.grownBy.refl w none) (.cells #[.int .i64 s.x, .int .i64 s.y] 29)
  go_enter Tryz.func26, Tryz.ntmps26
  go_wp2_with fail
  refine (indexPs_any A c l s _ (hl.pure hg0)).mono ?_
  rintro e w1 ⟨r, rfl, hr, hg⟩
  replace hr := hide hr
  go_wp2_with fail
  go_ret
  exact ⟨ret_bool hr.out, gr_trans hg0 hg⟩

/-- some three of the points do not lie on one line -/
def wideB (l : List Pt) : Bool := l.any fun a => l.any fun b => decide (turnP (l.getD 0 default) a b ≠ 0)

def hfE (l : List Pt) : Int := if 1000 < l.length then 2 else if l.any farP = true then 1 else if wideB l = true then 0 else 3

def FlatTo (l : List Pt) (i : Nat) : Prop := ∀ a ∈ l.take i, ∀ b ∈ l, turnP (l.getD 0 default) a b = 0

def FlatRow (l : List Pt) (a : Pt) (j : Nat) : Prop := ∀ b ∈ l.take j, turnP (l.getD 0 default) a b = 0

def FlatStep (l : List Pt) (a : Pt) (k : Nat) : Prop := FlatRow l a l.length → FlatTo l (k + 1)

def RowStep (l : List Pt) (a : Pt) (m : Nat) (T : Int) : Prop := (T = 0 → FlatRow l a (m + 1)) ∧ (T ≠ 0 → wideB l = true)

theorem wide_no {l : List Pt} (h : FlatTo l l.length) : wideB l = false := by
  unfold FlatTo at h
  rw [List.take_length] at h
  unfold wideB
  rw [List.any_eq_false]
  intro a ha
  rw [Bool.not_eq_true, List.any_eq_false]
  intro b hb
  rw [decide_eq_true_eq]
  exact fun k => k (h a ha b hb)

theorem wide_yes {l : List Pt} {a b : Pt} (ha : a ∈ l) (hb : b ∈ l) (h : turnP (l.getD 0 default) a b ≠ 0) : wideB l = true := List.any_eq_true.2 ⟨a, ha, List.any_eq_true.2 ⟨b, hb, decide_eq_true h⟩⟩

set_option maxHeartbeats 4000000 in
set_option maxRecDepth 100000 in
theorem hullFault_any (A : Option Addr) (c : Nat) (l : List Pt) (w : World) (hl : Sl w 0 A l) :
    Calls Tryz.prog 20 #[.slice A l.length c] w fun e w' => e = .returned (.int .i64 (hfE l)) ∧ w.grownBy w' none := by
  have hm := hl.1
  unfold maxLen at hm
  have hPF := hide fun W (h : w.grownBy W none) => pointFault_any A c l W (hl.pure h)
  by_cases hbig : 1000 < l.length
  · have hE : Hid (hfE l = 2) := by rw [Hid]; unfold hfE; rw [if_pos hbig]
    have hbi : (1000 : Int) < l.length := by omega
    go_enter Tryz.func20, Tryz.ntmps20
    go_wp2_with fail
    go_ret
    exact ⟨by rw [hE.out]; rfl, World.grownBy.refl _ _⟩
  · by_cases hf : l.any farP = true
    · have hE : Hid (hfE l = 1) := by rw [Hid]; unfold hfE; rw [if_neg hbig, if_pos hf]
      rw [pointsF_yes hf] at hPF
      clear hf
      go_enter Tryz.func20, Tryz.ntmps20
      go_wp2_with fail
      refine (hPF.out w (World.grownBy.refl _ _)).mono ?_
      rintro e w1 ⟨rfl, hg1⟩
      go_wp2_with fail
      go_ret
      exact ⟨by rw [hE.out]; rfl, hg1⟩
    · have hf0 : l.any farP = false := by simpa using hf
      rw [pointsF_no hf0] at hPF
      have hE : Hid (hfE l = if wideB l = true then 0 else 3) := by rw [Hid]; unfold hfE; rw [if_neg hbig, if_neg hf]
      have hbd := hide fun p (hp : p ∈ l) => bd_of_far (p := p) (by
        rw [List.any_eq_false] at hf0
        have := hf0 p hp
        simpa using this)
      have hl1 : l.length ≤ 1000 := by omega
      clear hf hf0 hbig
      go_enter Tryz.func20, Tryz.ntmps20
      go_wp2_with fail
      refine (hPF.out w (World.grownBy.refl _ _)).mono ?_
      rintro e w1 ⟨rfl, hg1⟩
      clear hPF
      go_wp2_with fail
      go_loopw [18] (fun i wr => ∃ k : Nat, k ≤ l.length ∧ i = .int .i64 k ∧ Hid (FlatTo l k) ∧ w.grownBy wr none) (fun i _ => l.length - (intOf i).toNat)
      case atStart => exact ⟨0, Nat.zero_le _, rfl, (fun a ha => by simp at ha), hg1⟩
      case round =>
        clear hg1
        obtain ⟨k, hk, rfl, hflat, hgr⟩ := hrel
        by_cases hlt : k < l.length
        · obtain ⟨g, o, cx, hA, -, -, rfl, hc⟩ := (hl.pure hgr).at_ (by decide) hlt
          have c0 : wr.cell? ⟨g, o + k * 2, none⟩ = some (.int .i64 l[k].x) := hc 0 _ rfl
          have c1 : wr.cell? ⟨g, o + k * 2 + 1, none⟩ = some (.int .i64 l[k].y) := hc 1 _ rfl
          have hba := hbd.out _ (List.getElem_mem hlt)
          have hma := List.getElem_mem hlt
          have hfs : Hid (FlatStep l l[k] k) := fun h a ha b hb => by
            rw [take_snoc hlt, List.mem_append, List.mem_singleton] at ha
            rcases ha with ha | ha
            · exact hflat.out a ha b hb
            · rw [ha]; exact h b (by rw [List.take_length]; exact hb)
          clear hc
          generalize l[k] = a at *
          replace hba := hide hba
          replace hma := hide hma
          subst hA
          go_upto_region 9 with fail
          obtain ⟨w5, hw5⟩ : ∃ x, x = (wr).alloc (.cells [.int .i64 a.x, .int .i64 a.y].toArray 29) := ⟨_, rfl⟩
          have hg5 : (wr).grownBy w5 none := by rw [hw5]; exact gr_alloc (World.grownBy.refl _ _) _
          have hb5 : Box w5 (wr).heap.size 29 [.int .i64 a.x, .int .i64 a.y] := by rw [hw5]; exact Box.new _ _ _
          have hxs5 := hb5.lt
          rw [← hw5]
          clear hw5
          obtain ⟨x5, hx5⟩ : ∃ x, x = (wr).heap.size := ⟨_, rfl⟩
          rw [← hx5] at hb5 hxs5 ⊢
          have hxl5 : (wr).heap.size ≤ x5 := by omega
          clear hx5
          replace hgr := hgr.t hg5
          clear hg5 c0 c1
          obtain ⟨wo, rfl⟩ : ∃ x, x = w5 := ⟨w5, rfl⟩
          have hself := World.grownBy.refl wo none
          have hfs2 := hfs
          clear hfs
          go_wp2_with fail
          go_loopw [24] (fun i wr => ∃ m : Nat, m ≤ l.length ∧ i = .int .i64 m ∧ Hid (FlatRow l a m) ∧ wo.grownBy wr none) (fun i _ => l.length - (intOf i).toNat)
          case atStart => exact ⟨0, Nat.zero_le _, rfl, (fun b hb => by simp at hb), hself⟩
          case round =>
            clear hself
            obtain ⟨m, hmm, rfl, hrow, hgo⟩ := hrel
            by_cases hml : m < l.length
            · have h00 : 0 < l.length := by omega
              have hgw := hgr.t hgo
              obtain ⟨g2, o2, cx, hA2, -, -, rfl, hc⟩ := (hl.pure hgw).at_ (by decide) hml
              have c0 : wr.cell? ⟨g2, o2 + m * 2, none⟩ = some (.int .i64 l[m].x) := hc 0 _ rfl
              have c1 : wr.cell? ⟨g2, o2 + m * 2 + 1, none⟩ = some (.int .i64 l[m].y) := hc 1 _ rfl
              obtain ⟨g3, o3, cx, hA3, -, -, rfl, hc3⟩ := (hl.pure hgw).at_ (by decide) h00
              have z0 : wr.cell? ⟨g3, o3 + 0 * 2, none⟩ = some (.int .i64 l[0].x) := hc3 0 _ rfl
              have z1 : wr.cell? ⟨g3, o3 + 0 * 2 + 1, none⟩ = some (.int .i64 l[0].y) := hc3 1 _ rfl
              injection hA2 with hA2
              injection hA2 with q1 q2 q3
              clear q3
              subst q1 q2
              injection hA3 with hA3
              injection hA3 with q1 q2 q3
              clear q3
              subst q1 q2
              have hg0 : l.getD 0 default = l[0] := gdE h00
              have hbb := hbd.out _ (List.getElem_mem hml)
              have hbz := hbd.out _ (List.getElem_mem h00)
              have hmb := hide (List.getElem_mem hml)
              have hrs : Hid (RowStep l a m (turnP (l.getD 0 default) a l[m])) := ⟨fun h b hb => by
                rw [take_snoc hml, List.mem_append, List.mem_singleton] at hb
                rcases hb with hb | hb
                · exact hrow.out b hb
                · rw [hb]; exact h, fun h => wide_yes hma.out hmb.out h⟩
              rw [hg0] at hrs
              clear hc hc3 hg0
              have hT := hide fun W => turnRef_any l[0] a l[m] W hbz hba.out hbb
              generalize l[m] = b at *
              generalize l[0] = z at *
              simp only [Nat.zero_mul, Nat.add_zero] at z0 z1
              go_upto_region 12 with fail
              obtain ⟨w7, hw7⟩ : ∃ x, x = (wr).alloc (.cells [.int .i64 b.x, .int .i64 b.y].toArray 29) := ⟨_, rfl⟩
              have hg7 : (wr).grownBy w7 none := by rw [hw7]; exact gr_alloc (World.grownBy.refl _ _) _
              have hb7 : Box w7 (wr).heap.size 29 [.int .i64 b.x, .int .i64 b.y] := by rw [hw7]; exact Box.new _ _ _
              have hxs7 := hb7.lt
              rw [← hw7]
              clear hw7
              obtain ⟨x7, hx7⟩ : ∃ x, x = (wr).heap.size := ⟨_, rfl⟩
              rw [← hx7] at hb7 hxs7 ⊢
              have hxl7 : (wr).heap.size ≤ x7 := by omega
              clear hx7
              have hb57 := (hb5.pure hgo).pure hg7
              have hLk := hide fun W (h : w7.grownBy W none) => (⟨(hg7.t h).k z0, (hg7.t h).k z1⟩ : _ ∧ _)
              clear c0 c1 z0 z1 hbz hbb
              have h0l : (0 : Int) < l.length := by omega
              clear hrow
              generalize hTT : turnP z a b = T at *
              clear hTT
              refine wp_region_tree (fun wx => w7.grownBy wx none) [2, 2, 1, 1, 1, 0, 2] (.bl 0 (.bl 1 (.bl 2 (.bl 3 (.bl 4 (.ef 5 (.bl 6 .done))))))) (by kernel_rfl) (by kernel_rfl) (gr_drew (World.grownBy.refl _ _)) ?_
              obtain ⟨u0, hu0⟩ : ∃ x, x = (w7).drew := ⟨_, rfl⟩
              rw [← hu0]
              have hgu0 : (w7).grownBy u0 none := by rw [hu0]; exact gr_drew (World.grownBy.refl _ _)
              clear hu0
              refine tree_p rfl rfl rfl rfl _ rfl (by simp) (fun K hK => ?_)
              apply Exists.intro
              refine ⟨fun wq K' hK' => ?_, ?_⟩
              · go_wp2_with fail
                exact hK'
              go_simp
              refine hK _ ?_
              clear hK K
              refine tree_p rfl rfl rfl rfl _ rfl (by simp) (fun K hK => ?_)
              apply Exists.intro
              refine ⟨fun wq K' hK' => ?_, ?_⟩
              · go_wp2_with fail
                exact hK'
              go_simp
              refine hK _ ?_
              clear hK K
              refine tree_b rfl rfl rfl rfl _ rfl (by simp) (fun K hK => ?_)
              apply Exists.intro
              refine ⟨fun wq hq K' hK' => ?_, ?_⟩
              · obtain ⟨d0, d1⟩ := hLk.out wq hq
                obtain ⟨t0, -⟩ := (hb57.pure hq).c 0 rfl
                obtain ⟨t1, -⟩ := (hb57.pure hq).c 1 rfl
                obtain ⟨t2, -⟩ := (hb7.pure hq).c 0 rfl
                obtain ⟨t3, -⟩ := (hb7.pure hq).c 1 rfl
                go_wp2_with fail
                exact hK'
              go_simp
              refine hK _ ?_
              clear hK K
              refine tree_b rfl rfl rfl rfl _ rfl (by simp) (fun K hK => ?_)
              apply Exists.intro
              refine ⟨fun wq hq K' hK' => ?_, ?_⟩
              · obtain ⟨d0, d1⟩ := hLk.out wq hq
                obtain ⟨t0, -⟩ := (hb57.pure hq).c 0 rfl
                obtain ⟨t1, -⟩ := (hb57.pure hq).c 1 rfl
                obtain ⟨t2, -⟩ := (hb7.pure hq).c 0 rfl
                obtain ⟨t3, -⟩ := (hb7.pure hq).c 1 rfl
                go_wp2_with fail
                exact hK'
              go_simp
              refine hK _ ?_
              clear hK K
              refine tree_b rfl rfl rfl rfl _ rfl (by simp) (fun K hK => ?_)
              apply Exists.intro
              refine ⟨fun wq hq K' hK' => ?_, ?_⟩
              · obtain ⟨d0, d1⟩ := hLk.out wq hq
                obtain ⟨t0, -⟩ := (hb57.pure hq).c 0 rfl
                obtain ⟨t1, -⟩ := (hb57.pure hq).c 1 rfl
                obtain ⟨t2, -⟩ := (hb7.pure hq).c 0 rfl
                obtain ⟨t3, -⟩ := (hb7.pure hq).c 1 rfl
                go_wp2_with fail
                exact hK'
              go_simp
              refine hK _ ?_
              clear hK K
              refine tree_e0 (by kernel_rfl) rfl rfl (fun K hK => ?_)
              go_wp2_with fail
              refine (hT.out u0).mono ?_
              rintro e w12 ⟨rfl, hg12⟩
              go_wp2_with fail
              try go_simp
              refine hK _ _ trivial ?_
              clear hK K
              refine tree_p rfl rfl rfl rfl _ rfl (by simp) (fun K hK => ?_)
              apply Exists.intro
              refine ⟨fun wq K' hK' => ?_, ?_⟩
              · go_wp2_with fail
                exact hK'
              go_simp
              refine hK _ ?_
              clear hK K
              refine tree_done ?_
              have hgz := gr_trans hgu0 hg12
              have hgq := hgo.t (hg7.t hgz)
              by_cases hT0 : T = 0
              · have hr2 := hide (hrs.out.1 hT0)
                have hne : (T != 0) = false := by simp [hT0]
                clear hrs
                subst hT0
                go_wp2_with fail
                (go_roundw; (case rel => exact ⟨m + 1, by omega, by go_num, hr2.out, hgq⟩); (case measure => simp [intOf]; omega))
              · have hr2 := hide (hrs.out.2 hT0)
                have hne : (T != 0) = true := by simp [hT0]
                clear hrs
                have hgf := hgr.t hgq
                go_wp2_with fail
                go_ret
                exact ⟨by rw [hE.out, hr2.out]; rfl, hgf⟩
            · have hfin : Hid (FlatTo l (k + 1)) := hfs2.out (by rw [show l.length = m from by omega]; exact hrow.out)
              have hgq := hgr.t hgo
              clear hrow hfs2
              go_wp2_with fail
              (go_roundw; (case rel => exact ⟨k + 1, by omega, by go_num, hfin, hgq⟩); (case measure => simp [intOf]; omega))
        · have hw0 : Hid (wideB l = false) := wide_no (by rw [show l.length = k from by omega]; exact hflat.out)
          clear hflat
          go_wp2_with fail
          go_ret
          exact ⟨by rw [hE.out, hw0.out]; rfl, hgr⟩

end Go.Proofs.YtejmbaiioblfeaaGreatDoor

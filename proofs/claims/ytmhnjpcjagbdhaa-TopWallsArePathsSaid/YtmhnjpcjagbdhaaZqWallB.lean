/- Contracts of functions that this seat's laws reach, each: what one call returns and what it leaves in memory; no condition beyond each theorem's own hypotheses. -/
import Derived.Test.YtmhnjpcjagbdhaaZqRegRefC
import Derived.Test.YtmhnjpcjagbdhaaZqRegH
set_option linter.unusedVariables false
set_option linter.unusedSimpArgs false
namespace Go.Bl
open Go
/-- how many of a ring's first k sides a way meets -/
def metR (r : List Pt) (a b : Pt) : Nat → Int
  | 0 => 0
  | k + 1 => metR r a b k + if meetM (cor r k) (cor r (k + 1)) a b then 1 else 0
/-- how many sides of the first i rings a way meets -/
def metI (rs : List (List Pt)) (a b : Pt) : Nat → Int
  | 0 => 0
  | i + 1 => metI rs a b i + metR (rs.getD i []) a b (rs.getD i []).length

def metF (rs : List (List Pt)) (a b : Pt) : Int := metI rs a b rs.length

theorem metR_bd (r : List Pt) (a b : Pt) : ∀ k, 0 ≤ metR r a b k ∧ metR r a b k ≤ k
  | 0 => by simp [metR]
  | k + 1 => by
    have := metR_bd r a b k
    unfold metR
    split <;> omega

theorem metI_bd {rs : List (List Pt)} {a b : Pt} (h : ∀ r ∈ rs, r.length ≤ 500) : ∀ i, i ≤ rs.length → 0 ≤ metI rs a b i ∧ metI rs a b i ≤ 500 * i
  | 0, _ => by simp [metI]
  | i + 1, hi => by
    have h1 := metI_bd (a := a) (b := b) h i (by omega)
    have e : rs.getD i [] = rs[i] := by simp [List.getD, show i < rs.length by omega]
    have h2 := metR_bd rs[i] a b rs[i].length
    have h3 := h _ (List.getElem_mem (show i < rs.length by omega))
    unfold metI
    rw [e]
    omega

end Go.Bl
namespace Go.Proofs.Ytmhnjpcjagbdhaa
open Go Go.RowKit Go.Bl

set_option maxHeartbeats 8000000 in
set_option maxRecDepth 100000 in
theorem met_any (A : Option Addr) (c : Nat) (rs : List (List Pt)) (a b : Pt) (w : World) (hl : Sl w 0 A rs) (hok : ∀ r ∈ rs, 0 < r.length ∧ r.length ≤ 500 ∧ ∀ p ∈ r, bdP p) (hrs : rs.length ≤ 100) (ha : bdP a) (hb : bdP b) :
    Calls Try.prog 18 #[.slice A rs.length c, (.agg #[.int .i64 (a).x, .int .i64 (a).y]), (.agg #[.int .i64 (b).x, .int .i64 (b).y])] w fun e w' => e = .returned (.int .i64 (metF rs a b)) ∧ w.grownBy w' none := by
  have hm := hl.1
  unfold maxLen at hm
  have hbd := hide (metI_bd (a := a) (b := b) (fun r hr => (hok r hr).2.1))
  replace hok := hide hok
  go_enter Try.func18, Try.ntmps18
  go_upto_region 1 with fail
  obtain ⟨W, hW⟩ : ∃ W, W = (w.alloc (.cells #[.int .i64 a.x, .int .i64 a.y] 41)).alloc (.cells #[.int .i64 b.x, .int .i64 b.y] 41) := ⟨_, rfl⟩
  have hgW : w.grownBy W none := by rw [hW]; exact (by repeat (first | exact World.grownBy.refl _ _ | assumption | refine gr_alloc ?_ _ | (apply gr_tail; assumption) | refine gr_drewN ?_ _ | refine gr_drew ?_))
  have a0 : W.cell? ⟨w.heap.size, 0, none⟩ = some (.int .i64 a.x) := by rw [hW]; go_simp
  have a1 : W.cell? ⟨w.heap.size, 1, none⟩ = some (.int .i64 a.y) := by rw [hW]; go_simp
  have b0 : W.cell? ⟨w.heap.size + 1, 0, none⟩ = some (.int .i64 b.x) := by rw [hW]; go_simp
  have b1 : W.cell? ⟨w.heap.size + 1, 1, none⟩ = some (.int .i64 b.y) := by rw [hW]; go_simp
  rw [← hW]
  clear hW
  have hC : Hid (∀ wx, W.grownBy wx none → (wx.cell? ⟨w.heap.size, 0, none⟩ = some (.int .i64 a.x) ∧ wx.cell? ⟨w.heap.size, 1, none⟩ = some (.int .i64 a.y)) ∧ wx.cell? ⟨w.heap.size + 1, 0, none⟩ = some (.int .i64 b.x) ∧ wx.cell? ⟨w.heap.size + 1, 1, none⟩ = some (.int .i64 b.y)) := fun wx hx => ⟨⟨hx.k a0, hx.k a1⟩, hx.k b0, hx.k b1⟩
  clear a0 a1 b0 b1
  go_wp2_with fail
  go_loopw [7, 14] (fun s i wr => ∃ k : Nat, k ≤ rs.length ∧ i = .int .i64 k ∧ s = .int .i64 (metI rs a b k) ∧ W.grownBy wr none) (fun _ i _ => rs.length - (intOf i).toNat)
  case atStart => exact ⟨0, Nat.zero_le _, rfl, rfl, World.grownBy.refl _ _⟩
  case round =>
    obtain ⟨k, hk, rfl, rfl, hg⟩ := hrel
    obtain ⟨wo, rfl⟩ : ∃ x, x = wr := ⟨wr, rfl⟩
    by_cases hlt : k < rs.length
    · obtain ⟨g, o, B, d, rfl, hb1, c0, hd, hsl⟩ := sl_inner' hl hlt
      replace c0 := (hgW.t hg).k c0
      obtain ⟨h0, h5, hpb⟩ := hok.out _ (List.getElem_mem hlt)
      have e1 : rs.getD k [] = rs[k] := by simp [List.getD, hlt]
      have hI := hide (show metI rs a b (k + 1) = metI rs a b k + metR rs[k] a b rs[k].length by conv => lhs; unfold metI; rw [e1])
      have hIb := hbd.out k hk
      clear e1
      generalize metI rs a b k = M at *
      generalize rs[k] = r at *
      replace hpb := hide hpb
      replace hd := hide hd
      obtain ⟨gr, or_, hB, -, hbr, hcell⟩ := hsl.pt h0
      subst hB
      replace hcell := hide hcell
      go_wp2_with fail
      go_loopw [7, 20] (fun s i wx => ∃ m : Nat, m ≤ r.length ∧ i = .int .i64 m ∧ s = .int .i64 (M + metR r a b m) ∧ W.grownBy wx none) (fun _ i _ => r.length - (intOf i).toNat)
      case atStart => exact ⟨0, Nat.zero_le _, rfl, by simp [metR], hg⟩
      case round =>
        clear hg c0
        obtain ⟨m, hm2, rfl, rfl, hg⟩ := hrel
        by_cases hml : m < r.length
        · obtain ⟨j1, hj1⟩ : ∃ j, j = (m + 1) % r.length := ⟨_, rfl⟩
          have hj1b : ((m : Int) + 1) % r.length = j1 := by rw [hj1]; simp
          have hj1l : j1 < r.length := by rw [hj1]; exact Nat.mod_lt _ (by omega)
          have hgx := hgW.t hg
          have q0 := hgx.k (hcell.out m hml).1
          have q1 := hgx.k (hcell.out m hml).2
          have s0 := hgx.k (hcell.out j1 hj1l).1
          have s1 := hgx.k (hcell.out j1 hj1l).2
          have e1 : cor r m = r[m] := cor_lt hml
          have e2 : cor r (m + 1) = r[j1] := by unfold cor; rw [← hj1]; simp [List.getD, hj1l]
          rw [← e1] at q0 q1
          rw [← e2] at s0 s1
          have hS : Hid (metR r a b (m + 1) = metR r a b m + if meetM (cor r m) (cor r (m + 1)) a b then 1 else 0) := rfl
          have hMe := fun wx => meet_any (cor r m) (cor r (m + 1)) a b wx (hpb.out _ (cor_mem h0 _)) (hpb.out _ (cor_mem h0 _)) ha hb
          have hbm := metR_bd r a b m
          generalize metR r a b m = C at *
          generalize cor r m = p at *
          generalize cor r (m + 1) = q at *
          obtain ⟨mm, hmm⟩ : ∃ x, meetM p q a b = x := ⟨_, rfl⟩
          rw [hmm] at hMe hS
          replace hj1 := hide hj1
          clear e1 e2 hmm
          go_upto_region 8 with fail
          obtain ⟨w11, hw11⟩ : ∃ x, x = (wr).alloc (.cells [.int .i64 p.x, .int .i64 p.y].toArray 41) := ⟨_, rfl⟩
          have hg11 : (wr).grownBy w11 none := by rw [hw11]; exact gr_alloc (World.grownBy.refl _ _) _
          have hb11 : Box w11 (wr).heap.size 41 [.int .i64 p.x, .int .i64 p.y] := by rw [hw11]; exact Box.new _ _ _
          have hxs11 := hb11.lt
          rw [← hw11]
          clear hw11
          obtain ⟨x11, hx11⟩ : ∃ x, x = (wr).heap.size := ⟨_, rfl⟩
          rw [← hx11] at hb11 hxs11 ⊢
          have hxl11 : (wr).heap.size ≤ x11 := by omega
          clear hx11
          replace s0 := hg11.k s0
          replace s1 := hg11.k s1
          obtain ⟨⟨a0, a1⟩, b0, b1⟩ := hC.out _ (hg.t hg11)
          obtain ⟨y0, -⟩ := hb11.c 0 rfl
          obtain ⟨y1, -⟩ := hb11.c 1 rfl
          clear q0 q1
          refine wp_region_tree (fun wx => w11.grownBy wx none) [1, 2, 2, 2, 2, 2, 2, 2, 1, 1, 1, 0] (.bl 0 (.bl 1 (.bl 2 (.bl 3 (.bl 4 (.bl 5 (.bl 6 (.bl 7 (.bl 8 (.bl 9 (.bl 10 (.ef 11 .done)))))))))))) (by kernel_rfl) (by kernel_rfl) (gr_drew (World.grownBy.refl _ _)) ?_
          obtain ⟨W1, hW1⟩ : ∃ x, x = (w11).drew := ⟨_, rfl⟩
          rw [← hW1]
          have hgW1 : (w11).grownBy W1 none := by rw [hW1]; exact gr_drew (World.grownBy.refl _ _)
          clear hW1
          refine tree_b rfl rfl rfl rfl _ rfl (by simp) (fun K hK => ?_)
          apply Exists.intro
          refine ⟨fun wq hq K' hK' => ?_, ?_⟩
          · have z0 := hq.k y0
            have z1 := hq.k y1
            have z2 := hq.k s0
            have z3 := hq.k s1
            have z4 := hq.k a0
            have z5 := hq.k a1
            have z6 := hq.k b0
            have z7 := hq.k b1
            go_wp2_with fail
            exact hK'
          go_simp
          refine hK _ ?_
          clear hK K
          refine tree_p rfl rfl rfl rfl _ rfl (by simp) (fun K hK => ?_)
          apply Exists.intro
          refine ⟨fun wq K' hK' => ?_, ?_⟩
          · go_wp2_with fail
            exact hK'
          go_simp
          refine hK _ ?_
          clear hK K
          refine tree_p rfl rfl rfl rfl _ rfl (by simp) (fun K hK => ?_)
          apply Exists.intro
          refine ⟨fun wq K' hK' => ?_, ?_⟩
          · go_wp2_with fail
            exact hK'
          go_simp
          refine hK _ ?_
          clear hK K
          refine tree_p rfl rfl rfl rfl _ rfl (by simp) (fun K hK => ?_)
          apply Exists.intro
          refine ⟨fun wq K' hK' => ?_, ?_⟩
          · go_wp2_with fail
            exact hK'
          go_simp
          refine hK _ ?_
          clear hK K
          refine tree_p rfl rfl rfl rfl _ rfl (by simp) (fun K hK => ?_)
          apply Exists.intro
          refine ⟨fun wq K' hK' => ?_, ?_⟩
          · go_wp2_with fail
            exact hK'
          go_simp
          refine hK _ ?_
          clear hK K
          refine tree_p rfl rfl rfl rfl _ rfl (by simp) (fun K hK => ?_)
          apply Exists.intro
          refine ⟨fun wq K' hK' => ?_, ?_⟩
          · go_wp2_with fail
            exact hK'
          go_simp
          refine hK _ ?_
          clear hK K
          refine tree_p rfl rfl rfl rfl _ rfl (by simp) (fun K hK => ?_)
          apply Exists.intro
          refine ⟨fun wq K' hK' => ?_, ?_⟩
          · go_wp2_with fail
            exact hK'
          go_simp
          refine hK _ ?_
          clear hK K
          refine tree_p rfl rfl rfl rfl _ rfl (by simp) (fun K hK => ?_)
          apply Exists.intro
          refine ⟨fun wq K' hK' => ?_, ?_⟩
          · go_wp2_with fail
            exact hK'
          go_simp
          refine hK _ ?_
          clear hK K
          refine tree_b rfl rfl rfl rfl _ rfl (by simp) (fun K hK => ?_)
          apply Exists.intro
          refine ⟨fun wq hq K' hK' => ?_, ?_⟩
          · have z0 := hq.k y0
            have z1 := hq.k y1
            have z2 := hq.k s0
            have z3 := hq.k s1
            have z4 := hq.k a0
            have z5 := hq.k a1
            have z6 := hq.k b0
            have z7 := hq.k b1
            go_wp2_with fail
            exact hK'
          go_simp
          refine hK _ ?_
          clear hK K
          refine tree_b rfl rfl rfl rfl _ rfl (by simp) (fun K hK => ?_)
          apply Exists.intro
          refine ⟨fun wq hq K' hK' => ?_, ?_⟩
          · have z0 := hq.k y0
            have z1 := hq.k y1
            have z2 := hq.k s0
            have z3 := hq.k s1
            have z4 := hq.k a0
            have z5 := hq.k a1
            have z6 := hq.k b0
            have z7 := hq.k b1
            go_wp2_with fail
            exact hK'
          go_simp
          refine hK _ ?_
          clear hK K
          refine tree_b rfl rfl rfl rfl _ rfl (by simp) (fun K hK => ?_)
          apply Exists.intro
          refine ⟨fun wq hq K' hK' => ?_, ?_⟩
          · have z0 := hq.k y0
            have z1 := hq.k y1
            have z2 := hq.k s0
            have z3 := hq.k s1
            have z4 := hq.k a0
            have z5 := hq.k a1
            have z6 := hq.k b0
            have z7 := hq.k b1
            go_wp2_with fail
            exact hK'
          go_simp
          refine hK _ ?_
          clear hK K
          refine tree_e0 (by kernel_rfl) rfl rfl (fun K hK => ?_)
          go_wp2_with fail
          refine (hMe _).mono ?_
          rintro e w12 ⟨rfl, hg12⟩
          go_wp2_with fail
          try go_simp
          refine hK _ _ trivial ?_
          clear hK K
          refine tree_done ?_
          have hgE := hg.t (hg11.t (gr_trans hgW1 hg12))
          clear hMe y0 y1 s0 s1 a0 a1 b0 b1
          cases mm with
          | true =>
            have hS2 : Hid (M + metR r a b (m + 1) = M + C + 1) := by rw [Hid, hS.out, if_pos rfl]; omega
            clear hS
            go_wp2_with fail
            first
              | exact ⟨⟨m + 1, by omega, by go_num, by rw [hS2.out], hgE⟩, by simp [intOf]; omega⟩
              | (go_roundw; (case rel => exact ⟨m + 1, by omega, by go_num, by rw [hS2.out], hgE⟩); (case measure => simp [intOf]; omega))
          | false =>
            have hS2 : Hid (M + metR r a b (m + 1) = M + C) := by rw [Hid, hS.out, if_neg (by decide)]; omega
            clear hS
            go_wp2_with fail
            first
              | exact ⟨⟨m + 1, by omega, by go_num, by rw [hS2.out], hgE⟩, by simp [intOf]; omega⟩
              | (go_roundw; (case rel => exact ⟨m + 1, by omega, by go_num, by rw [hS2.out], hgE⟩); (case measure => simp [intOf]; omega))
        · obtain rfl : m = r.length := by omega
          rw [← hI.out]
          go_wp2_with fail
          first
            | exact ⟨⟨k + 1, by omega, by go_num, rfl, hg⟩, by simp [intOf]; omega⟩
            | (go_roundw; (case rel => exact ⟨k + 1, by omega, by go_num, rfl, hg⟩); (case measure => simp [intOf]; omega))
    · obtain rfl : k = rs.length := by omega
      go_wp2_with fail
      go_ret
      exact ⟨rfl, hgW.t hg⟩

end Go.Proofs.Ytmhnjpcjagbdhaa

namespace Go.Proofs.Ytmhnjpcjagbdhaa
open Go Go.RowKit Go.Bl

theorem rings_ok {rs : List (List Pt)} (h : regF rs = 0) : (∀ r ∈ rs, 0 < r.length ∧ r.length ≤ 500 ∧ ∀ p ∈ r, bdP p) ∧ rs.length ≤ 100 := by
  unfold regF at h
  split at h
  · cases h
  · rename_i h0
    split at h
    · rename_i h2; exact absurd h h2
    · rename_i h2
      refine ⟨fun r hr => ?_, by omega⟩
      obtain ⟨i, hi, rfl⟩ := List.getElem_of_mem hr
      have := scanN_zero' (by omega : scanN (fun k => ringF (rs.getD k [])) rs.length = 0) i hi
      simp only [List.getD_eq_getElem?_getD, List.getElem?_eq_getElem hi, Option.getD_some] at this
      have h3 := ringF_ok this
      exact ⟨by omega, h3.2.1, h3.2.2.1⟩

def meetsE (rs : List (List Pt)) (a b : Pt) : Int := if regF rs ≠ 0 then regF rs else if farP a || farP b then 1 else 0

def meetsN (rs : List (List Pt)) (a b : Pt) : Int := if meetsE rs a b = 0 then metF rs a b else 0

set_option maxHeartbeats 2000000 in
set_option maxRecDepth 100000 in
theorem meets_any (A : Option Addr) (c : Nat) (rs : List (List Pt)) (a b : Pt) (w : World) (hl : Sl w 0 A rs) (hs : (flatK rs rs.length).length ≤ 1000000) :
    Calls Try.prog 9 #[.slice A rs.length c, (.agg #[.int .i64 (a).x, .int .i64 (a).y]), (.agg #[.int .i64 (b).x, .int .i64 (b).y])] w fun e w' => e = .returned (.tuple #[.int .i64 (meetsN rs a b), .int .i64 (meetsE rs a b)]) ∧ w.grownBy w' none := by
  have hCR := fun wx (hx : w.grownBy wx none) => checkRegion_any A c rs wx (hl.pure hx) hs
  by_cases hF : regF rs = 0
  · obtain ⟨hok, hrs⟩ := rings_ok hF
    have hE : Hid (meetsE rs a b = if farP a || farP b then 1 else 0) := by rw [Hid]; unfold meetsE; rw [if_neg (by rw [hF]; simp)]
    have hM := fun wx (hx : w.grownBy wx none) (ha : bdP a) (hb : bdP b) => met_any A c rs a b wx (hl.pure hx) hok hrs ha hb
    have hN : Hid (meetsN rs a b = if meetsE rs a b = 0 then metF rs a b else 0) := rfl
    have hfa := hide (@far_bd a)
    have hfb := hide (@far_bd b)
    have hIa := hide (isFar_any a)
    have hIb := hide (isFar_any b)
    rw [hF] at hCR
    clear hF hok hrs
    generalize metF rs a b = M at *
    go_enter Try.func9, Try.ntmps9
    go_upto_region 1 with fail
    obtain ⟨W, hW⟩ : ∃ W, W = (w.alloc (.cells #[.int .i64 a.x, .int .i64 a.y] 41)).alloc (.cells #[.int .i64 b.x, .int .i64 b.y] 41) := ⟨_, rfl⟩
    have hgW : w.grownBy W none := by rw [hW]; exact (by repeat (first | exact World.grownBy.refl _ _ | assumption | refine gr_alloc ?_ _ | (apply gr_tail; assumption) | refine gr_drewN ?_ _ | refine gr_drew ?_))
    have a0 : W.cell? ⟨w.heap.size, 0, none⟩ = some (.int .i64 a.x) := by rw [hW]; go_simp
    have a1 : W.cell? ⟨w.heap.size, 1, none⟩ = some (.int .i64 a.y) := by rw [hW]; go_simp
    have b0 : W.cell? ⟨w.heap.size + 1, 0, none⟩ = some (.int .i64 b.x) := by rw [hW]; go_simp
    have b1 : W.cell? ⟨w.heap.size + 1, 1, none⟩ = some (.int .i64 b.y) := by rw [hW]; go_simp
    rw [← hW]
    clear hW
    go_wp2_with fail
    refine (hCR _ hgW).mono ?_
    rintro e w1 ⟨rfl, hg1⟩
    clear hCR
    replace a0 := hg1.k a0
    replace a1 := hg1.k a1
    replace b0 := hg1.k b0
    replace b1 := hg1.k b1
    replace hg1 := hgW.t hg1
    clear hgW
    go_wp2_with fail
    refine (hIa.out _).mono ?_
    rintro e w2 ⟨rfl, hg2⟩
    replace a0 := hg2.k a0
    replace a1 := hg2.k a1
    replace b0 := hg2.k b0
    replace b1 := hg2.k b1
    replace hg2 := hg1.t hg2
    clear hg1
    cases hfa' : farP a with
    | true =>
      rw [hfa'] at hE
      have hE1 : Hid (meetsE rs a b = 1) := by rw [Hid, hE.out]; rfl
      have hN0 : Hid (meetsN rs a b = 0) := by rw [Hid, hN.out, hE1.out]; rfl
      clear hE hN hfa'
      go_wp2_with fail
      go_ret2
      rw [hE1.out, hN0.out]
      exact ⟨rfl, hg2⟩
    | false =>
      rw [hfa'] at hE
      go_wp2_with fail
      refine (hIb.out _).mono ?_
      rintro e w3 ⟨rfl, hg3⟩
      replace a0 := hg3.k a0
      replace a1 := hg3.k a1
      replace b0 := hg3.k b0
      replace b1 := hg3.k b1
      replace hg3 := hg2.t hg3
      cases hfb' : farP b with
      | true =>
        rw [hfb'] at hE
        have hE1 : Hid (meetsE rs a b = 1) := by rw [Hid, hE.out]; rfl
        have hN0 : Hid (meetsN rs a b = 0) := by rw [Hid, hN.out, hE1.out]; rfl
        clear hE hN hfa' hfb'
        go_wp2_with fail
        go_ret2
        rw [hE1.out, hN0.out]
        exact ⟨rfl, hg3⟩
      | false =>
        rw [hfb'] at hE
        have hE1 : Hid (meetsE rs a b = 0) := by rw [Hid, hE.out]; rfl
        have hN0 : Hid (meetsN rs a b = M) := by rw [Hid, hN.out, hE1.out]; rfl
        have hMM := hM _ hg3 (hfa.out hfa') (hfb.out hfb')
        clear hE hN hfa' hfb' hM
        go_wp2_with fail
        refine hMM.mono ?_
        rintro e w5 ⟨rfl, hg5⟩
        go_wp2_with fail
        go_ret2
        rw [hE1.out, hN0.out]
        exact ⟨rfl, hg3.t hg5⟩
  · have hE : Hid (meetsE rs a b = regF rs) := by rw [Hid]; unfold meetsE; rw [if_pos hF]
    have hN : Hid (meetsN rs a b = 0) := by rw [Hid]; unfold meetsN; rw [hE.out, if_neg hF]
    have hb0 : (regF rs != 0) = true := by simp [hF]
    rw [hE.out, hN.out]
    generalize regF rs = F at *
    clear hE hN
    replace hF := hide hF
    go_enter Try.func9, Try.ntmps9
    go_wp2_with fail
    refine (hCR _ (by repeat (first | exact World.grownBy.refl _ _ | assumption | refine gr_alloc ?_ _ | (apply gr_tail; assumption) | refine gr_drewN ?_ _ | refine gr_drew ?_))).mono ?_
    rintro e w1 ⟨rfl, hg1⟩
    go_wp2_with fail
    go_ret2
    exact ⟨rfl, gr_trans (by repeat (first | exact World.grownBy.refl _ _ | assumption | refine gr_alloc ?_ _ | (apply gr_tail; assumption) | refine gr_drewN ?_ _ | refine gr_drew ?_)) hg1⟩

end Go.Proofs.Ytmhnjpcjagbdhaa

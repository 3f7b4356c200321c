/- Contracts of functions that this seat's laws reach, each: what one call returns and what it leaves in memory; no condition beyond each theorem's own hypotheses. -/
import Derived.Test.YtejmbaiioblfeaaGreatDoorZqNrmA
import Derived.Test.YtejmbaiioblfeaaGreatDoorZqHulX
import Derived.Test.YtejmbaiioblfeaaGreatDoorZqNorR
import Derived.Test.YtejmbaiioblfeaaGreatDoorZqRgClone
import Derived.Test.YtejmbaiioblfeaaGreatDoorZqRegRev
import Derived.Test.YtejmbaiioblfeaaGreatDoorZqRegH
import Derived.Test.YtejmbaiioblfeaaGreatDoorZqHulE
import Derived.Deep.DeepCutAuto
set_option linter.unusedVariables false
set_option linter.unusedSimpArgs false
namespace Go.Proofs.YtejmbaiioblfeaaGreatDoor
open Go Go.RowKit Go.Bl

def OM (rs : List (List Pt)) (i : Nat) : List Pt := orient (dptF rs i) (rs.getD i [])
/-- a ring as it lies in a row: of new memory, the normal one of m -/
def RgNm (w : World) (lo : Nat) (A : Option Addr) (m : List Pt) (r : RawS) : Prop := ∃ l, NOkR w lo A r l ∧ IsNorm m l ∧ 3 ≤ l.length ∧ l.length ≤ 500
section
variable {w w' : World} {lo : Nat} {A A' : Option Addr} {m : List Pt} {r : RawS}

theorem RgNm.gr {q : Option Nat} (h : RgNm w lo A m r) (hg : w.grownBy w' q) (hq : ∀ g, blk r.A = some g → q ≠ some g) : RgNm w' lo A m r := by
  obtain ⟨l, h1, h2⟩ := h
  exact ⟨l, h1.gr hg hq, h2⟩

theorem RgNm.pure (h : RgNm w lo A m r) (hg : w.grownBy w' none) : RgNm w' lo A m r := h.gr hg (fun g _ e => by cases e)

theorem RgNm.ne (h : RgNm w lo A m r) : ∀ g, blk r.A = some g → blk A ≠ some g := by
  obtain ⟨l, h1, -⟩ := h
  exact h1.1.2

theorem RgNm.lower {lo' : Nat} (h : RgNm w lo A m r) (hl : lo' ≤ lo) : RgNm w lo' A m r := by
  obtain ⟨l, ⟨⟨⟨h1, h2, h3, h4⟩, h5⟩, h6⟩, h7⟩ := h
  exact ⟨l, ⟨⟨⟨h1, h2, h3.mono hl, fun g hb => ⟨Nat.le_trans hl (h4 g hb).1, (h4 g hb).2⟩⟩, h5⟩, h6⟩, h7⟩

theorem RgNm.grew (h : RgNm w lo A m r) (hG : Grew A A' w w') : RgNm w' lo A' m r := by
  obtain ⟨l, hx, h2⟩ := h
  refine ⟨l, ⟨⟨NestOf.gr hx.1.1 hG.1 fun g hb => hx.1.2 g hb, fun g hb => ?_⟩, ThawR.gr hx.2 (fun g e => (NestOf.lt hx.1.1 (g := g) e).2) hG.1 (fun g hb => hx.1.2 g hb)⟩, h2⟩
  rcases hG.2 with h | h
  · rw [h]; exact hx.1.2 g hb
  · rw [h]; have := (NestOf.lt hx.1.1 (g := g) hb).2; intro e; injection e; omega
end
/-- the ring that a row's entry reads as -/
theorem RgNm.fst {w : World} {lo g : Nat} {m : List Pt} {r : RawS} (h : RgNm w lo (some ⟨g, 0, none⟩) m r) : ∃ l, NOkR w lo (some ⟨g, 0, none⟩) r l ∧ IsNorm m l ∧ FstAt w g r (cor l 0) := by
  obtain ⟨l, hx, hn, h7, h8⟩ := h
  obtain ⟨⟨⟨h1, h2, h3, h4⟩, h5⟩, h6⟩ := hx
  obtain ⟨ga, oa, e, -, hgl, hc⟩ := h3.pt (by omega)
  have hb : blk r.A = some ga := by rw [show r.A = some ⟨ga, oa, none⟩ from e]; rfl
  have c := hc 0 (by omega)
  rw [Nat.zero_mul, Nat.add_zero] at c
  have e0 : cor l 0 = l[0] := cor_lt (by omega)
  exact ⟨l, ⟨⟨⟨h1, h2, h3, h4⟩, h5⟩, h6⟩, hn, ga, oa, e, by rw [h1]; omega, fun e2 => h5 ga hb (by rw [e2]; rfl), hgl, by rw [e0]; exact c.1, by rw [e0]; exact c.2⟩

section
open Go.Sort Go.Lib

set_option maxHeartbeats 1000000 in
theorem sortRgX_any (g c lo : Nat) (raws : List RawS) (w : World) (ho : Own w lo 36 (some ⟨g, 0, none⟩) c raws) (hl : raws.length ≤ 1000000) (h0 : 0 < raws.length) (P : Nat → Pt) (hP : ∀ i (h : i < raws.length), FstAt w g raws[i] (P i)) :
    Calls Tryz.prog 37 #[.slice (some ⟨g, 0, none⟩) raws.length c, .func (.func 38) #[] #[]] w fun e w' => e = .returned (.tuple #[]) ∧ ∃ o : List Nat, o.Perm (List.range raws.length) ∧ (∀ i j (hi : i < o.length) (hj : j < o.length), i < j → ¬ cmpPt (P o[j]) (P o[i]) < 0) ∧ Own w' lo 36 (some ⟨g, 0, none⟩) c (o.map fun i => raws.getD i ⟨none, 0, 0⟩) ∧ w.grownBy w' (some g) := by
  have eg : ∀ args w, (callFunc 38 args).run Tryz.prog w = .ok (.enter 38 args) w := enters_of Tryz.func38 (by kernel_rfl) rfl
  haveI : Inhabited (Fin raws.length) := ⟨⟨0, h0⟩⟩
  let enc : Fin raws.length → Value := fun i => .slice raws[i].A raws[i].n raws[i].c
  let cf : Fin raws.length → Fin raws.length → Int := fun i j => cmpPt (P i) (P j)
  have hO : SWO (ltOf cf) := ⟨fun x => swoPt.irrefl _, fun x y z => swoPt.trans _ _ _, fun x y z => swoPt.ntrans _ _ _⟩
  have hfr : ∀ m (d : Array (Fin raws.length)) os, w.grownBy (sortWorld enc w g 0 m d os) (some g) := fun m d os => by rw [sortWorld_eq]; exact grownBy_sortedV _
  let d0 : Array (Fin raws.length) := (List.finRange raws.length).toArray
  have hd0 : d0.size = raws.length := by simp [d0]
  have hH : Holds enc w g 0 d0 := fun j hj => by
    have hj2 : j < raws.length := by rw [← hd0]; exact hj
    obtain ⟨c1, hr, hc⟩ := ho.cell_at (by decide) hj2
    have hr' : c1 = [.slice raws[j].A raws[j].n raws[j].c] := hr
    subst hr'
    have e : d0[j]! = ⟨j, hj2⟩ := by rw [getElem!_pos d0 j hj]; simp [d0]
    rw [e, Nat.zero_add]
    have h1 := hc 0 _ rfl
    rw [show Enc.sz RawS = 1 from rfl, Nat.mul_one] at h1
    exact ⟨h1, ho.frozen j⟩
  have hcmp : CmpLays1 Tryz.prog 38 #[] enc cf g 0 d0.size w := fun m os dk _ x y => by
    obtain ⟨ga, oa, a1, a2, -, -, a5, a6⟩ := (hP x x.2).gr (hfr m dk os)
    obtain ⟨gb, ob, b1, b2, -, -, b5, b6⟩ := (hP y y.2).gr (hfr m dk os)
    have h := normalCmp_any ga oa gb ob raws[x].n raws[y].n raws[x].c raws[y].c (P x) (P y) (sortWorld enc w g 0 m dk os) a2 b2 a5 a6 b5 b6
    rw [← a1, ← b1] at h
    exact h.mono fun _ _ h => ⟨h.1, h.2.eq⟩
  have hcon := Any.slices_SortFunc Tryz.sortRing enc (fun x => rfl) cf hO 38 #[] g 0 c d0 w eg hcmp hH (ho.blk_lt rfl).2 (by rw [hd0]; omega)
  rw [hd0] at hcon
  change Calls Tryz.prog 37 _ _ _ at hcon
  refine hcon.mono ?_
  rintro e w' ⟨rfl, d', n, os, hp, hsrt, rfl⟩
  have hp2 : PermIn 0 d0.size d0 d' := by rw [hd0]; exact hp
  obtain ⟨h1, h2⟩ := permIn_all hp2
  have hmap : (List.finRange raws.length).map (fun i : Fin raws.length => (i : Nat)) = List.range raws.length := by
    apply List.ext_getElem
    · simp
    · intro i h1 h2
      simp
  have hpr : (d'.toList.map fun i : Fin raws.length => (i : Nat)).Perm (List.range raws.length) := by
    have h3 := h1.map (fun i : Fin raws.length => (i : Nat))
    have h4 : d0.toList.map (fun i : Fin raws.length => (i : Nat)) = List.range raws.length := hmap
    rwa [h4] at h3
  have hrw : (d'.toList.map fun i : Fin raws.length => (i : Nat)).map (fun i => raws.getD i ⟨none, 0, 0⟩) = d'.toList.map fun i : Fin raws.length => raws[i] := by
    rw [List.map_map]
    refine List.map_congr_left fun i _ => ?_
    show raws.getD (i : Nat) ⟨none, 0, 0⟩ = raws[(i : Nat)]
    rw [List.getD_eq_getElem?_getD, List.getElem?_eq_getElem i.2, Option.getD_some]
  have hF : (d'.map enc).toList = ((d'.toList.map fun i : Fin raws.length => raws[i]).map EncL.e).flatten := by
    rw [Array.toList_map]
    generalize d'.toList = L
    induction L with
    | nil => rfl
    | cons x L ih => simp only [List.map_cons, List.flatten_cons, ih]; rfl
  have hlen : (d'.toList.map fun i : Fin raws.length => raws[i]).length = raws.length := by
    have := hpr.length_eq
    simpa using this
  rw [sortWorld_eq]
  obtain ⟨h5, h6⟩ := ho.rowPut (n := n) (os := os) hlen hF
  refine ⟨rfl, _, hpr, fun i j hi hj hij => ?_, by rw [hrw]; exact h5, h6⟩
  have hsz2 : d'.size = raws.length := by rw [h2, hd0]
  simp only [List.length_map, Array.length_toList] at hi hj
  have := hsrt i j (Nat.zero_le _) hij (by omega)
  rw [getElem!_pos d' i hi, getElem!_pos d' j hj] at this
  simp only [List.getElem_map, Array.getElem_toList]
  intro hc
  have h7 : ltOf cf d'[j] d'[i] = true := decide_eq_true hc
  rw [this] at h7
  cases h7
end

set_option maxHeartbeats 4000000 in
set_option maxRecDepth 100000 in
theorem normalX_any (A : Option Addr) (c : Nat) (rs : List (List Pt)) (w : World) (hl : Sl w 0 A rs) (hF : regF rs = 0) (hs : (flatK rs rs.length).length ≤ 1000000) :
    Calls Tryz.prog 7 #[.slice A rs.length c] w fun e w' => ∃ (A' : Option Addr) (c' : Nat) (M : List (List Pt)) (o : List Nat), e = .returned (.tuple #[.slice A' M.length c', .int .i64 0]) ∧ Sl w' w.heap.size A' M ∧ NormS rs M o ∧ w.grownBy w' none := by
  have hC := hide (checkRegion_any A c rs w hl hs)
  rw [hF] at hC
  have hok := rok_of hF
  have hall0 := hide (rok2_of hF).ring
  have hfew := hok.few
  have hDp := hide fun W (h : w.grownBy W none) => depths_any A c rs W (hl.pure h) hok
  replace hok := hide hok
  clear hF
  obtain ⟨i0, hi, hz, h1, h2⟩ := info_parts info_ring
  replace hi := hide hi
  replace hz := hide hz
  replace h1 := hide h1
  replace h2 := hide h2
  go_enter Tryz.func7, Tryz.ntmps7
  go_wp2_with fail
  refine hC.out.mono ?_
  rintro e w1 ⟨rfl, hg1⟩
  clear hC
  go_wp2_with fail
  refine (hDp.out w1 hg1).mono ?_
  rintro e w2 ⟨gd, rfl, hOd, hg2⟩
  have hgw2 := hg1.t hg2
  clear hDp hg1 hg2
  have hself := World.grownBy.refl w2 none
  go_wp2_with fail
  go_loopw [5, 18] (fun o i wr => ∃ (k : Nat) (raws : List RawS) (A2 : Option Addr) (c2 : Nat), k ≤ rs.length ∧ i = .int .i64 k ∧ o = .slice A2 raws.length c2 ∧ Hid (raws.length = k) ∧ Own wr w2.heap.size 36 A2 c2 raws ∧ Hid (∀ i (h : i < raws.length), RgNm wr w2.heap.size A2 (OM rs i) raws[i]) ∧ Hid (k = 0 → A2 = none ∧ c2 = 0) ∧ w2.grownBy wr none) (fun _ i _ => rs.length - (intOf i).toNat)
  case atStart => exact ⟨0, [], none, 0, Nat.zero_le _, rfl, rfl, rfl, Own.nil _ _ _, (fun i h => absurd h (by simp)), fun _ => ⟨rfl, rfl⟩, hself⟩
  case round =>
    clear hself
    obtain ⟨k, raws, A2, c2, hk, rfl, rfl, hrl, hor, hall, hk0, hgr⟩ := hrel
    by_cases hlt : k < rs.length
    · have hOdr := hOd.pure hgr
      have hdl : k < (dptsF rs).length := by rw [dptsF, dptsK_len]; exact hlt
      have cd := hOdr.cell_int hdl
      have hDb : 0 ≤ (dptsF rs)[k] ∧ (dptsF rs)[k] ≤ 100 := by
        have e : (dptsF rs)[k] = dptF rs k := by simp [dptsF, dptsK, hlt]
        rw [e]
        have := dptK_bd rs k rs.length
        unfold dptF
        omega
      have hOM : Hid (OM rs k = if (!(decide (0 < dblF rs[k]) == ((dptsF rs)[k] % 2 == 0))) = true then rs[k].reverse else rs[k]) := by
        have e : (dptsF rs)[k] = dptF rs k := by simp [dptsF, dptsK, hlt]
        rw [Hid, e]
        unfold OM orient
        rw [at_getD hlt]
        rfl
      have hrg := hide (hall0.out _ (List.getElem_mem hlt))
      generalize (dptsF rs)[k] = D at *
      obtain ⟨g, o, Bk, dk, rfl, hb1, c0, -, hsl⟩ := sl_inner' (hl.pure (hgw2.t hgr)) hlt
      have hlen := hok.out.len _ (List.getElem_mem hlt)
      have hbd := hide (hok.out.bd _ (List.getElem_mem hlt))
      generalize rs[k] = r at *
      have hCl := hide (cloneRg_any Bk dk r wr (hsl.mono (Nat.zero_le _)) (by omega))
      clear hdl hOdr hsl
      go_wp2_with fail
      refine hCl.out.mono ?_
      rintro e w4 ⟨A4, c4, rfl, hO4, hg4⟩
      clear hCl cd c0
      have hDo := hide (doubled_any A4 c4 r w4 (hO4.sl.mono (Nat.zero_le _)) (by omega) (by omega) hbd.out)
      go_wp2_with fail
      refine hDo.out.mono ?_
      rintro e w5 ⟨rfl, hg5⟩
      generalize dblF r = X at *
      have hO5 := hO4.pure hg5
      have hg45 := hg4.t hg5
      clear hDo hO4 hg4 hg5
      obtain ⟨g4, rfl, hgl4, -⟩ := hO5.shape (by omega)
      have hRv := hide (reverseRing_any _ g4 c4 r w5 hO5 (by omega) (by omega))
      go_upto_if 34 with fail
      generalize (!(decide (0 < X) == (D % 2 == 0))) = T at hOM ⊢
      go_cut [] (fun wx => ∃ m : List Pt, Hid (m.length = r.length) ∧ Hid (m = OM rs k) ∧ Own wx wr.heap.size 29 (some ⟨g4, 0, none⟩) c4 m ∧ wr.grownBy wx none)
      case first =>
        cases T
        · go_wp2_with fail
          go_meet
          exact ⟨r, rfl, (by rw [Hid, hOM.out]; rfl), hO5, hg45⟩
        · go_wp2_with fail
          refine hRv.out.mono ?_
          rintro e w6 ⟨⟨v, rfl⟩, hO6, hg6⟩
          go_wp2_with fail
          go_meet
          exact ⟨r.reverse, List.length_reverse, (by rw [Hid, hOM.out]; rfl), hO6, gr_new hg45 hg6 hgl4⟩
      case rest =>
      clear hRv hO5 hg45 hbd
      obtain ⟨m, hml, hmO, hOm, hgc⟩ := hcut
      generalize hwq : wc = w6 at *
      clear hwq
      have hMi := hide (minLow_any (some ⟨g4, 0, none⟩) c4 m w6 (hOm.sl.mono (Nat.zero_le _)) (by have := hml.out; omega))
      rw [hml.out] at hMi
      go_wp2_with fail
      refine hMi.out.mono ?_
      rintro e w7 ⟨p, rfl, hpm, hlp, hg7⟩
      replace hlp := hide hlp
      have hIx := hide (indexAt_any (some ⟨g4, 0, none⟩) c4 m p w7 ((hOm.pure hg7).sl.mono (Nat.zero_le _)) hpm)
      rw [hml.out] at hIx
      clear hMi hpm
      go_wp2_with fail
      refine hIx.out.mono ?_
      rintro e w8 ⟨j, rfl, hj, hjp, hg8⟩
      have hNm : Hid (IsNorm (OM rs k) (m.drop j ++ m.take j)) := by
        have hj2 : j < m.length := by rw [hml.out]; exact hj
        obtain ⟨⟨q1, -⟩, q2⟩ := rot_take (r := m) (k := j) (by omega)
        rw [Hid, ← hmO.out]
        refine ⟨q1, j, hj2, q2, fun x hx => ?_⟩
        have e : cor m j = p := by unfold cor; rw [Nat.mod_eq_of_lt hj2]; exact hjp
        rw [e]
        exact hlp.out x (by rw [List.take_of_length_le (by rw [hml.out]; exact Nat.le_refl _)]; exact hx)
      clear hjp hlp
      have hOj := hOm.pure (hg7.t hg8)
      have hgj := hgc.t (hg7.t hg8)
      clear hIx hOm hgc hg7 hg8
      have hcp := hOj.cap
      rw [hml.out] at hcp
      have hjm : j < m.length := by rw [hml.out]; exact hj
      have hDr : Hid (∀ W, w8.grownBy W none → Sl W 0 (some ⟨g4, j * 2, none⟩) (m.drop j)) := fun W h => by
        have h2 : Sl W _ (some ⟨g4, 0 + j * 2, none⟩) (m.drop j) := (hOj.pure h).sl.dropH j
        rw [Nat.zero_add] at h2
        exact h2.mono (Nat.zero_le _)
      have hTk : Hid (∀ W, w8.grownBy W none → Sl W 0 (some ⟨g4, 0, none⟩) (m.take j)) := fun W h => ((hOj.pure h).takeH j (by omega)).sl.mono (Nat.zero_le _)
      have hDl : Hid (r.length - j = (m.drop j).length) := by rw [Hid, List.length_drop, hml.out]
      have hTl : Hid (j = (m.take j).length) := by rw [Hid, List.length_take]; omega
      have hZl : Hid ((flatK [m.drop j, m.take j] 2).length = r.length) := by
        rw [Hid, flatK_all (Nat.le_refl 2)]
        simp only [List.flatten_cons, List.flatten_nil, List.append_nil, List.length_append]
        rw [← hDl.out, ← hTl.out]
        omega
      have hor8 := hor.pure hgj
      have hgr8 := hgr.t hgj
      have hZn : Hid (IsNorm (OM rs k) (flatK [m.drop j, m.take j] [m.drop j, m.take j].length)) := by
        rw [Hid, flatK_all (Nat.le_refl _)]
        simp only [List.flatten_cons, List.flatten_nil, List.append_nil]
        exact hNm.out
      have hall8 : Hid (∀ i (h : i < raws.length), RgNm w8 w2.heap.size A2 (OM rs i) raws[i]) := fun i h => (hall.out i h).pure hgj
      have hrk : raws.length ≤ 100 := by rw [hrl.out]; omega
      clear hor hgr hall hOj hgj hjm hgl4
      go_upto_region 12 with fail
      refine wp_region_tree (fun wx => w8.grownBy wx none) [2, 2, 2, 2, 2, 2, 2, 0, 0, 0, 0, 2] (.bl 0 (.bl 1 (.bl 2 (.bl 3 (.bl 4 (.bl 5 (.bl 6 (.ef 7 (.ef 8 (.ef 9 (.ef 10 (.bl 11 .done)))))))))))) (by kernel_rfl) (by kernel_rfl) (gr_drew (World.grownBy.refl _ _)) ?_
      obtain ⟨u0, hu0⟩ : ∃ x, x = (w8).drew := ⟨_, rfl⟩
      rw [← hu0]
      have hgu0 : (w8).grownBy u0 none := by rw [hu0]; exact gr_drew (World.grownBy.refl _ _)
      clear hu0
      refine tree_p rfl rfl rfl rfl _ rfl (by simp) (fun K hK => ?_)
      apply Exists.intro
      refine ⟨fun wq K' hK' => ?_, ?_⟩
      · go_wp2_with fail
        exact hK'
      go_simp
      refine hK _ ?_
      clear hK K
      refine tree_p rfl rfl rfl rfl _ rfl (by simp) (fun K hK => ?_)
      apply Exists.intro
      refine ⟨fun wq K' hK' => ?_, ?_⟩
      · go_wp2_with fail
        exact hK'
      go_simp
      refine hK _ ?_
      clear hK K
      refine tree_p rfl rfl rfl rfl _ rfl (by simp) (fun K hK => ?_)
      apply Exists.intro
      refine ⟨fun wq K' hK' => ?_, ?_⟩
      · go_wp2_with fail
        exact hK'
      go_simp
      refine hK _ ?_
      clear hK K
      refine tree_p rfl rfl rfl rfl _ rfl (by simp) (fun K hK => ?_)
      apply Exists.intro
      refine ⟨fun wq K' hK' => ?_, ?_⟩
      · go_wp2_with fail
        exact hK'
      go_simp
      refine hK _ ?_
      clear hK K
      refine tree_p rfl rfl rfl rfl _ rfl (by simp) (fun K hK => ?_)
      apply Exists.intro
      refine ⟨fun wq K' hK' => ?_, ?_⟩
      · go_wp2_with fail
        exact hK'
      go_simp
      refine hK _ ?_
      clear hK K
      refine tree_p rfl rfl rfl rfl _ rfl (by simp) (fun K hK => ?_)
      apply Exists.intro
      refine ⟨fun wq K' hK' => ?_, ?_⟩
      · go_wp2_with fail
        exact hK'
      go_simp
      refine hK _ ?_
      clear hK K
      refine tree_p rfl rfl rfl rfl _ rfl (by simp) (fun K hK => ?_)
      apply Exists.intro
      refine ⟨fun wq K' hK' => ?_, ?_⟩
      · go_wp2_with fail
        exact hK'
      go_simp
      refine hK _ ?_
      clear hK K
      refine tree_e0 (by kernel_rfl) rfl rfl (fun K hK => ?_)
      go_wp2_with fail
      try go_simp
      refine hK _ _ trivial ?_
      clear hK K
      refine tree_e0 (by kernel_rfl) rfl rfl (fun K hK => ?_)
      go_wp2_with fail
      refine (concatRings_any (some ⟨u0.heap.size, 0, none⟩) 2 [m.drop j, m.take j] _ (sl_two u0 0 36 (some ⟨g4, j * 2, none⟩) (some ⟨g4, 0, none⟩) _ _ (r.length - j) j (c4 - j) c4 hDl.out hTl.out (by omega) (by omega) (hDr.out u0 hgu0) (hTk.out u0 hgu0) (Nat.zero_le _)) (by show (flatK [m.drop j, m.take j] 2).length ≤ 1000000; rw [hZl.out]; omega)).mono ?_
      rintro e v8 ⟨A8, c8, rfl, hO8, hg8⟩
      go_wp2_with fail
      try go_simp
      refine hK _ _ trivial ?_
      clear hK K
      have hgA := gr_trans (gr_alloc hgu0 _) hg8
      have hlo8 := (gr_alloc hgu0 (.cells #[.slice (some ⟨g4, j * 2, none⟩) (r.length - j) (c4 - j), .slice (some ⟨g4, 0, none⟩) j c4] 36)).size
      replace hO8 := hO8.lower hlo8
      have hZ2 := hZl.out
      change (flatK [m.drop j, m.take j] [m.drop j, m.take j].length).length = r.length at hZ2
      generalize flatK [m.drop j, m.take j] [m.drop j, m.take j].length = Z at *
      clear hg8 hlo8 hDr hTk hDl hTl
      refine tree_e0 (by kernel_rfl) rfl rfl (fun K hK => ?_)
      go_wp2_with fail
      try go_simp
      refine hK _ _ trivial ?_
      clear hK K
      have hne : ∀ g, blk A8 = some g → blk A2 ≠ some g := fun g h e => by
        have h1 := (hO8.blk_lt h).1
        have h2 := (hor8.blk_lt e).2
        omega
      have hgr9 := hgr8.t hgA
      have hor9 := hor8.pure hgA
      have hall9 : Hid (∀ i (h : i < raws.length), RgNm v8 w2.heap.size A2 (OM rs i) raws[i]) := fun i h => (hall8.out i h).pure hgA
      have hnew : RgNm v8 w2.heap.size A2 (OM rs k) ⟨A8, r.length, c8⟩ := ⟨Z, ⟨⟨⟨hZ2.symm, (by show r.length ≤ c8; rw [← hZ2]; exact hO8.cap), hO8.sl.mono hgr8.size, fun g h => ⟨Nat.le_trans hgr8.size (hO8.blk_lt h).1, (hO8.blk_lt h).2⟩⟩, hne⟩, ThawR.own hO8⟩, hZn.out, by omega, by omega⟩
      obtain ⟨v9, hv9⟩ : ∃ x, x = (v8).alloc (.cells #[.slice A8 r.length c8] 36) := ⟨_, rfl⟩
      have hg9a : (v8).grownBy v9 none := by rw [hv9]; exact gr_alloc (World.grownBy.refl _ _) _
      have hS9 : Sl v9 0 (some ⟨(v8).heap.size, 0, none⟩) [(⟨A8, r.length, c8⟩ : RawS)] := by rw [hv9]; exact sl_oneAt _ 0 [.slice A8 r.length c8] _ _ _ (by first | rfl | simp) (Nat.zero_le _) rfl
      rw [← hv9]
      clear hv9
      replace hor9 := hor9.pure hg9a
      replace hgr9 := hgr9.t hg9a
      replace hall9 : Hid (∀ i (h : i < raws.length), RgNm v9 w2.heap.size A2 (OM rs i) raws[i]) := fun i h => (hall9.out i h).pure hg9a
      replace hnew := hnew.pure hg9a
      clear hg9a
      refine tree_e0 (by kernel_rfl) rfl rfl (fun K hK => ?_)
      refine wp_pushAt (α := RawS) _ (.tmp 41) (.tmp 50) _ rfl w2.heap.size 36 i0 _ 24 Tryz.underlying26 hi.out hz.out h1.out h2.out rfl _ _ _ raws rfl rfl (by exact hor9) 0 ⟨_, 0, none⟩ 1 1 [⟨A8, r.length, c8⟩] rfl rfl (by exact hS9) ?d2 ?d3 ?d4 ?_
      case d2 => simp; omega
      case d3 => simp [maxLen]; omega
      case d4 => exact hgr9.size
      intro A10 c10 v10 hO10 hG10
      simp only [Act.put, List.setIfInBounds_toArray, List.set_cons_zero, List.set_cons_succ]
      try go_simp
      refine hK _ _ trivial ?_
      clear hK K
      refine tree_p rfl rfl rfl rfl _ rfl (by simp) (fun K hK => ?_)
      apply Exists.intro
      refine ⟨fun wq K' hK' => ?_, ?_⟩
      · go_wp2_with fail
        exact hK'
      go_simp
      refine hK _ ?_
      clear hK K
      refine tree_done ?_
      have hgz := gr_row hgr9 hG10.1 (fun x e => (hor9.blk_lt e).1)
      have hallz : Hid (∀ i (h : i < (raws ++ [(⟨A8, r.length, c8⟩ : RawS)]).length), RgNm v10 w2.heap.size A10 (OM rs i) (raws ++ [(⟨A8, r.length, c8⟩ : RawS)])[i]) := fun i h => by
        by_cases e : i < raws.length
        · rw [List.getElem_append_left e]
          exact (hall9.out i e).grew hG10
        · have e2 : i = raws.length := by simp at h; omega
          subst e2
          rw [List.getElem_append_right (Nat.le_refl _)]
          simp only [Nat.sub_self, List.getElem_cons_zero]
          rw [hrl.out]
          exact hnew.grew hG10
      have hrz : Hid ((raws ++ [(⟨A8, r.length, c8⟩ : RawS)]).length = k + 1) := by rw [Hid, List.length_append, hrl.out]; rfl
      go_wp2_with fail
      (go_roundw; (case rel => exact ⟨k + 1, raws ++ [⟨A8, r.length, c8⟩], A10, c10, by omega, by go_num, by rw [List.length_append]; rfl, hrz, hO10, hallz, fun h => absurd h (by omega), hgz⟩); (case measure => simp [intOf]; omega))
    · have hrk : raws.length ≤ 100 := by rw [hrl.out]; omega
      have hgz := hgw2.t hgr
      have hszw := hgw2.size
      by_cases h0 : k = 0
      · have hrs0 : rs.length = 0 := by omega
        obtain ⟨rfl, rfl⟩ := hk0.out h0
        have hr0 : raws = [] := List.eq_nil_of_length_eq_zero (by rw [hrl.out]; exact h0)
        subst hr0
        have hS := hide (sortNilRg wr (.func (.func 38) #[] #[]))
        clear hi hz h1 h2
        go_wp2_with fail
        refine hS.out.mono ?_
        rintro e w9 ⟨rfl, hw9⟩
        have hgz9 : w.grownBy w9 none := hw9 ▸ hgz
        go_wp2_with fail
        exact bodyPost_ret (v := .tuple #[.slice none 0 0, .int .i64 0]) (by simp [results, Tryz.results7, go_sem]) rfl ⟨none, 0, [], [], rfl, Sl.nil, ⟨by rw [hrs0]; exact .refl _, by rw [hrs0]; rfl, fun j hj => by rw [hrs0] at hj; exact absurd hj (by omega), .nil⟩, hgz9⟩
      · have h0r : 0 < raws.length := by rw [hrl.out]; omega
        obtain ⟨g2, rfl, hg2l, -⟩ := hor.shape h0r
        have hP : ∀ i, ∃ l, ∀ h : i < raws.length, NOkR wr w2.heap.size (some ⟨g2, 0, none⟩) raws[i] l ∧ IsNorm (OM rs i) l ∧ FstAt wr g2 raws[i] (cor l 0) := fun i => by
          by_cases h : i < raws.length
          · obtain ⟨l, hp⟩ := (hall.out i h).fst
            exact ⟨l, fun _ => hp⟩
          · exact ⟨[], fun h2 => absurd h2 h⟩
        obtain ⟨LF, hLF⟩ : ∃ LF : Nat → List Pt, ∀ i (h : i < raws.length), NOkR wr w2.heap.size (some ⟨g2, 0, none⟩) raws[i] (LF i) ∧ IsNorm (OM rs i) (LF i) ∧ FstAt wr g2 raws[i] (cor (LF i) 0) := ⟨fun i => Classical.choose (hP i), fun i h => Classical.choose_spec (hP i) h⟩
        have hS := hide (sortRgX_any g2 c2 _ raws wr hor (by omega) h0r (fun i => cor (LF i) 0) (fun i h => (hLF i h).2.2))
        have hrn : raws.length = rs.length := by rw [hrl.out]; omega
        replace hLF := hide hLF
        replace hrn := hide hrn
        clear hi hz h1 h2 hP
        go_wp2_with fail
        refine hS.out.mono ?_
        rintro e w9 ⟨rfl, o, hpr, hst, hO9, hg9⟩
        have hol : o.length = raws.length := perm_len hpr
        have hgy := gr_new hgz hg9 (by omega)
        have hall2 : ∀ q : List Nat, (∀ i ∈ q, i < raws.length) → All2 (NOk RawS w9 w.heap.size (some ⟨g2, 0, none⟩)) (q.map fun i => raws.getD i ⟨none, 0, 0⟩) (q.map LF) := fun q => by
          induction q with
          | nil => intro _; exact .nil
          | cons i q ih =>
            intro hq
            have hi := hq i (List.mem_cons_self ..)
            obtain ⟨⟨⟨q1, q2, q3, q4⟩, q5⟩, q6⟩ := (hLF.out i hi).1.gr hg9 (fun g hb e => (hLF.out i hi).1.1.2 g hb (by rw [← e]; rfl))
            have e : raws.getD i ⟨none, 0, 0⟩ = raws[i] := by rw [List.getD_eq_getElem?_getD, List.getElem?_eq_getElem hi, Option.getD_some]
            refine .cons ?_ (ih fun j hj => hq j (List.mem_cons_of_mem _ hj))
            show NOk RawS w9 w.heap.size (some ⟨g2, 0, none⟩) (raws.getD i ⟨none, 0, 0⟩) (LF i)
            rw [e]
            exact ⟨⟨q1, q2, q3.mono hszw, fun g hb => ⟨Nat.le_trans hszw (q4 g hb).1, (q4 g hb).2⟩⟩, q5⟩
        have hin : ∀ i ∈ o, i < raws.length := fun i hi => List.mem_range.1 (hpr.mem_iff.1 hi)
        have hSl : Sl w9 w.heap.size (some ⟨g2, 0, none⟩) (o.map LF) := OwnN.sl (ρ := RawS) (e := 36) (c := c2) ⟨_, hO9.lower hszw, hall2 o hin⟩
        have hN : NormS rs (o.map LF) o := by
          refine ⟨by rw [← hrn.out]; exact hpr, by rw [List.length_map, hol, hrn.out], fun j hj => ?_, ?_⟩
          · have hjo : j < o.length := by rw [hol, hrn.out]; exact hj
            have e1 : o.getD j 0 = o[j] := by rw [List.getD_eq_getElem?_getD, List.getElem?_eq_getElem hjo, Option.getD_some]
            have e2 : (o.map LF).getD j [] = LF o[j] := by rw [at_getD (by rw [List.length_map]; exact hjo), List.getElem_map]
            rw [e1, e2]
            exact (hLF.out _ (hin _ (List.getElem_mem hjo))).2.1
          · rw [List.pairwise_iff_getElem]
            intro i j hi hj hij
            rw [List.length_map] at hi hj
            rw [List.getElem_map, List.getElem_map]
            exact Int.not_lt.2 (hst i j hi hj hij)
        have hlr : Hid (raws.length = (o.map LF).length) := by rw [Hid, List.length_map, hol]
        replace hN := hide hN
        clear hS hst hall2 hin hol hpr
        go_wp2_with fail
        exact bodyPost_ret (v := .tuple #[.slice (some ⟨g2, 0, none⟩) raws.length c2, .int .i64 0]) (by simp [results, Tryz.results7, go_sem]) rfl ⟨_, c2, o.map LF, o, by rw [hlr.out], hSl, hN.out, hgy⟩

end Go.Proofs.YtejmbaiioblfeaaGreatDoor

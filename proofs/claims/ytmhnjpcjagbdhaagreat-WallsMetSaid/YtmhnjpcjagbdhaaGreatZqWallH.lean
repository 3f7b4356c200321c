/- Contracts of functions that this seat's laws reach, each: what one call returns and what it leaves in memory; no condition beyond each theorem's own hypotheses. -/
import Derived.Test.YtmhnjpcjagbdhaaGreatZqWallI
import Derived.Test.YtmhnjpcjagbdhaaGreatZqPathF
import Derived.Test.YtmhnjpcjagbdhaaGreatZqPathE
import Derived.Test.YtmhnjpcjagbdhaaGreatZqPathN
set_option linter.unusedVariables false
set_option linter.unusedSimpArgs false
namespace Go.Proofs.YtmhnjpcjagbdhaaGreat
open Go Go.RowKit Go.Bl

def totP (l : List PathV) : Nat := (l.map fun p => p.pts.length).sum

theorem tot_mem {l : List PathV} : ∀ p ∈ l, p.pts.length ≤ totP l := by
  intro p hp
  unfold totP
  induction l with
  | nil => cases hp
  | cons x l ih =>
    simp only [List.map_cons, List.sum_cons]
    rcases List.mem_cons.1 hp with rfl | hp
    · omega
    · have := ih hp; omega

theorem tot_set {l : List PathV} {i : Nat} (h : i < l.length) (x : PathV) : totP (l.set i x) + l[i].pts.length = totP l + x.pts.length := by
  unfold totP
  induction l generalizing i with
  | nil => simp at h
  | cons y l ih => cases i with
    | zero => simp; omega
    | succ i =>
      have := ih (i := i) (by simpa using h)
      simp only [List.set_cons_succ, List.map_cons, List.sum_cons, List.getElem_cons_succ]; omega

theorem tot_erase {l : List PathV} {k : Nat} (h : k < l.length) : totP (l.eraseIdx k) + l[k].pts.length = totP l := by
  unfold totP
  induction l generalizing k with
  | nil => simp at h
  | cons y l ih => cases k with
    | zero => simp; omega
    | succ k =>
      have := ih (k := k) (by simpa using h)
      simp only [List.eraseIdx_cons_succ, List.map_cons, List.sum_cons, List.getElem_cons_succ]; omega

def fullB (l : List PathV) : Prop := ∀ p ∈ l, 0 < p.pts.length

theorem chain1_parts {l m : List PathV} (h : chain1 l = some m) : ∃ i k, i < l.length ∧ k < l.length ∧ k ≠ i ∧ (l.getD i default).cl = false ∧ (l.getD k default).cl = false ∧ frontP (l.getD k default) = endP (l.getD i default) ∧ m = joinP l i k := by
  unfold chain1 at h
  cases hq : pairK l l.length with
  | none => rw [hq] at h; cases h
  | some q =>
    rw [hq] at h
    simp only [Option.map_some, Option.some.injEq] at h
    obtain ⟨h1, h2, h3, h4⟩ := pairK_some (i := q.1) (k := q.2) hq
    obtain ⟨h5, h6, h7⟩ := fitB_parts h4
    exact ⟨q.1, q.2, h1, h3, h5, h2, h6, h7, h.symm⟩

theorem chain1_tot {l m : List PathV} (h : chain1 l = some m) (hf : fullB l) : fullB m ∧ totP m + 1 = totP l := by
  obtain ⟨i, k, hi, hk, hki, -, -, -, rfl⟩ := chain1_parts h
  have hpi := hf _ (List.getElem_mem hi)
  have hpk := hf _ (List.getElem_mem hk)
  have e1 := tot_set hi (joinedP l i k)
  have hk2 : k < (l.set i (joinedP l i k)).length := by simpa using hk
  have e2 := tot_erase hk2
  rw [List.getElem_set_ne (fun e => hki e.symm)] at e2
  have e3 : (joinedP l i k).pts.length = l[i].pts.length + (l[k].pts.length - 1) := by
    simp only [joinedP, List.length_append, List.length_drop]
    rw [List.getD_eq_getElem?_getD, List.getElem?_eq_getElem hi, Option.getD_some, List.getD_eq_getElem?_getD, List.getElem?_eq_getElem hk, Option.getD_some]
  refine ⟨fun p hp => ?_, by unfold joinP; omega⟩
  have hp2 := List.mem_of_mem_eraseIdx hp
  rcases List.mem_or_eq_of_mem_set hp2 with hp3 | rfl
  · exact hf p hp3
  · omega

theorem chainN_id {l : List PathV} (h : chain1 l = none) : ∀ n, chainN n l = l
  | 0 => rfl
  | n + 1 => by unfold chainN; rw [h]

theorem chainN_step {l m : List PathV} (h : chain1 l = some m) : chainN l.length l = chainN m.length m := by
  have e := chain1_len h
  rw [← e]
  conv => lhs; unfold chainN
  rw [h]

def lenOf : Value → Nat
  | .slice _ n _ => n
  | _ => 0

def bitOf : Value → Nat
  | .bool true => 1
  | _ => 0

set_option maxHeartbeats 4000000 in
set_option maxRecDepth 100000 in
theorem chained_any (A : Option Addr) (c : Nat) (p : List PathV) (w : World) (hl : Sl w 0 A p) (hF : pathsF p = 0) (hC : pathsF (chainN p.length p) = 0) :
    Calls Tryz.prog 12 #[.slice A p.length c] w fun e w' => ∃ A' c', e = .returned (.tuple #[.slice A' (chainN p.length p).length c', .int .i64 0]) ∧ OwnN RawP w' w.heap.size 62 A' c' (chainN p.length p) ∧ w.grownBy w' none := by
  have hF1 := checkPaths_any A c p w hl
  rw [hF] at hF1
  obtain ⟨hp200, hpf⟩ := pathsF_zero hF
  have hful : Hid (fullB p) := fun x hx => (pathF_zero (hpf x hx)).1
  have h500 : Hid (∀ x ∈ p, x.pts.length ≤ 500) := fun x hx => (pathF_zero (hpf x hx)).2.1
  have htot : Hid (totP p ≤ 100000) := by
    have : ∀ (l : List PathV), (∀ x ∈ l, x.pts.length ≤ 500) → totP l ≤ 500 * l.length := by
      intro l h
      unfold totP
      induction l with
      | nil => simp
      | cons y l ih =>
        have h1 := h y (by simp)
        have h2 := ih (fun x hx => h x (List.mem_cons_of_mem _ hx))
        simp only [List.map_cons, List.sum_cons, List.length_cons]; omega
    have := this p h500.out
    rw [Hid]; omega
  replace hpf := hide hpf
  replace hF1 := hide hF1
  replace hC := hide hC
  clear hF
  go_enter Tryz.func12, Tryz.ntmps12
  go_wp2_with fail
  refine hF1.out.mono ?_
  rintro e w1 ⟨rfl, hg1⟩
  clear hF1
  have hs1 := hg1.size
  go_wp2_with fail
  go_loopw [5, 17] (fun o i wr => ∃ (k : Nat) (l : List PathV) (A2 : Option Addr) (c2 : Nat), k ≤ p.length ∧ i = .int .i64 k ∧ o = .slice A2 l.length c2 ∧ Hid (l.length = k) ∧ Hid (l = p.take k) ∧ OwnN RawP wr w.heap.size 62 A2 c2 l ∧ w.grownBy wr none) (fun _ i _ => p.length - (intOf i).toNat)
  case atStart => exact ⟨0, [], none, 0, Nat.zero_le _, rfl, rfl, rfl, rfl, OwnN.nil _ _ _, hg1⟩
  case round =>
    clear hg1 hs1
    obtain ⟨k, l, A2, c2, hk, rfl, rfl, hlk, hlt0, hown, hg⟩ := hrel
    by_cases hlt : k < p.length
    · obtain ⟨g, o, cx, rfl, hb0, hb1, ⟨A', c', rfl, hcp, hpts⟩, hc⟩ := (hl.pure hg).at_ (by decide) hlt
      have c0 : wr.cell? ⟨g, o + k * 2, none⟩ = some (.slice A' p[k].pts.length c') := hc 0 _ rfl
      have c1 : wr.cell? ⟨g, o + k * 2 + 1, none⟩ = some (.bool p[k].cl) := hc 1 _ rfl
      clear hc
      have hll : l.length ≤ 200 := by have := hlk.out; omega
      have hpl := h500.out _ (List.getElem_mem hlt)
      have htk := take_snoc hlt
      have hgs := hg.size
      obtain ⟨raws, hO, hA2⟩ := hown
      have hrl := hide hA2.len
      have hrl2 : raws.length ≤ 200 := by rw [hrl.out]; exact hll
      go_upto_region 8 with fail
      obtain ⟨w7, hw7⟩ : ∃ x, x = (wr).alloc (.cells [.slice A' p[k].pts.length c', .bool p[k].cl].toArray 62) := ⟨_, rfl⟩
      have hg7 : (wr).grownBy w7 none := by rw [hw7]; exact gr_alloc (World.grownBy.refl _ _) _
      have hb7 : Box w7 (wr).heap.size 62 [.slice A' p[k].pts.length c', .bool p[k].cl] := by rw [hw7]; exact Box.new _ _ _
      have hxs7 := hb7.lt
      rw [← hw7]
      clear hw7
      obtain ⟨x7, hx7⟩ : ∃ x, x = (wr).heap.size := ⟨_, rfl⟩
      rw [← hx7] at hb7 hxs7 ⊢
      have hxl7 : (wr).heap.size ≤ x7 := by omega
      clear hx7
      obtain ⟨b0, _⟩ := hb7.c 0 rfl
      obtain ⟨b1, _⟩ := hb7.c 1 rfl
      clear c0 c1
      rw [← hrl.out]
      refine wp_region_tree (fun wx => w7.grownBy wx none) [2, 2, 1, 0, 2, 1, 2, 0, 0, 2] (.bl 0 (.bl 1 (.bl 2 (.bl 4 (.bl 5 (.ef 3 (.bl 6 (.ef 7 (.ef 8 (.bl 9 .done)))))))))) (by kernel_rfl) (by kernel_rfl) (gr_drew (World.grownBy.refl _ _)) ?_
      obtain ⟨W1, hW1⟩ : ∃ x, x = (w7).drew := ⟨_, rfl⟩
      rw [← hW1]
      have hgW1 : (w7).grownBy W1 none := by rw [hW1]; exact gr_drew (World.grownBy.refl _ _)
      clear hW1
      refine tree_p rfl rfl rfl rfl _ rfl (by simp) (fun K hK => ?_)
      apply Exists.intro
      refine ⟨fun wq K' hK' => ?_, ?_⟩
      · go_wp2_with fail
        exact hK'
      go_simp
      refine hK _ ?_
      clear hK K
      refine tree_p rfl rfl rfl rfl _ rfl (by simp) (fun K hK => ?_)
      apply Exists.intro
      refine ⟨fun wq K' hK' => ?_, ?_⟩
      · go_wp2_with fail
        exact hK'
      go_simp
      refine hK _ ?_
      clear hK K
      refine tree_b rfl rfl rfl rfl _ rfl (by simp) (fun K hK => ?_)
      apply Exists.intro
      refine ⟨fun wq hq K' hK' => ?_, ?_⟩
      · have y0 := hq.k b0
        have y1 := hq.k b1
        go_wp2_with fail
        exact hK'
      go_simp
      refine hK _ ?_
      clear hK K
      refine tree_p rfl rfl rfl rfl _ rfl (by simp) (fun K hK => ?_)
      apply Exists.intro
      refine ⟨fun wq K' hK' => ?_, ?_⟩
      · go_wp2_with fail
        exact hK'
      go_simp
      refine hK _ ?_
      clear hK K
      refine tree_b rfl rfl rfl rfl _ rfl (by simp) (fun K hK => ?_)
      apply Exists.intro
      refine ⟨fun wq hq K' hK' => ?_, ?_⟩
      · have y0 := hq.k b0
        have y1 := hq.k b1
        go_wp2_with fail
        exact hK'
      go_simp
      refine hK _ ?_
      clear hK K
      refine tree_e rfl rfl (fun K hK => ?_)
      go_wp2_with fail
      refine (clonePt_any A' c' p[k].pts W1 ((hpts.mono (Nat.zero_le _)).pure (hg7.t (gr_trans hgW1 (World.grownBy.refl _ _)))) (by omega)).mono ?_
      rintro e w3 ⟨A3, c3, rfl, ho3, hg3⟩
      have hW3 : w7.grownBy w3 none := gr_trans (gr_trans hgW1 (World.grownBy.refl _ _)) hg3
      have hv3 : w7.heap.size ≤ (W1).heap.size := (gr_trans hgW1 (World.grownBy.refl _ _)).size
      go_wp2_with fail
      try go_simp
      refine hK _ _ (hW3) ?_
      clear hK K
      refine tree_p rfl rfl rfl rfl _ rfl (by simp) (fun K hK => ?_)
      apply Exists.intro
      refine ⟨fun wq K' hK' => ?_, ?_⟩
      · go_wp2_with fail
        exact hK'
      go_simp
      refine hK _ ?_
      clear hK K
      refine tree_e0 (by kernel_rfl) rfl rfl (fun K hK => ?_)
      go_wp2_with fail
      try go_simp
      refine hK _ _ trivial ?_
      clear hK K
      obtain ⟨w27, hw27⟩ : ∃ x, x = (w3).alloc (.cells [.slice A3 p[k].pts.length c3, .bool p[k].cl].toArray 62) := ⟨_, rfl⟩
      have hg27 : (w3).grownBy w27 none := by rw [hw27]; exact gr_alloc (World.grownBy.refl _ _) _
      have hb27 : Box w27 (w3).heap.size 62 [.slice A3 p[k].pts.length c3, .bool p[k].cl] := by rw [hw27]; exact Box.new _ _ _
      rw [← hw27]
      clear hw27
      obtain ⟨x27, hx27⟩ : ∃ x, x = (w3).heap.size := ⟨_, rfl⟩
      rw [← hx27] at hb27 ⊢
      have hxl27 : (w3).heap.size ≤ x27 := by omega
      clear hx27
      refine tree_e0 (by kernel_rfl) rfl rfl (fun K hK => ?_)
      obtain ⟨i0, hi, hz, h1, h2⟩ := info_parts info_path
      have hO8 := hO.pure (w' := w27) (hg7.t (hW3.t hg27))
      refine wp_pushAt (α := RawP) _ (.tmp 21) (.tmp 28) _ rfl w.heap.size 62 i0 _ 32 Tryz.underlying31 hi hz h1 h2 rfl _ _ _ raws rfl rfl hO8 0 ⟨x27, 0, none⟩ _ _ [⟨A3, p[k].pts.length, c3, p[k].cl⟩] rfl rfl (hb27.sl ⟨_, [], rfl, rfl, rfl⟩ (Nat.zero_le _) (by simp [maxLen])) ?_ ?_ ?_ ?_
      · first | omega | (simp; omega)
      · first | (simp [maxLen]; omega) | (unfold maxLen; omega)
      · exact (hg.t (hg7.t (hW3.t hg27))).size
      intro A5 c5 w5 hown5 hG5
      try go_simp
      refine hK _ _ trivial ?_
      clear hK K
      refine tree_p rfl rfl rfl rfl _ rfl (by simp) (fun K hK => ?_)
      apply Exists.intro
      refine ⟨fun wq K' hK' => ?_, ?_⟩
      · go_wp2_with fail
        exact hK'
      go_simp
      refine hK _ ?_
      clear hK K
      refine tree_done ?_
      have hgA := hg.t (hg7.t (hW3.t hg27))
      have hg5 : w.grownBy w5 none := gr_row hgA hG5.1 (fun x e => (hO8.blk_lt e).1)
      have hA8 := hA2.grN (hg7.t (hW3.t hg27))
      have ho27 := ho3.pure hg27
      have hnew : NOk RawP w27 w.heap.size A2 ⟨A3, p[k].pts.length, c3, p[k].cl⟩ p[k] := by
        refine ⟨⟨rfl, rfl, ho27.cap, ho27.sl.mono ?_, fun q hq => ?_⟩, fun q hq e => ?_⟩
        · have := hg7.size; omega
        · have := ho27.blk_lt hq; have := hg7.size; exact ⟨by omega, by omega⟩
        · have h1 := ho27.blk_lt hq; have h2 := hO.blk_lt e; have := hg7.size; omega
      have hN5 : OwnN RawP w5 w.heap.size 62 A5 c5 (l ++ [p[k]]) := OwnN.push hA8 hown5 hG5 hnew
      have hl5 : Hid (raws.length + 1 = (l ++ [p[k]]).length) := by rw [Hid, List.length_append, hrl.out]; rfl
      have hl6 : Hid ((l ++ [p[k]]).length = k + 1) := by rw [Hid, List.length_append, hlk.out]; rfl
      have hl7 : Hid (l ++ [p[k]] = p.take (k + 1)) := by rw [Hid, htk, ← hlt0.out]
      clear hgA hA8 ho27 hnew hown5 hG5 hO hA2 htk hg27 hW3 hO8 hb27 hg7 hb7 b0 b1 ho3 hg3 hpts hgW1
      go_wp2_with fail
      (go_roundw; (case rel => exact ⟨k + 1, _, A5, c5, by omega, by go_num, by rw [hl5.out], hl6, hl7, hN5, hg5⟩); (case measure => simp [intOf]; omega))
    · obtain rfl : k = p.length := by omega
      have hlp : Hid (l = p) := by rw [Hid, hlt0.out, List.take_length]
      clear hlt0
      have e := hlp.out
      subst e
      go_wp2_with fail
      go_loopw [5, 8] (fun o b wr => ∃ (m : List PathV) (A3 : Option Addr) (c3 : Nat) (t : Bool), o = .slice A3 m.length c3 ∧ b = .bool t ∧ OwnN RawP wr w.heap.size 62 A3 c3 m ∧ w.grownBy wr none ∧ Hid (fullB m ∧ totP m ≤ 100000) ∧ Hid (chainN l.length l = chainN m.length m) ∧ Hid (t = false → chain1 m = none)) (fun o b _ => lenOf o + bitOf b)
      case atStart => exact ⟨l, A2, c2, true, rfl, rfl, hown, hg, ⟨hful.out, htot.out⟩, rfl, fun h => by cases h⟩
      case round =>
        clear hown hg
        obtain ⟨m, A3, c3, t, rfl, rfl, hown, hg, hfm, hcm, hnm⟩ := hrel
        cases t with
        | false =>
          have hm : Hid (chainN l.length l = m) := by rw [Hid, hcm.out, chainN_id (hnm.out rfl)]
          have hCm := hC.out
          rw [hm.out] at hCm
          have hCk := checkPaths_any A3 c3 m _ (hown.sl.mono (Nat.zero_le _))
          rw [hCm] at hCk
          clear hCm
          replace hCk := hide hCk
          go_wp2_with fail
          refine hCk.out.mono ?_
          rintro e w2 ⟨rfl, hg2⟩
          go_wp2_with fail
          go_ret2
          exact ⟨A3, c3, by rw [hm.out]; rfl, by rw [hm.out]; exact hown.pure hg2, hg.t hg2⟩
        | true =>
          have hch := chain_any A3 c3 w.heap.size m wr hown hg.size (fun q hq => ⟨hfm.out.1 q hq, by have := tot_mem q hq; have := hfm.out.2; omega⟩)
          replace hch := hide hch
          go_wp2_with fail
          refine hch.out.mono ?_
          rintro e w2 h
          rcases h with ⟨h1, rfl, hg2⟩ | ⟨m2, h1, rfl, hN2, hg2⟩
          · replace h1 := hide h1
            go_wp2_with fail
            go_roundw
            case rel => exact ⟨m, A3, c3, false, rfl, rfl, hown.pure hg2, hg.t hg2, hfm, hcm, fun _ => h1.out⟩
            case measure => simp [lenOf, bitOf]
          · have hlen := chain1_len h1
            have hT := hide (chain1_tot h1 hfm.out.1)
            have hS := hide (chainN_step h1)
            have hg3 : w.grownBy w2 none := gr_row hg hg2 (fun g e => by obtain ⟨_, ho, _⟩ := hown; exact (ho.blk_lt e).1)
            clear h1 hch
            go_wp2_with fail
            go_roundw
            case rel => exact ⟨m2, A3, c3, true, rfl, rfl, hN2, hg3, ⟨hT.out.1, by have := hT.out.2; have := hfm.out.2; omega⟩, by rw [Hid, hcm.out, hS.out], fun h => by cases h⟩
            case measure => simp [lenOf, bitOf]; omega

end Go.Proofs.YtmhnjpcjagbdhaaGreat

namespace Go.Proofs.YtmhnjpcjagbdhaaGreat
open Go Go.RowKit Go.Bl

def chRes (p : List PathV) : List PathV := if pathsF (chainN p.length p) = 0 then chainN p.length p else []

set_option maxHeartbeats 4000000 in
set_option maxRecDepth 100000 in
theorem chainedAll_any (A : Option Addr) (c : Nat) (p : List PathV) (w : World) (hl : Sl w 0 A p) (hF : pathsF p = 0) :
    Calls Tryz.prog 12 #[.slice A p.length c] w fun e w' => ∃ A' c', e = .returned (.tuple #[.slice A' (chRes p).length c', .int .i64 (pathsF (chainN p.length p))]) ∧ Sl w' 0 A' (chRes p) ∧ w.grownBy w' none := by
  have hF1 := checkPaths_any A c p w hl
  rw [hF] at hF1
  obtain ⟨hp200, hpf⟩ := pathsF_zero hF
  have hful : Hid (fullB p) := fun x hx => (pathF_zero (hpf x hx)).1
  have h500 : Hid (∀ x ∈ p, x.pts.length ≤ 500) := fun x hx => (pathF_zero (hpf x hx)).2.1
  have htot : Hid (totP p ≤ 100000) := by
    have : ∀ (l : List PathV), (∀ x ∈ l, x.pts.length ≤ 500) → totP l ≤ 500 * l.length := by
      intro l h
      unfold totP
      induction l with
      | nil => simp
      | cons y l ih =>
        have h1 := h y (by simp)
        have h2 := ih (fun x hx => h x (List.mem_cons_of_mem _ hx))
        simp only [List.map_cons, List.sum_cons, List.length_cons]; omega
    have := this p h500.out
    rw [Hid]; omega
  replace hpf := hide hpf
  replace hF1 := hide hF1
  clear hF
  go_enter Tryz.func12, Tryz.ntmps12
  go_wp2_with fail
  refine hF1.out.mono ?_
  rintro e w1 ⟨rfl, hg1⟩
  clear hF1
  have hs1 := hg1.size
  go_wp2_with fail
  go_loopw [5, 17] (fun o i wr => ∃ (k : Nat) (l : List PathV) (A2 : Option Addr) (c2 : Nat), k ≤ p.length ∧ i = .int .i64 k ∧ o = .slice A2 l.length c2 ∧ Hid (l.length = k) ∧ Hid (l = p.take k) ∧ OwnN RawP wr w.heap.size 62 A2 c2 l ∧ w.grownBy wr none) (fun _ i _ => p.length - (intOf i).toNat)
  case atStart => exact ⟨0, [], none, 0, Nat.zero_le _, rfl, rfl, rfl, rfl, OwnN.nil _ _ _, hg1⟩
  case round =>
    clear hg1 hs1
    obtain ⟨k, l, A2, c2, hk, rfl, rfl, hlk, hlt0, hown, hg⟩ := hrel
    by_cases hlt : k < p.length
    · obtain ⟨g, o, cx, rfl, hb0, hb1, ⟨A', c', rfl, hcp, hpts⟩, hc⟩ := (hl.pure hg).at_ (by decide) hlt
      have c0 : wr.cell? ⟨g, o + k * 2, none⟩ = some (.slice A' p[k].pts.length c') := hc 0 _ rfl
      have c1 : wr.cell? ⟨g, o + k * 2 + 1, none⟩ = some (.bool p[k].cl) := hc 1 _ rfl
      clear hc
      have hll : l.length ≤ 200 := by have := hlk.out; omega
      have hpl := h500.out _ (List.getElem_mem hlt)
      have htk := take_snoc hlt
      have hgs := hg.size
      obtain ⟨raws, hO, hA2⟩ := hown
      have hrl := hide hA2.len
      have hrl2 : raws.length ≤ 200 := by rw [hrl.out]; exact hll
      go_upto_region 8 with fail
      obtain ⟨w7, hw7⟩ : ∃ x, x = (wr).alloc (.cells [.slice A' p[k].pts.length c', .bool p[k].cl].toArray 62) := ⟨_, rfl⟩
      have hg7 : (wr).grownBy w7 none := by rw [hw7]; exact gr_alloc (World.grownBy.refl _ _) _
      have hb7 : Box w7 (wr).heap.size 62 [.slice A' p[k].pts.length c', .bool p[k].cl] := by rw [hw7]; exact Box.new _ _ _
      have hxs7 := hb7.lt
      rw [← hw7]
      clear hw7
      obtain ⟨x7, hx7⟩ : ∃ x, x = (wr).heap.size := ⟨_, rfl⟩
      rw [← hx7] at hb7 hxs7 ⊢
      have hxl7 : (wr).heap.size ≤ x7 := by omega
      clear hx7
      obtain ⟨b0, _⟩ := hb7.c 0 rfl
      obtain ⟨b1, _⟩ := hb7.c 1 rfl
      clear c0 c1
      rw [← hrl.out]
      refine wp_region_tree (fun wx => w7.grownBy wx none) [2, 2, 1, 0, 2, 1, 2, 0, 0, 2] (.bl 0 (.bl 1 (.bl 2 (.bl 4 (.bl 5 (.ef 3 (.bl 6 (.ef 7 (.ef 8 (.bl 9 .done)))))))))) (by kernel_rfl) (by kernel_rfl) (gr_drew (World.grownBy.refl _ _)) ?_
      obtain ⟨W1, hW1⟩ : ∃ x, x = (w7).drew := ⟨_, rfl⟩
      rw [← hW1]
      have hgW1 : (w7).grownBy W1 none := by rw [hW1]; exact gr_drew (World.grownBy.refl _ _)
      clear hW1
      refine tree_p rfl rfl rfl rfl _ rfl (by simp) (fun K hK => ?_)
      apply Exists.intro
      refine ⟨fun wq K' hK' => ?_, ?_⟩
      · go_wp2_with fail
        exact hK'
      go_simp
      refine hK _ ?_
      clear hK K
      refine tree_p rfl rfl rfl rfl _ rfl (by simp) (fun K hK => ?_)
      apply Exists.intro
      refine ⟨fun wq K' hK' => ?_, ?_⟩
      · go_wp2_with fail
        exact hK'
      go_simp
      refine hK _ ?_
      clear hK K
      refine tree_b rfl rfl rfl rfl _ rfl (by simp) (fun K hK => ?_)
      apply Exists.intro
      refine ⟨fun wq hq K' hK' => ?_, ?_⟩
      · have y0 := hq.k b0
        have y1 := hq.k b1
        go_wp2_with fail
        exact hK'
      go_simp
      refine hK _ ?_
      clear hK K
      refine tree_p rfl rfl rfl rfl _ rfl (by simp) (fun K hK => ?_)
      apply Exists.intro
      refine ⟨fun wq K' hK' => ?_, ?_⟩
      · go_wp2_with fail
        exact hK'
      go_simp
      refine hK _ ?_
      clear hK K
      refine tree_b rfl rfl rfl rfl _ rfl (by simp) (fun K hK => ?_)
      apply Exists.intro
      refine ⟨fun wq hq K' hK' => ?_, ?_⟩
      · have y0 := hq.k b0
        have y1 := hq.k b1
        go_wp2_with fail
        exact hK'
      go_simp
      refine hK _ ?_
      clear hK K
      refine tree_e rfl rfl (fun K hK => ?_)
      go_wp2_with fail
      refine (clonePt_any A' c' p[k].pts W1 ((hpts.mono (Nat.zero_le _)).pure (hg7.t (gr_trans hgW1 (World.grownBy.refl _ _)))) (by omega)).mono ?_
      rintro e w3 ⟨A3, c3, rfl, ho3, hg3⟩
      have hW3 : w7.grownBy w3 none := gr_trans (gr_trans hgW1 (World.grownBy.refl _ _)) hg3
      have hv3 : w7.heap.size ≤ (W1).heap.size := (gr_trans hgW1 (World.grownBy.refl _ _)).size
      go_wp2_with fail
      try go_simp
      refine hK _ _ (hW3) ?_
      clear hK K
      refine tree_p rfl rfl rfl rfl _ rfl (by simp) (fun K hK => ?_)
      apply Exists.intro
      refine ⟨fun wq K' hK' => ?_, ?_⟩
      · go_wp2_with fail
        exact hK'
      go_simp
      refine hK _ ?_
      clear hK K
      refine tree_e0 (by kernel_rfl) rfl rfl (fun K hK => ?_)
      go_wp2_with fail
      try go_simp
      refine hK _ _ trivial ?_
      clear hK K
      obtain ⟨w27, hw27⟩ : ∃ x, x = (w3).alloc (.cells [.slice A3 p[k].pts.length c3, .bool p[k].cl].toArray 62) := ⟨_, rfl⟩
      have hg27 : (w3).grownBy w27 none := by rw [hw27]; exact gr_alloc (World.grownBy.refl _ _) _
      have hb27 : Box w27 (w3).heap.size 62 [.slice A3 p[k].pts.length c3, .bool p[k].cl] := by rw [hw27]; exact Box.new _ _ _
      rw [← hw27]
      clear hw27
      obtain ⟨x27, hx27⟩ : ∃ x, x = (w3).heap.size := ⟨_, rfl⟩
      rw [← hx27] at hb27 ⊢
      have hxl27 : (w3).heap.size ≤ x27 := by omega
      clear hx27
      refine tree_e0 (by kernel_rfl) rfl rfl (fun K hK => ?_)
      obtain ⟨i0, hi, hz, h1, h2⟩ := info_parts info_path
      have hO8 := hO.pure (w' := w27) (hg7.t (hW3.t hg27))
      refine wp_pushAt (α := RawP) _ (.tmp 21) (.tmp 28) _ rfl w.heap.size 62 i0 _ 32 Tryz.underlying31 hi hz h1 h2 rfl _ _ _ raws rfl rfl hO8 0 ⟨x27, 0, none⟩ _ _ [⟨A3, p[k].pts.length, c3, p[k].cl⟩] rfl rfl (hb27.sl ⟨_, [], rfl, rfl, rfl⟩ (Nat.zero_le _) (by simp [maxLen])) ?_ ?_ ?_ ?_
      · first | omega | (simp; omega)
      · first | (simp [maxLen]; omega) | (unfold maxLen; omega)
      · exact (hg.t (hg7.t (hW3.t hg27))).size
      intro A5 c5 w5 hown5 hG5
      try go_simp
      refine hK _ _ trivial ?_
      clear hK K
      refine tree_p rfl rfl rfl rfl _ rfl (by simp) (fun K hK => ?_)
      apply Exists.intro
      refine ⟨fun wq K' hK' => ?_, ?_⟩
      · go_wp2_with fail
        exact hK'
      go_simp
      refine hK _ ?_
      clear hK K
      refine tree_done ?_
      have hgA := hg.t (hg7.t (hW3.t hg27))
      have hg5 : w.grownBy w5 none := gr_row hgA hG5.1 (fun x e => (hO8.blk_lt e).1)
      have hA8 := hA2.grN (hg7.t (hW3.t hg27))
      have ho27 := ho3.pure hg27
      have hnew : NOk RawP w27 w.heap.size A2 ⟨A3, p[k].pts.length, c3, p[k].cl⟩ p[k] := by
        refine ⟨⟨rfl, rfl, ho27.cap, ho27.sl.mono ?_, fun q hq => ?_⟩, fun q hq e => ?_⟩
        · have := hg7.size; omega
        · have := ho27.blk_lt hq; have := hg7.size; exact ⟨by omega, by omega⟩
        · have h1 := ho27.blk_lt hq; have h2 := hO.blk_lt e; have := hg7.size; omega
      have hN5 : OwnN RawP w5 w.heap.size 62 A5 c5 (l ++ [p[k]]) := OwnN.push hA8 hown5 hG5 hnew
      have hl5 : Hid (raws.length + 1 = (l ++ [p[k]]).length) := by rw [Hid, List.length_append, hrl.out]; rfl
      have hl6 : Hid ((l ++ [p[k]]).length = k + 1) := by rw [Hid, List.length_append, hlk.out]; rfl
      have hl7 : Hid (l ++ [p[k]] = p.take (k + 1)) := by rw [Hid, htk, ← hlt0.out]
      clear hgA hA8 ho27 hnew hown5 hG5 hO hA2 htk hg27 hW3 hO8 hb27 hg7 hb7 b0 b1 ho3 hg3 hpts hgW1
      go_wp2_with fail
      (go_roundw; (case rel => exact ⟨k + 1, _, A5, c5, by omega, by go_num, by rw [hl5.out], hl6, hl7, hN5, hg5⟩); (case measure => simp [intOf]; omega))
    · obtain rfl : k = p.length := by omega
      have hlp : Hid (l = p) := by rw [Hid, hlt0.out, List.take_length]
      clear hlt0
      have e := hlp.out
      subst e
      go_wp2_with fail
      go_loopw [5, 8] (fun o b wr => ∃ (m : List PathV) (A3 : Option Addr) (c3 : Nat) (t : Bool), o = .slice A3 m.length c3 ∧ b = .bool t ∧ OwnN RawP wr w.heap.size 62 A3 c3 m ∧ w.grownBy wr none ∧ Hid (fullB m ∧ totP m ≤ 100000) ∧ Hid (chainN l.length l = chainN m.length m) ∧ Hid (t = false → chain1 m = none)) (fun o b _ => lenOf o + bitOf b)
      case atStart => exact ⟨l, A2, c2, true, rfl, rfl, hown, hg, ⟨hful.out, htot.out⟩, rfl, fun h => by cases h⟩
      case round =>
        clear hown hg
        obtain ⟨m, A3, c3, t, rfl, rfl, hown, hg, hfm, hcm, hnm⟩ := hrel
        cases t with
        | false =>
          have hm : Hid (chainN l.length l = m) := by rw [Hid, hcm.out, chainN_id (hnm.out rfl)]
          have hCk := checkPaths_any A3 c3 m _ (hown.sl.mono (Nat.zero_le _))
          have hRes : Hid (chRes l = if pathsF m = 0 then m else []) := by rw [Hid]; unfold chRes; rw [hm.out]
          have hFm : Hid (pathsF (chainN l.length l) = pathsF m) := by rw [Hid, hm.out]
          obtain ⟨F, hFe⟩ : ∃ F, pathsF m = F := ⟨_, rfl⟩
          rw [hFe] at hCk hRes hFm
          clear hFe
          by_cases hF0 : F = 0
          · subst hF0
            rw [if_pos rfl] at hRes
            go_wp2_with fail
            refine hCk.mono ?_
            rintro e w2 ⟨rfl, hg2⟩
            go_wp2_with fail
            go_ret2
            exact ⟨A3, c3, by rw [hRes.out, hFm.out]; rfl, by rw [hRes.out]; exact (hown.pure hg2).sl.mono (Nat.zero_le _), hg.t hg2⟩
          · rw [if_neg hF0] at hRes
            have hb0 : (F != 0) = true := by simp [hF0]
            replace hF0 := hide hF0
            go_wp2_with fail
            refine hCk.mono ?_
            rintro e w2 ⟨rfl, hg2⟩
            go_wp2_with fail
            go_ret2
            exact ⟨none, 0, by rw [hRes.out, hFm.out]; rfl, by rw [hRes.out]; exact Sl.nil, hg.t hg2⟩
        | true =>
          have hch := chain_any A3 c3 w.heap.size m wr hown hg.size (fun q hq => ⟨hfm.out.1 q hq, by have := tot_mem q hq; have := hfm.out.2; omega⟩)
          replace hch := hide hch
          go_wp2_with fail
          refine hch.out.mono ?_
          rintro e w2 h
          rcases h with ⟨h1, rfl, hg2⟩ | ⟨m2, h1, rfl, hN2, hg2⟩
          · replace h1 := hide h1
            go_wp2_with fail
            go_roundw
            case rel => exact ⟨m, A3, c3, false, rfl, rfl, hown.pure hg2, hg.t hg2, hfm, hcm, fun _ => h1.out⟩
            case measure => simp [lenOf, bitOf]
          · have hlen := chain1_len h1
            have hT := hide (chain1_tot h1 hfm.out.1)
            have hS := hide (chainN_step h1)
            have hg3 : w.grownBy w2 none := gr_row hg hg2 (fun g e => by obtain ⟨_, ho, _⟩ := hown; exact (ho.blk_lt e).1)
            clear h1 hch
            go_wp2_with fail
            go_roundw
            case rel => exact ⟨m2, A3, c3, true, rfl, rfl, hN2, hg3, ⟨hT.out.1, by have := hT.out.2; have := hfm.out.2; omega⟩, by rw [Hid, hcm.out, hS.out], fun h => by cases h⟩
            case measure => simp [lenOf, bitOf]; omega

end Go.Proofs.YtmhnjpcjagbdhaaGreat

namespace Go.Proofs.YtmhnjpcjagbdhaaGreat
open Go Go.RowKit Go.Bl

set_option maxHeartbeats 1000000 in
theorem chainedErr_any (A : Option Addr) (c : Nat) (p : List PathV) (w : World) (hl : Sl w 0 A p) (hF : pathsF p ≠ 0) :
    Calls Tryz.prog 12 #[.slice A p.length c] w fun e w' => e = .returned (.tuple #[.slice none 0 0, .int .i64 (pathsF p)]) ∧ w.grownBy w' none := by
  have hC := checkPaths_any A c p w hl
  have hb : (pathsF p != 0) = true := by simp [hF]
  generalize pathsF p = F at *
  replace hF := hide hF
  go_enter Tryz.func12, Tryz.ntmps12
  go_wp2_with fail
  refine hC.mono ?_
  rintro e w1 ⟨rfl, hg1⟩
  go_wp2_with fail
  go_ret2
  exact ⟨rfl, hg1⟩

end Go.Proofs.YtmhnjpcjagbdhaaGreat

/- Contracts of functions that this seat's laws reach, each: what one call returns and what it leaves in memory; no condition beyond each theorem's own hypotheses. -/
import Derived.Test.YtejmbaiioblfeaaGreatDoorZqHulD
import Derived.Test.YtejmbaiioblfeaaGreatDoorZqHulQ
import Derived.Test.YtejmbaiioblfeaaGreatDoorZqRegB
set_option linter.unusedVariables false
set_option linter.unusedSimpArgs false
namespace Go.Proofs.YtejmbaiioblfeaaGreatDoor
open Go Go.RowKit Go.Bl

/-- sorted, but for repeats -/
def WkS (l : List Pt) : Prop := ∀ i j (hi : i < l.length) (hj : j < l.length), i < j → ¬ cmpPt l[j] l[i] < 0
/-- no two neighbours of the first k are the same -/
def NoRep (l : List Pt) (k : Nat) : Prop := ∀ i (h : i + 1 < l.length), i + 1 < k → l[i + 1] ≠ l[i]'(by omega)

theorem wk_lt {l : List Pt} (h : WkS l) {k : Nat} (hr : NoRep l k) : ∀ d i j (hi : i < l.length) (hj : j < l.length), j = i + d + 1 → j < k → cmpPt l[i] l[j] < 0
  | 0, i, j, hi, hj, e, hk => by
    subst e
    exact Classical.byContradiction fun c => hr i hj hk (cmp_anti' (h i (i + 0 + 1) hi hj (by omega)) c)
  | d + 1, i, j, hi, hj, e, hk => by
    have h1 := wk_lt h hr d i (i + d + 1) hi (by omega) rfl (by omega)
    have h2 := wk_lt h hr 0 (i + d + 1) j (by omega) hj (by omega) hk
    exact cmp_trans h1 h2

theorem norep_srt {l : List Pt} (h : WkS l) {k : Nat} (hr : NoRep l k) : SrtP (l.take k) := by
  unfold SrtP
  rw [List.pairwise_iff_getElem]
  intro i j hi hj hij
  rw [List.length_take] at hi hj
  rw [List.getElem_take, List.getElem_take]
  exact wk_lt h hr (j - i - 1) i j (by omega) (by omega) (by omega) (by omega)
/-- the first a of l' are the first e of l without repeats -/
structure CpI (l l' : List Pt) (a e : Nat) : Prop where
  len : l'.length = l.length
  a1 : 1 ≤ a
  ae : a + 1 ≤ e
  el : e ≤ l.length
  srt : SrtP (l'.take a)
  mem : ∀ x, x ∈ l'.take a ↔ x ∈ l.take e
  last : l'.getD (a - 1) default = l.getD (e - 1) default
  tail : ∀ j, e - 1 ≤ j → j < l.length → l'.getD j default = l.getD j default

theorem gdE {l : List Pt} {i : Nat} (h : i < l.length) : l.getD i default = l[i] := by rw [List.getD_eq_getElem?_getD, List.getElem?_eq_getElem h, Option.getD_some]

theorem CpI.start {l : List Pt} (h : WkS l) {k : Nat} (hr : NoRep l k) (h1 : 1 ≤ k) (hk : k < l.length) (e : l[k] = l[k - 1]) : CpI l l k (k + 1) := by
  refine ⟨rfl, h1, Nat.le_refl _, hk, norep_srt h hr, fun x => ?_, ?_, fun j _ _ => rfl⟩
  · rw [take_snoc hk, List.mem_append, List.mem_singleton]
    constructor
    · exact .inl
    · rintro (q | q)
      · exact q
      · rw [q, e]
        exact List.mem_take_iff_getElem.2 ⟨k - 1, by omega, rfl⟩
  · rw [gdE (by omega), gdE (by omega)]
    simp only [Nat.add_sub_cancel]
    exact e.symm

theorem CpI.same {l l' : List Pt} {a e : Nat} (h : CpI l l' a e) (he : e < l.length) (q : l'.getD e default = l'.getD (e - 1) default) : CpI l l' a (e + 1) := by
  have ae := h.ae
  have t1 := h.tail e (by omega) he
  have t2 := h.tail (e - 1) (Nat.le_refl _) (by omega)
  rw [t1, t2] at q
  refine ⟨h.len, h.a1, by omega, he, h.srt, fun x => ?_, ?_, fun j hj hl => h.tail j (by omega) hl⟩
  · rw [h.mem, take_snoc he, List.mem_append, List.mem_singleton]
    constructor
    · exact .inl
    · rintro (k | k)
      · exact k
      · rw [k, ← gdE he, q, gdE (show e - 1 < l.length by omega)]
        exact List.mem_take_iff_getElem.2 ⟨e - 1, by omega, rfl⟩
  · rw [h.last, Nat.add_sub_cancel]; exact q.symm

theorem CpI.push {l l' : List Pt} {a e : Nat} (hw : WkS l) (h : CpI l l' a e) (he : e < l.length) (q : l'.getD e default ≠ l'.getD (e - 1) default) {P : Pt} (hP : l'.getD e default = P) : CpI l (l'.set a P) (a + 1) (e + 1) := by
  have ae := h.ae
  have a1 := h.a1
  have hl := h.len
  have t1 := h.tail e (by omega) he
  have t2 := h.tail (e - 1) (Nat.le_refl _) (by omega)
  rw [t1, t2] at q
  have hPe : P = l[e] := by rw [← hP, t1, gdE he]
  have hlast : l'[a - 1]'(by omega) = l[e - 1]'(by omega) := by rw [← gdE, ← gdE]; exact h.last
  have htk : (l'.set a P).take (a + 1) = l'.take a ++ [P] := by
    rw [take_snoc (l := l'.set a P) (k := a) (by rw [List.length_set]; omega), List.getElem_set_self, List.take_set_of_le (Nat.le_refl a)]
  have hlt : cmpPt (l[e - 1]'(by omega)) P < 0 := by
    rw [hPe]
    rw [gdE he, gdE (show e - 1 < l.length by omega)] at q
    exact Classical.byContradiction fun c => q (cmp_anti' (hw (e - 1) e (by omega) he (by omega)) c)
  refine ⟨by rw [List.length_set]; exact hl, by omega, by omega, he, ?_, fun x => ?_, ?_, fun j hj hjl => ?_⟩
  · rw [htk]
    unfold SrtP
    refine List.pairwise_append.2 ⟨h.srt, List.pairwise_singleton _ _, fun x hx y hy => ?_⟩
    rw [List.mem_singleton.1 hy]
    obtain ⟨i, hi, rfl⟩ := List.mem_take_iff_getElem.1 hx
    by_cases ci : i = a - 1
    · subst ci; rw [hlast]; exact hlt
    · have hs := h.srt
      unfold SrtP at hs
      rw [List.pairwise_iff_getElem] at hs
      have := hs i (a - 1) (by rw [List.length_take]; omega) (by rw [List.length_take]; omega) (by omega)
      rw [List.getElem_take, List.getElem_take, hlast] at this
      exact cmp_trans this hlt
  · rw [htk, take_snoc he, List.mem_append, List.mem_append, h.mem, hPe]
  · rw [Nat.add_sub_cancel, Nat.add_sub_cancel, gdE (by rw [List.length_set]; omega), List.getElem_set_self, gdE he]; exact hPe
  · have e1 : (l'.set a P).getD j default = l'.getD j default := by rw [List.getD_eq_getElem?_getD, List.getElem?_set_ne (by omega), ← List.getD_eq_getElem?_getD]
    rw [e1]; exact h.tail j (by omega) hjl

theorem NoRep.next {l : List Pt} {k : Nat} (h : NoRep l k) (hk : k < l.length) (h1 : 1 ≤ k) (q : l[k] ≠ l[k - 1]) : NoRep l (k + 1) := fun i hi hik => by
  by_cases c : i + 1 < k
  · exact h i hi c
  · have e : k = i + 1 := by omega
    subst e
    exact q

set_option maxHeartbeats 4000000 in
set_option maxRecDepth 100000 in
theorem compactX_any (g c lo : Nat) (l : List Pt) (w : World) (ho : Own w lo 29 (some ⟨g, 0, none⟩) c l) (hn : l.length ≤ 1000000) (hwk : WkS l) :
    Calls Tryz.prog 56 #[.slice (some ⟨g, 0, none⟩) l.length c] w fun e w' => ∃ l' : List Pt, e = .returned (.slice (some ⟨g, 0, none⟩) l'.length c) ∧ Own w' lo 29 (some ⟨g, 0, none⟩) c l' ∧ l'.length ≤ l.length ∧ SrtP l' ∧ (∀ p, p ∈ l' ↔ p ∈ l) ∧ w.grownBy w' (some g) := by
  replace hwk := hide hwk
  have hcap := ho.cap
  go_enter Tryz.func56, Tryz.ntmps56
  by_cases h2 : l.length < 2
  · go_wp2_with fail
    go_ret
    exact ⟨l, rfl, ho, Nat.le_refl _, by have := norep_srt (k := l.length) hwk.out (fun i hi => by omega); rwa [List.take_length] at this, fun p => Iff.rfl, World.grownBy.refl _ _⟩
  · have hw0 := World.grownBy.refl w none
    go_wp2_with fail
    go_loopw [3] (fun i wr => ∃ k : Nat, 1 ≤ k ∧ k ≤ l.length ∧ i = .int .i64 k ∧ Hid (NoRep l k) ∧ w.grownBy wr none) (fun i _ => l.length - (intOf i).toNat)
    case atStart => exact ⟨1, by omega, by omega, rfl, (fun i hi h => by omega), hw0⟩
    case round =>
      clear hw0
      obtain ⟨k, hk1, hk, rfl, hnr, hgr⟩ := hrel
      have hor := ho.pure hgr
      by_cases hlt : k < l.length
      · have hml : k - 1 < l.length := by omega
        have hcl := hide fun W (h : wr.grownBy W none) => (⟨(hor.pure h).cell_pt (i := k) hlt, (hor.pure h).cell_pt (i := k - 1) hml⟩ : _ ∧ _)
        have hcs := hide fun e => CpI.start hwk.out hnr.out hk1 hlt e
        have hnx := hide fun e => NoRep.next hnr.out hlt hk1 e
        generalize l[k] = P at *
        generalize l[k - 1] = Q at *
        clear hor hnr
        go_wp2_with fail
        refine wp_region_fix 9 ((fun wx => wr.grownBy wx none)) (by kernel_rfl) (by kernel_rfl) (gr_drew (World.grownBy.refl _ _)) ?_
        simp only [List.take_succ_cons, List.take_zero, List.drop_succ_cons, List.drop_zero]
        iterate 9 ((refine fix_b (fun K hK => ?_); apply Exists.intro; refine ⟨fun wx hC K' hK' => ?_, ?_⟩; (focus (replace hK' := hide hK'; (obtain ⟨⟨a0, a1⟩, b0, b1⟩ := hcl.out _ hC); go_wp2_with fail; exact hK'.out _ hC)); go_simp; refine hK _ ?_; clear hK K))
        refine fix_nil ?_
        intro wz hC
        replace hgr := gr_trans hgr hC
        clear hC hcl
        obtain ⟨px, py⟩ := P
        obtain ⟨qx, qy⟩ := Q
        by_cases hx : px = qx
        · subst hx
          by_cases hy : py = qy
          · subst hy
            have hci := hide (hcs.out rfl)
            clear hcs hnx
            go_wp2_with fail
            have hg2 := gr_any (r := some g) hgr
            have ho2 := ho.pure hgr
            go_loopw [3, 5] (fun i j wr => ∃ (a b : Nat) (l' : List Pt), 1 ≤ a ∧ 1 ≤ b ∧ a + 1 ≤ k + b ∧ k + b ≤ l.length ∧ i = .int .i64 a ∧ j = .int .i64 b ∧ Hid (l'.length = l.length) ∧ Hid (CpI l l' a (k + b)) ∧ Own wr lo 29 (some ⟨g, 0, none⟩) c l' ∧ w.grownBy wr (some g)) (fun _ j _ => l.length - (intOf j).toNat)
            case atStart => exact ⟨k, 1, l, by omega, by omega, by omega, by omega, rfl, rfl, rfl, hci, ho2, hg2⟩
            case round =>
              clear hg2 ho2 hgr hci
              obtain ⟨a, b, l', ha, hb, hab, hkb, rfl, rfl, hlen, hci, hor, hgr⟩ := hrel
              by_cases hlb : k + b < l.length
              · have h1 : k + b < l'.length := by rw [hlen.out]; exact hlb
                have h2' : k + b - 1 < l'.length := by rw [hlen.out]; omega
                have e1 : k * 2 + b * 2 = (k + b) * 2 := by omega
                have e2 : k * 2 + (b - 1) * 2 = (k + b - 1) * 2 := by omega
                have hcl := hide fun W (h : wr.grownBy W none) => (⟨(hor.pure h).cell_pt (i := k + b) h1, (hor.pure h).cell_pt (i := k + b - 1) h2'⟩ : _ ∧ _)
                have hsm := hide fun e => CpI.same hci.out hlb e
                have hps := hide fun e => CpI.push hwk.out hci.out hlb e rfl
                have g1 : l'.getD (k + b) default = l'[k + b] := gdE h1
                have g2 : l'.getD (k + b - 1) default = l'[k + b - 1] := gdE h2'
                rw [g1, g2] at hsm hps
                clear g1 g2 hci
                generalize l'[k + b] = P at *
                generalize l'[k + b - 1] = Q at *
                rw [← e1, ← e2] at hcl
                have hbk : b < l.length - k := by omega
                have hal : a < l'.length := by rw [hlen.out]; omega
                clear e1 e2 h1 h2'
                go_wp2_with fail
                refine wp_region_fix 9 ((fun wx => wr.grownBy wx none)) (by kernel_rfl) (by kernel_rfl) (gr_drew (World.grownBy.refl _ _)) ?_
                simp only [List.take_succ_cons, List.take_zero, List.drop_succ_cons, List.drop_zero]
                iterate 9 ((refine fix_b (fun K hK => ?_); apply Exists.intro; refine ⟨fun wx hC K' hK' => ?_, ?_⟩; (focus (replace hK' := hide hK'; (obtain ⟨⟨a0, a1⟩, b0, b1⟩ := hcl.out _ hC); go_wp2_with fail; exact hK'.out _ hC)); go_simp; refine hK _ ?_; clear hK K))
                refine fix_nil ?_
                intro wz hC
                replace hgr := gr_trans hgr (gr_any hC)
                replace hor := hor.pure hC
                obtain ⟨⟨a0, a1⟩, -⟩ := hcl.out _ hC
                clear hC hcl
                obtain ⟨d0, d1⟩ := hor.cell_pt hal
                have f0 := hor.frozen (a * 2)
                have f1 := hor.frozen (a * 2 + 1)
                have hst := hor.set_pt hal P
                have hgs := gr_set (gr_set hgr (p := ⟨g, a * 2, none⟩) (.inl rfl) (.int .i64 P.x)) (p := ⟨g, a * 2 + 1, none⟩) (.inl rfl) (.int .i64 P.y)
                have hlen2 : Hid ((l'.set a P).length = l.length) := by rw [Hid, List.length_set]; exact hlen.out
                obtain ⟨px, py⟩ := P
                obtain ⟨qx, qy⟩ := Q
                by_cases hx : px = qx
                · subst hx
                  by_cases hy : py = qy
                  · subst hy
                    have hsm2 := hide (hsm.out rfl)
                    clear hsm hps
                    go_wp2_with fail
                    (go_roundw; (case rel => exact ⟨a, b + 1, l', by omega, by omega, by omega, by omega, rfl, by go_num, hlen, hsm2, hor, hgr⟩); (case measure => simp [intOf]; omega))
                  · have hps2 := hide (hps.out (fun e => hy (Pt.mk.inj e).2))
                    clear hsm hps
                    go_wp2_with fail
                    (go_roundw; (case rel => exact ⟨a + 1, b + 1, _, by omega, by omega, by omega, by omega, by go_num, by go_num, hlen2, hps2, hst, hgs⟩); (case measure => simp [intOf]; omega))
                · have hps2 := hide (hps.out (fun e => hx (Pt.mk.inj e).1))
                  clear hsm hps
                  go_wp2_with fail
                  (go_roundw; (case rel => exact ⟨a + 1, b + 1, _, by omega, by omega, by omega, by omega, by go_num, by go_num, hlen2, hps2, hst, hgs⟩); (case measure => simp [intOf]; omega))
              · have hbk : ¬ b < l.length - k := by omega
                have hcapl := ho.cap
                have hal : a < l.length := by omega
                have htk := hor.takeH a (by rw [hlen.out]; omega)
                have htl : (l'.take a).length = a := by rw [List.length_take, hlen.out]; omega
                have hcl : ∀ ty, (Builtin.clear_ #[35] ty #[.slice (some ⟨g, a * 2, none⟩) (l.length - a) (c - a)]).run Tryz.prog wr = .ok (.tuple #[]) (wr.setCells g (a * 2) (List.replicate ((l.length - a) * 2) (.int .i64 0))) := fun ty =>
                  run_clearP wr ty g (a * 2) (l.length - a) (c - a) (by omega) (fun j hj => hor.spareH (by rw [show Enc.sz Pt = 2 from rfl]; omega)) (fun j _ => hor.frozen _)
                have hpn := htk.pastN (List.replicate ((l.length - a) * 2) (.int .i64 0)) (j := a * 2) (by rw [htl, show Enc.sz Pt = 2 from rfl]; exact Nat.le_refl _)
                have hfin : Hid (SrtP (l'.take a) ∧ ∀ p, p ∈ l'.take a ↔ p ∈ l) := ⟨hci.out.srt, fun p => by rw [hci.out.mem, List.take_of_length_le (by omega)]⟩
                have hgz := gr_trans hgr hpn.2
                replace htl := hide htl
                replace hpn := hide hpn.1
                clear hor htk
                go_wp2_with fail
                go_ret
                exact ⟨l'.take a, by rw [htl.out]; rfl, hpn.out, by rw [htl.out]; omega, hfin.out.1, hfin.out.2, hgz⟩
          · have hnx2 := hide (hnx.out (fun e => hy (Pt.mk.inj e).2))
            clear hnx hcs
            go_wp2_with fail
            (go_roundw; (case rel => exact ⟨k + 1, by omega, by omega, by go_num, hnx2, hgr⟩); (case measure => simp [intOf]; omega))
        · have hnx2 := hide (hnx.out (fun e => hx (Pt.mk.inj e).1))
          clear hnx hcs
          go_wp2_with fail
          (go_roundw; (case rel => exact ⟨k + 1, by omega, by omega, by go_num, hnx2, hgr⟩); (case measure => simp [intOf]; omega))
      · go_wp2_with fail
        go_ret
        exact ⟨l, by congr 2, ho.pure hgr, Nat.le_refl _, by have := norep_srt (k := l.length) hwk.out (by rw [show l.length = k from by omega]; exact hnr.out); rwa [List.take_length] at this, fun p => Iff.rfl, gr_any hgr⟩

end Go.Proofs.YtejmbaiioblfeaaGreatDoor

namespace Go.Proofs.YtejmbaiioblfeaaGreatDoor
open Go Go.RowKit Go.Bl

theorem pop_step {out : List Pt} (q : Pt) (h : 1 < out.length) : popF q out.reverse = if turnP (out[out.length - 2]'(by omega)) (out[out.length - 1]'(by omega)) q ≤ 0 then popF q (out.take (out.length - 1)).reverse else out.reverse := by
  obtain ⟨st, rfl⟩ : ∃ st, out = List.reverse st := ⟨out.reverse, (List.reverse_reverse _).symm⟩
  match st, h with
  | [], h => simp at h
  | [a], h => simp at h
  | a :: b :: t, h =>
    have e1 : ((a :: b :: t).reverse)[(a :: b :: t).reverse.length - 2]'(by omega) = b := by rw [List.getElem_reverse]; simp
    have e2 : ((a :: b :: t).reverse)[(a :: b :: t).reverse.length - 1]'(by omega) = a := by rw [List.getElem_reverse]; simp
    have e3 : ((a :: b :: t).reverse.take ((a :: b :: t).reverse.length - 1)).reverse = b :: t := by
      rw [List.reverse_take, List.reverse_reverse]
      simp only [List.length_reverse]
      rw [show (a :: b :: t).length - ((a :: b :: t).length - 1) = 1 by simp]
      rfl
    rw [e1, e2, e3, List.reverse_reverse]
    rfl

theorem pop_few {out : List Pt} (q : Pt) (h : out.length ≤ 1) : popF q out.reverse = out.reverse := by
  match out, h with
  | [], _ => rfl
  | [a], _ => rfl

set_option maxHeartbeats 1000000 in
set_option maxRecDepth 100000 in
theorem halfX_any (A : Option Addr) (c : Nat) (l : List Pt) (w : World) (hl : Sl w 0 A l) (h0 : 0 < l.length) (hn : l.length ≤ 1000000) (hbd : ∀ p ∈ l, bdP p) :
    Calls Tryz.prog 57 #[.slice A l.length c] w fun e w' => ∃ (A' : Option Addr) (c' : Nat) (out : List Pt), e = .returned (.slice A' out.length c') ∧ Own w' w.heap.size 29 A' c' out ∧ 0 < out.length ∧ out.length ≤ l.length ∧ (∀ p ∈ out, p ∈ l) ∧ out.reverse = halfS l ∧ w.grownBy w' none := by
  obtain ⟨j0, hj, hjz, j1, j2⟩ := info_parts info_pt
  obtain ⟨g, o, rfl, -, hgl, hc⟩ := hl.pt h0
  have hcl := hide fun k (hk : k < l.length) W (h : w.grownBy W none) => (⟨h.k (hc k hk).1, h.k (hc k hk).2⟩ : _ ∧ _)
  have hmem := hide fun k (hk : k < l.length) => List.getElem_mem hk
  replace hbd := hide hbd
  clear hc hl
  go_enter Tryz.func57, Tryz.ntmps57
  go_wp2_with fail
  go_loopw [3, 8] (fun s i wr => ∃ (k : Nat) (out : List Pt) (A2 : Option Addr) (c2 : Nat), k ≤ l.length ∧ i = .int .i64 k ∧ s = .slice A2 out.length c2 ∧ out.length ≤ k ∧ (0 < k → 0 < out.length) ∧ Hid (∀ p ∈ out, p ∈ l) ∧ Hid (out.reverse = halfS (l.take k)) ∧ Own wr w.heap.size 29 A2 c2 out ∧ w.grownBy wr none) (fun _ i _ => l.length - (intOf i).toNat)
  case atStart => exact ⟨0, [], none, 0, by omega, rfl, rfl, by simp, by simp, by simp [Hid], rfl, Own.nil _ _ _, World.grownBy.refl _ _⟩
  case round =>
    obtain ⟨k, out, A2, c2, hk, rfl, rfl, hok, h0k, hsub, hsp, hor, hgr⟩ := hrel
    by_cases hlt : k < l.length
    · obtain ⟨q0, q1⟩ := hcl.out k hlt wr hgr
      have hqm := hide (hmem.out k hlt)
      have hqb := hbd.out _ hqm.out
      have htk : Hid (l.take (k + 1) = l.take k ++ [l[k]]) := take_snoc hlt
      generalize l[k] = q at *
      have hpk0 : Hid (popF q out.reverse = popF q (halfS (l.take k))) := by rw [Hid, hsp.out]
      clear hsp
      replace hqb := hide hqb
      clear h0k
      go_upto_region 5 with fail
      obtain ⟨w5, hw5⟩ : ∃ x, x = (wr).alloc (.cells [.int .i64 q.x, .int .i64 q.y].toArray 29) := ⟨_, rfl⟩
      have hg5 : (wr).grownBy w5 none := by rw [hw5]; exact gr_alloc (World.grownBy.refl _ _) _
      have hb5 : Box w5 (wr).heap.size 29 [.int .i64 q.x, .int .i64 q.y] := by rw [hw5]; exact Box.new _ _ _
      have hxs5 := hb5.lt
      rw [← hw5]
      clear hw5
      obtain ⟨x5, hx5⟩ : ∃ x, x = (wr).heap.size := ⟨_, rfl⟩
      rw [← hx5] at hb5 hxs5 ⊢
      have hxl5 : (wr).heap.size ≤ x5 := by omega
      clear hx5
      have hbq := hb5
      replace hor := hor.pure hg5
      replace hgr := hgr.t hg5
      clear hb5 hg5 hxs5 hxl5 q0 q1
      obtain ⟨wo, rfl⟩ : ∃ x, x = w5 := ⟨w5, rfl⟩
      have hself := World.grownBy.refl wo none
      go_loopw [3] (fun s wr => ∃ (out : List Pt) (A2 : Option Addr) (c2 : Nat), s = .slice A2 out.length c2 ∧ out.length ≤ k ∧ Hid (∀ p ∈ out, p ∈ l) ∧ Hid (popF q out.reverse = popF q (halfS (l.take k))) ∧ Own wr w.heap.size 29 A2 c2 out ∧ wo.grownBy wr none) (fun s _ => lenV s)
      case atStart => exact ⟨out, A2, c2, rfl, hok, hsub, hpk0, hor, hself⟩
      case round =>
        clear hself hor hsub hok hpk0
        obtain ⟨out, A2, c2, rfl, hok, hsub, hpk, hor, hgo⟩ := hrel
        replace hbq := hbq.pure hgo
        replace hgr := hgr.t hgo
        by_cases h1 : 1 < out.length
        · obtain ⟨g2, rfl, -⟩ := hor.shape (by omega)
          have i1 : out.length - 2 < out.length := by omega
          have i2 : out.length - 1 < out.length := by omega
          have hcc := hide fun W (h : wr.grownBy W none) => (⟨(hor.pure h).cell_pt i1, (hor.pure h).cell_pt i2, (hbq.pure h).c 0 rfl, (hbq.pure h).c 1 rfl⟩ : _ ∧ _ ∧ _ ∧ _)
          have hT := hide fun W => turn_any out[out.length - 2] out[out.length - 1] q W (hbd.out _ (hsub.out _ (List.getElem_mem i1))) (hbd.out _ (hsub.out _ (List.getElem_mem i2))) hqb.out
          have hol : out.length ≤ 1000000 := by omega
          have h1i : (1 : Int) < out.length := by omega
          have hcap := hor.cap
          have hps := hide (pop_step q h1)
          generalize out[out.length - 2] = P at *
          generalize out[out.length - 1] = Q at *
          generalize turnP P Q q = T at *
          replace hps := hide hps.out
          go_upto_region 5 with fail
          refine wp_region_tree (fun wx => wr.grownBy wx none) [2, 2, 2, 2, 2, 2, 2, 2, 2, 1, 2, 2, 2, 2, 2, 1, 1, 0, 2, 2] (.bl 0 (.bl 1 (.bl 2 (.bl 3 (.bl 4 (.bl 5 (.bl 6 (.bl 7 (.bl 8 (.bl 9 (.bl 10 (.bl 11 (.bl 12 (.bl 13 (.bl 14 (.bl 15 (.bl 16 (.ef 17 (.bl 18 (.bl 19 .done)))))))))))))))))))) (by kernel_rfl) (by kernel_rfl) (gr_drew (World.grownBy.refl _ _)) ?_
          obtain ⟨u0, hu0⟩ : ∃ x, x = (wr).drew := ⟨_, rfl⟩
          rw [← hu0]
          have hgu0 : (wr).grownBy u0 none := by rw [hu0]; exact gr_drew (World.grownBy.refl _ _)
          clear hu0
          refine tree_p rfl rfl rfl rfl _ rfl (by simp) (fun K hK => ?_)
          apply Exists.intro
          refine ⟨fun wq K' hK' => ?_, ?_⟩
          · go_wp2_with fail
            exact hK'
          go_simp
          refine hK _ ?_
          clear hK K
          refine tree_p rfl rfl rfl rfl _ rfl (by simp) (fun K hK => ?_)
          apply Exists.intro
          refine ⟨fun wq K' hK' => ?_, ?_⟩
          · go_wp2_with fail
            exact hK'
          go_simp
          refine hK _ ?_
          clear hK K
          refine tree_p rfl rfl rfl rfl _ rfl (by simp) (fun K hK => ?_)
          apply Exists.intro
          refine ⟨fun wq K' hK' => ?_, ?_⟩
          · go_wp2_with fail
            exact hK'
          go_simp
          refine hK _ ?_
          clear hK K
          refine tree_p rfl rfl rfl rfl _ rfl (by simp) (fun K hK => ?_)
          apply Exists.intro
          refine ⟨fun wq K' hK' => ?_, ?_⟩
          · go_wp2_with fail
            exact hK'
          go_simp
          refine hK _ ?_
          clear hK K
          refine tree_p rfl rfl rfl rfl _ rfl (by simp) (fun K hK => ?_)
          apply Exists.intro
          refine ⟨fun wq K' hK' => ?_, ?_⟩
          · go_wp2_with fail
            exact hK'
          go_simp
          refine hK _ ?_
          clear hK K
          refine tree_p rfl rfl rfl rfl _ rfl (by simp) (fun K hK => ?_)
          apply Exists.intro
          refine ⟨fun wq K' hK' => ?_, ?_⟩
          · go_wp2_with fail
            exact hK'
          go_simp
          refine hK _ ?_
          clear hK K
          refine tree_p rfl rfl rfl rfl _ rfl (by simp) (fun K hK => ?_)
          apply Exists.intro
          refine ⟨fun wq K' hK' => ?_, ?_⟩
          · go_wp2_with fail
            exact hK'
          go_simp
          refine hK _ ?_
          clear hK K
          refine tree_p rfl rfl rfl rfl _ rfl (by simp) (fun K hK => ?_)
          apply Exists.intro
          refine ⟨fun wq K' hK' => ?_, ?_⟩
          · go_wp2_with fail
            exact hK'
          go_simp
          refine hK _ ?_
          clear hK K
          refine tree_p rfl rfl rfl rfl _ rfl (by simp) (fun K hK => ?_)
          apply Exists.intro
          refine ⟨fun wq K' hK' => ?_, ?_⟩
          · go_wp2_with fail
            exact hK'
          go_simp
          refine hK _ ?_
          clear hK K
          refine tree_b rfl rfl rfl rfl _ rfl (by simp) (fun K hK => ?_)
          apply Exists.intro
          refine ⟨fun wq hq K' hK' => ?_, ?_⟩
          · obtain ⟨⟨d0, d1⟩, ⟨d2, d3⟩, ⟨d4, -⟩, d5, -⟩ := hcc.out wq hq
            go_wp2_with fail
            exact hK'
          go_simp
          refine hK _ ?_
          clear hK K
          refine tree_p rfl rfl rfl rfl _ rfl (by simp) (fun K hK => ?_)
          apply Exists.intro
          refine ⟨fun wq K' hK' => ?_, ?_⟩
          · go_wp2_with fail
            exact hK'
          go_simp
          refine hK _ ?_
          clear hK K
          refine tree_p rfl rfl rfl rfl _ rfl (by simp) (fun K hK => ?_)
          apply Exists.intro
          refine ⟨fun wq K' hK' => ?_, ?_⟩
          · go_wp2_with fail
            exact hK'
          go_simp
          refine hK _ ?_
          clear hK K
          refine tree_p rfl rfl rfl rfl _ rfl (by simp) (fun K hK => ?_)
          apply Exists.intro
          refine ⟨fun wq K' hK' => ?_, ?_⟩
          · go_wp2_with fail
            exact hK'
          go_simp
          refine hK _ ?_
          clear hK K
          refine tree_p rfl rfl rfl rfl _ rfl (by simp) (fun K hK => ?_)
          apply Exists.intro
          refine ⟨fun wq K' hK' => ?_, ?_⟩
          · go_wp2_with fail
            exact hK'
          go_simp
          refine hK _ ?_
          clear hK K
          refine tree_p rfl rfl rfl rfl _ rfl (by simp) (fun K hK => ?_)
          apply Exists.intro
          refine ⟨fun wq K' hK' => ?_, ?_⟩
          · go_wp2_with fail
            exact hK'
          go_simp
          refine hK _ ?_
          clear hK K
          refine tree_b rfl rfl rfl rfl _ rfl (by simp) (fun K hK => ?_)
          apply Exists.intro
          refine ⟨fun wq hq K' hK' => ?_, ?_⟩
          · obtain ⟨⟨d0, d1⟩, ⟨d2, d3⟩, ⟨d4, -⟩, d5, -⟩ := hcc.out wq hq
            go_wp2_with fail
            exact hK'
          go_simp
          refine hK _ ?_
          clear hK K
          refine tree_b rfl rfl rfl rfl _ rfl (by simp) (fun K hK => ?_)
          apply Exists.intro
          refine ⟨fun wq hq K' hK' => ?_, ?_⟩
          · obtain ⟨⟨d0, d1⟩, ⟨d2, d3⟩, ⟨d4, -⟩, d5, -⟩ := hcc.out wq hq
            go_wp2_with fail
            exact hK'
          go_simp
          refine hK _ ?_
          clear hK K
          refine tree_e0 (by kernel_rfl) rfl rfl (fun K hK => ?_)
          go_wp2_with fail
          refine (hT.out u0).mono ?_
          rintro e w17 ⟨rfl, hg17⟩
          go_wp2_with fail
          try go_simp
          refine hK _ _ trivial ?_
          clear hK K
          refine tree_p rfl rfl rfl rfl _ rfl (by simp) (fun K hK => ?_)
          apply Exists.intro
          refine ⟨fun wq K' hK' => ?_, ?_⟩
          · go_wp2_with fail
            exact hK'
          go_simp
          refine hK _ ?_
          clear hK K
          refine tree_p rfl rfl rfl rfl _ rfl (by simp) (fun K hK => ?_)
          apply Exists.intro
          refine ⟨fun wq K' hK' => ?_, ?_⟩
          · go_wp2_with fail
            exact hK'
          go_simp
          refine hK _ ?_
          clear hK K
          refine tree_done ?_
          have hgz := gr_trans hgu0 hg17
          clear hcc hT
          by_cases hT0 : T ≤ 0
          · have hpk2 : Hid (popF q (out.take (out.length - 1)).reverse = popF q (halfS (l.take k))) := by
              have h9 := hps.out
              rw [if_pos hT0] at h9
              rw [Hid, ← h9]; exact hpk.out
            clear hps hpk
            have htk := (hor.pure hgz).takeH (out.length - 1) (by omega)
            have htl : Hid ((out.take (out.length - 1)).length = out.length - 1) := by rw [Hid, List.length_take]; omega
            have hgoz := hgo.t hgz
            go_wp2_with fail
            (go_roundw; (case rel => exact ⟨out.take (out.length - 1), _, c2, by rw [htl.out], by rw [htl.out]; omega, fun p hp => hsub.out p (List.mem_of_mem_take hp), hpk2, htk, hgoz⟩); (case measure => simp [lenV]; omega))
          · have hb : ¬ T ≤ 0 := hT0
            have hself2 : Hid (popF q out.reverse = out.reverse) := by
              have h9 := hps.out
              rw [if_neg hT0] at h9
              exact h9
            clear hps
            go_upto_region 7 with fail
            obtain ⟨b0, -⟩ := (hbq.pure hgz).c 0 rfl
            obtain ⟨b1, -⟩ := (hbq.pure hgz).c 1 rfl
            replace hor := hor.pure hgz
            replace hgr := hgr.t hgz
            have hszw := hgr.size
            clear hgz
            go_wp2_with (at_builtin; refine wpList_push (α := Pt) _ rfl (.tmp 37) (.tmp 39) _ rfl w.heap.size 29 j0 _ 16 Tryz.underlying35 hj hjz j1 j2 rfl _ _ _ out rfl (rfl) (by exact hor.pure (gr_alloc (World.grownBy.refl _ _) _)) 0 ⟨_, 0, none⟩ 1 1 [q] rfl rfl (by exact sl_oneAt _ 0 [.int .i64 q.x, .int .i64 q.y] _ _ _ (by first | rfl | simp) (Nat.zero_le _) rfl) ?d2 ?d3 ?d4 ?_)
            case d2 => first | omega | (simp; omega)
            case d3 => first | (simp [maxLen]; omega) | (unfold maxLen; omega)
            case d4 => first | omega | (simp; omega)
            intro A6 c6 w6 hO6 hU6
            have hgy := hU6.gr (Nat.le_refl _) (hgr.t (gr_alloc (World.grownBy.refl _ _) (.cells #[.int .i64 q.x, .int .i64 q.y] 29)))
            have hsub2 : Hid (∀ p ∈ out ++ [q], p ∈ l) := fun p hp => by
              rcases List.mem_append.1 hp with h | h
              · exact hsub.out p h
              · rw [List.mem_singleton.1 h]; exact hqm.out
            have hout2 : Hid ((out ++ [q]).reverse = halfS (l.take (k + 1))) := by
              rw [Hid, htk.out, half_snoc, ← hpk.out, hself2.out, List.reverse_append]; rfl
            go_wp2_with fail
            (go_roundw; (case rel => exact ⟨k + 1, out ++ [q], A6, c6, by omega, by go_num, by first | (rw [List.length_append]; rfl) | (rw [List.length_append, hn1.out]; rfl), by simp; omega, by simp, hsub2, hout2, hO6, hgy⟩); (case measure => simp [intOf]; omega))
        · rcases (show out.length = 0 ∨ out.length = 1 by omega) with hn1 | hn1
          all_goals
            have hself2 : Hid (popF q out.reverse = out.reverse) := pop_few q (by omega)
            rw [hn1]
            clear h1
            replace hn1 := hide hn1
            go_upto_region 5 with fail
            refine wp_region_tree (fun wx => wr.grownBy wx none) [2, 2, 2, 2, 2, 2, 2, 2, 2, 1, 2, 2, 2, 2, 2, 1, 1, 0, 2, 2] (.bl 0 (.bl 1 (.bl 2 (.bl 3 (.bl 4 (.bl 5 (.bl 6 (.bl 7 (.bl 8 (.bl 9 (.bl 10 (.bl 11 (.bl 12 (.bl 13 (.bl 14 (.bl 15 (.bl 16 (.ef 17 (.bl 18 (.bl 19 .done)))))))))))))))))))) (by kernel_rfl) (by kernel_rfl) (gr_drew (World.grownBy.refl _ _)) ?_
            obtain ⟨u0, hu0⟩ : ∃ x, x = (wr).drew := ⟨_, rfl⟩
            rw [← hu0]
            have hgu0 : (wr).grownBy u0 none := by rw [hu0]; exact gr_drew (World.grownBy.refl _ _)
            clear hu0
            refine tree_p rfl rfl rfl rfl _ rfl (by simp) (fun K hK => ?_)
            apply Exists.intro
            refine ⟨fun wq K' hK' => ?_, ?_⟩
            · go_wp2_with fail
              exact hK'
            go_simp
            refine hK _ ?_
            clear hK K
            refine tree_p rfl rfl rfl rfl _ rfl (by simp) (fun K hK => ?_)
            apply Exists.intro
            refine ⟨fun wq K' hK' => ?_, ?_⟩
            · go_wp2_with fail
              exact hK'
            go_simp
            refine hK _ ?_
            clear hK K
            refine tree_p rfl rfl rfl rfl _ rfl (by simp) (fun K hK => ?_)
            apply Exists.intro
            refine ⟨fun wq K' hK' => ?_, ?_⟩
            · go_wp2_with fail
              exact hK'
            go_simp
            refine hK _ ?_
            clear hK K
            refine tree_p rfl rfl rfl rfl _ rfl (by simp) (fun K hK => ?_)
            apply Exists.intro
            refine ⟨fun wq K' hK' => ?_, ?_⟩
            · go_wp2_with fail
              exact hK'
            go_simp
            refine hK _ ?_
            clear hK K
            refine tree_skip rfl rfl ?_
            try go_simp
            refine tree_skip rfl rfl ?_
            try go_simp
            refine tree_skip rfl rfl ?_
            try go_simp
            refine tree_skip rfl rfl ?_
            try go_simp
            refine tree_skip rfl rfl ?_
            try go_simp
            refine tree_skip rfl rfl ?_
            try go_simp
            refine tree_skip rfl rfl ?_
            try go_simp
            refine tree_skip rfl rfl ?_
            try go_simp
            refine tree_skip rfl rfl ?_
            try go_simp
            refine tree_skip rfl rfl ?_
            try go_simp
            refine tree_skip rfl rfl ?_
            try go_simp
            refine tree_skip rfl rfl ?_
            try go_simp
            refine tree_skip rfl rfl ?_
            try go_simp
            refine tree_eskip0 (by kernel_rfl) rfl rfl ?_
            try go_simp
            refine tree_skip rfl rfl ?_
            try go_simp
            refine tree_p rfl rfl rfl rfl _ rfl (by simp) (fun K hK => ?_)
            apply Exists.intro
            refine ⟨fun wq K' hK' => ?_, ?_⟩
            · go_wp2_with fail
              exact hK'
            go_simp
            refine hK _ ?_
            clear hK K
            refine tree_done ?_
            have hgz := hgu0
            go_upto_region 7 with fail
            have hn2 := hn1.out
            obtain ⟨b0, -⟩ := (hbq.pure hgz).c 0 rfl
            obtain ⟨b1, -⟩ := (hbq.pure hgz).c 1 rfl
            replace hor := hor.pure hgz
            replace hgr := hgr.t hgz
            have hszw := hgr.size
            clear hgz
            go_wp2_with (at_builtin; refine wpList_push (α := Pt) _ rfl (.tmp 37) (.tmp 39) _ rfl w.heap.size 29 j0 _ 16 Tryz.underlying35 hj hjz j1 j2 rfl _ _ _ out rfl (hn1.out.symm) (by exact hor.pure (gr_alloc (World.grownBy.refl _ _) _)) 0 ⟨_, 0, none⟩ 1 1 [q] rfl rfl (by exact sl_oneAt _ 0 [.int .i64 q.x, .int .i64 q.y] _ _ _ (by first | rfl | simp) (Nat.zero_le _) rfl) ?d2 ?d3 ?d4 ?_)
            case d2 => first | omega | (simp; omega)
            case d3 => first | (simp [maxLen]; omega) | (unfold maxLen; omega)
            case d4 => first | omega | (simp; omega)
            intro A6 c6 w6 hO6 hU6
            have hgy := hU6.gr (Nat.le_refl _) (hgr.t (gr_alloc (World.grownBy.refl _ _) (.cells #[.int .i64 q.x, .int .i64 q.y] 29)))
            have hsub2 : Hid (∀ p ∈ out ++ [q], p ∈ l) := fun p hp => by
              rcases List.mem_append.1 hp with h | h
              · exact hsub.out p h
              · rw [List.mem_singleton.1 h]; exact hqm.out
            have hout2 : Hid ((out ++ [q]).reverse = halfS (l.take (k + 1))) := by
              rw [Hid, htk.out, half_snoc, ← hpk.out, hself2.out, List.reverse_append]; rfl
            go_wp2_with fail
            (go_roundw; (case rel => exact ⟨k + 1, out ++ [q], A6, c6, by omega, by go_num, by first | (rw [List.length_append]; rfl) | (rw [List.length_append, hn1.out]; rfl), by simp; omega, by simp, hsub2, hout2, hO6, hgy⟩); (case measure => simp [intOf]; omega))
    · have hkn : 0 < k := by omega
      have h0k2 := h0k hkn
      go_wp2_with fail
      go_ret
      exact ⟨A2, c2, out, rfl, hor, h0k2, by omega, hsub.out, by rw [hsp.out, List.take_of_length_le (by omega)], hgr⟩

end Go.Proofs.YtejmbaiioblfeaaGreatDoor

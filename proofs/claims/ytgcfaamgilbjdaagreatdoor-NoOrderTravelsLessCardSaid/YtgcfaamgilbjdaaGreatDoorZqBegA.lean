/- Contracts of functions that this seat's laws reach, each: what one call returns and what it leaves in memory; no condition beyond each theorem's own hypotheses. -/
import Derived.Test.YtgcfaamgilbjdaaGreatDoorZqBegD
import Derived.Test.YtgcfaamgilbjdaaGreatDoorZqNearB
import Derived.Test.YtgcfaamgilbjdaaGreatDoorZqIdxP
import Derived.Test.YtgcfaamgilbjdaaGreatDoorZqRowsN
import Derived.Test.YtgcfaamgilbjdaaGreatDoorZqFndB
set_option linter.unusedVariables false
set_option linter.unusedSimpArgs false
namespace Go.Bl
open Go
section
variable {α : Type} [Enc α] [Flat α] {w w' : World} {lo li : Nat} {eo ei : TypeId} {A : Option Addr} {c : Nat} {raws : List RawS} {ls : List (List α)}
/-- a row that came of a call is put in -/
theorem RowsN.putNew {g : Nat} (h : RowsN w lo li eo ei (some ⟨g, 0, none⟩) c raws ls) {i : Nat} (hi : i < raws.length) {A5 : Option Addr} {c5 : Nat} {l5 : List α} (ho : Own w' li ei A5 c5 l5) (hg : w.grownBy w' none) (hnew : ∀ x, blk A5 = some x → w.heap.size ≤ x) :
    RowsN (w'.setCell ⟨g, i, none⟩ (.slice A5 l5.length c5)) lo li eo ei (some ⟨g, 0, none⟩) c (raws.set i ⟨A5, l5.length, c5⟩) (ls.set i l5) := by
  have hO := (h.out.pure hg).put (j := 0) (x := (⟨A5, l5.length, c5⟩ : RawS)) (u := .slice A5 l5.length c5) hi (by decide) (by rintro c1 rfl; rfl)
  rw [show Enc.sz RawS = 1 from rfl, Nat.mul_one, Nat.add_zero] at hO
  have hn5 : blk A5 ≠ some g := (h.out.pure hg).ne_own ho h.typ rfl
  have hlt : ∀ k (hk : k < raws.length) x, blk raws[k].A = some x → x < w.heap.size := fun k hk x hx => ((h.ins k hk (by rw [← h.len]; exact hk)).2.blk_lt hx).2
  refine ⟨hO, by simp [h.len], fun k h1 h2 => ?_, fun k m hk hm hne x hx => ?_, h.typ, h.le⟩
  · rw [List.length_set] at h1 h2
    rw [List.getElem_set, List.getElem_set]
    by_cases e : i = k
    · subst e
      rw [if_pos rfl, if_pos rfl]
      exact ⟨rfl, ho.set_other _ hn5⟩
    · rw [if_neg e, if_neg e]
      obtain ⟨e1, e2⟩ := h.ins k h1 h2
      exact ⟨e1, (e2.pure hg).set_other _ (h.apart h1 rfl)⟩
  · rw [List.length_set] at hk hm
    rw [List.getElem_set] at hx ⊢
    by_cases e1 : i = k
    · subst e1
      rw [if_pos rfl] at hx
      rw [if_neg hne]
      intro e3
      have := hlt m hm x e3
      have := hnew x hx
      omega
    · rw [if_neg e1] at hx
      by_cases e2 : i = m
      · subst e2
        rw [if_pos rfl]
        intro e3
        have := hlt k hk x hx
        have := hnew x e3
        omega
      · rw [if_neg e2]; exact h.dis k m hk hm hne x hx
/-- a block of another type has turned -/
theorem RowsN.other {β : Type} [Enc β] {q lo2 c2 : Nat} {e2 : TypeId} {l2 : List β} (h : RowsN w lo li eo ei A c raws ls) (ho : Own w lo2 e2 (some ⟨q, 0, none⟩) c2 l2) (h1 : e2 ≠ eo) (h2 : e2 ≠ ei) (hg : w.grownBy w' (some q)) : RowsN w' lo li eo ei A c raws ls :=
  ⟨h.out.ne hg fun g e q2 => ho.ne_own h.out h1 rfl (by injection q2 with q2; rw [e, q2]), h.len, fun i a b => ⟨(h.ins i a b).1, (h.ins i a b).2.ne hg fun g e q2 => ho.ne_own (h.ins i a b).2 h2 rfl (by injection q2 with q2; rw [e, q2])⟩, h.dis, h.typ, h.le⟩
/-- an own row of another type has turned -/
theorem RowsN.otherA {β : Type} [Enc β] {A2 : Option Addr} {lo2 c2 : Nat} {e2 : TypeId} {l2 : List β} (h : RowsN w lo li eo ei A c raws ls) (ho : Own w lo2 e2 A2 c2 l2) (h1 : e2 ≠ eo) (h2 : e2 ≠ ei) (hg : w.grownBy w' (blk A2)) : RowsN w' lo li eo ei A c raws ls :=
  ⟨h.out.ne hg fun g e q2 => ho.ne_own h.out h1 q2 e, h.len, fun i a b => ⟨(h.ins i a b).1, (h.ins i a b).2.ne hg fun g e q2 => ho.ne_own (h.ins i a b).2 h2 q2 e⟩, h.dis, h.typ, h.le⟩
omit [Flat α] in
/-- a row as a list -/
theorem RowsN.slAt (h : RowsN w lo li eo ei A c raws ls) {i : Nat} (hi : i < raws.length) {l5 : List α} (h5 : ls[i]'(by rw [← h.len]; exact hi) = l5) : raws[i].n = l5.length ∧ Own w li ei raws[i].A raws[i].c l5 := by
  have := h.ins i hi (by rw [← h.len]; exact hi)
  rw [h5] at this
  exact this
end

end Go.Bl
namespace Go.Proofs.YtgcfaamgilbjdaaGreatDoor
open Go Go.RowKit Go.Bl

theorem info_rowC : (Tryz.prog.info? 50).map (fun i => (i.zero, i.size, i.bytes)) = some (some (.slice none 0 0), 1, 24) := by kernel_rfl

theorem info_rowI : (Tryz.prog.info? 22).map (fun i => (i.zero, i.size, i.bytes)) = some (some (.slice none 0 0), 1, 24) := by kernel_rfl

set_option maxHeartbeats 8000000 in
set_option maxRecDepth 100000 in
theorem begun_any (A : Option Addr) (c : Nat) (l : List PathV) (B : Option Addr) (d : Nat) (o : List Int) (st : Pt) (w : World) (hl : Sl w 0 A l) (ho : Sl w 0 B o) (hp : pathsF l = 0) (hst : near st) (hsf : farP st = false) (hpm : o.Perm ((List.range l.length).map Int.ofNat)) :
    Calls Tryz.prog 9 #[.agg #[.int .i64 st.x, .int .i64 st.y], .slice A l.length c, .slice B o.length d] w fun e w' => ∃ (A' : Option Addr) (c' : Nat), e = .returned (.tuple #[.slice A' (begK l st o o.length).1.length c', .int .i64 (travS l st (begK l st o o.length).1).2, .int .i64 0]) ∧ Own w' w.heap.size 43 A' c' (begK l st o o.length).1 ∧ w.grownBy w' none := by
  have hll := (pathsF_zero hp).1
  have hol : o.length = l.length := by have := hpm.length_eq; simpa using this
  have hSP := fun W h => startPaths_any A c l st W h
  rw [hsf, if_neg (by simp), hp] at hSP
  replace hSP := hide hSP
  have hIF := fun W (h : Sl W 0 B o) => indicesFault_any l.length B d o W h hll
  rw [idxF_perm hpm] at hIF
  replace hIF := hide hIF
  have hol2 : o.length ≤ 200 := by omega
  have hR := hide (InR.of_perm hpm)
  have h0 := hide (show ∀ x ∈ o, 0 ≤ x from fun x hx => by
    obtain ⟨i, hi, rfl⟩ := List.mem_map.1 (hpm.mem_iff.1 hx)
    exact Int.natCast_nonneg _)
  have hIdx := hide fun (t : Nat) (ht : t < o.length) => (⟨(o[t]).toNat, hR.out _ (List.getElem_mem ht), (Int.toNat_of_nonneg (h0.out _ (List.getElem_mem ht))).symm, rfl⟩ : ∃ q : Nat, q < l.length ∧ o[t] = (q : Int) ∧ (o[t]).toNat = q)
  clear hpm
  replace hol := hide hol
  go_enter Tryz.func9, Tryz.ntmps9
  go_upto_region 1 with fail
  obtain ⟨w3, hw3⟩ : ∃ x, x = (w).alloc (.cells [.int .i64 st.x, .int .i64 st.y].toArray 28) := ⟨_, rfl⟩
  have hg3 : (w).grownBy w3 none := by rw [hw3]; exact gr_alloc (World.grownBy.refl _ _) _
  have hb3 : Box w3 (w).heap.size 28 [.int .i64 st.x, .int .i64 st.y] := by rw [hw3]; exact Box.new _ _ _
  have hxs3 := hb3.lt
  rw [← hw3]
  clear hw3
  obtain ⟨x3, hx3⟩ : ∃ x, x = (w).heap.size := ⟨_, rfl⟩
  rw [← hx3] at hb3 hxs3 ⊢
  have hxl3 : (w).heap.size ≤ x3 := by omega
  clear hx3
  obtain ⟨b0, -⟩ := hb3.c 0 rfl
  obtain ⟨b1, -⟩ := hb3.c 1 rfl
  go_wp2_with fail
  refine (hSP.out _ (hl.pure hg3)).mono ?_
  rintro e w4 ⟨rfl, hg4⟩
  clear hSP b0 b1
  have hgw := hg3.t hg4
  replace hb3 := hb3.pure hg4
  clear hg3 hg4
  go_wp2_with fail
  refine (hIF.out _ (ho.pure hgw)).mono ?_
  rintro e w5 ⟨rfl, hg5⟩
  clear hIF
  replace hgw := hgw.t hg5
  replace hb3 := hb3.pure hg5
  clear hg5
  go_upto_region 7 with fail
  obtain ⟨i0, hi, hz, hi1, hi2⟩ := info_parts info_rowC
  obtain ⟨w6, hrun6, hoC, hg6⟩ := run_makeOwn (P := Tryz.prog) w5 66 50 i0 _ (⟨none, 0, 0⟩ : RawS) Tryz.underlying66 hi hz hi1 rfl rfl .i64 .i64 o.length (by rw [hi2]; omega) (by simp [maxLen]; omega)
  clear hi hz hi1 hi2 i0
  obtain ⟨i0, hi, hz, hi1, hi2⟩ := info_parts info_rowI
  obtain ⟨w7, hrun7, hoI, hg7⟩ := run_makeOwn (P := Tryz.prog) w6 67 22 i0 _ (⟨none, 0, 0⟩ : RawS) Tryz.underlying67 hi hz hi1 rfl rfl .i64 .i64 (o.length + 1) (by rw [hi2]; omega) (by simp [maxLen]; omega)
  clear hi hz hi1 hi2 i0
  obtain ⟨gC, hgC⟩ : ∃ g, g = w5.heap.size := ⟨_, rfl⟩
  obtain ⟨gI, hgI⟩ : ∃ g, g = w6.heap.size := ⟨_, rfl⟩
  rw [← hgC] at hrun6 hoC
  rw [← hgI] at hrun7 hoI
  rw [show (((o.length + 1 : Nat)) : Int) = (o.length : Int) + 1 from by omega] at hrun7
  have hgCw : w.heap.size ≤ gC := by have := hgw.size; omega
  have hgIw : w.heap.size ≤ gI := by have := hgw.size; have := hg6.size; omega
  clear hgC hgI
  have hRC0 := (RowsN.made (α := Chc) (ei := 58) (li := w.heap.size) ((hoC.lower hgCw).pure hg7) (by decide) (Nat.le_refl _))
  have hRI0 := (RowsN.made (α := Int) (ei := 3) (li := w.heap.size) (hoI.lower hgIw) (by decide) (Nat.le_refl _))
  rw [← begLC_top l o] at hRC0
  rw [← begLI_top l o] at hRI0
  replace hb3 := hb3.pure (hg6.t hg7)
  replace hgw := hgw.t (hg6.t hg7)
  clear hoC hoI hg6 hg7
  have hoz : (o.length : Int) ≤ 200 := by omega
  go_wp2_with fail
  go_loopw [13] (fun i wr => ∃ (j : Nat) (rC rI : List RawS), j ≤ o.length ∧ i = .int .i64 ((j : Int) - 1) ∧ RowsN wr w.heap.size w.heap.size 50 58 (some ⟨gC, 0, none⟩) o.length rC (begLC l o j) ∧ RowsN wr w.heap.size w.heap.size 22 3 (some ⟨gI, 0, none⟩) (o.length + 1) rI (begLI l o j) ∧ Box wr x3 28 [.int .i64 st.x, .int .i64 st.y] ∧ w.grownBy wr none) (fun i _ => (intOf i + 1).toNat)
  case atStart => exact ⟨o.length, _, _, Nat.le_refl _, rfl, hRC0, hRI0, hb3, hgw⟩
  case round =>
    clear hRC0 hRI0 hb3 hgw hrun6 hrun7
    obtain ⟨j, rC, rI, hj, rfl, hRC, hRI, hb3, hgr⟩ := hrel
    by_cases hlt : 0 < j
    · obtain ⟨k, rfl⟩ : ∃ k, j = k + 1 := ⟨j - 1, by omega⟩
      rw [show (((k + 1 : Nat) : Int) - 1) = (k : Int) from by omega]
      clear hlt
      have hkn : k < o.length := by omega
      obtain ⟨q, hq, hok, hoq⟩ := hIdx.out k hkn
      have hcho := hide fun W (h : w.grownBy W none) => choices_any A c l q W (hl.pure h) hp hq
      have hne := chs_ne hp hq
      have hls := chs_len hp hq
      have hRCk : k < rC.length := by rw [hRC.len, begLC_len]; exact hkn
      obtain ⟨gb, ob, cx, rfl, -, -, rfl, hcx⟩ := (ho.pure hgr).at_ (by decide) hkn
      have b0 : wr.cell? ⟨gb, ob + k, none⟩ = some (.int .i64 q) := by
        have := hcx 0 _ rfl
        rw [show Enc.sz Int = 1 from rfl, Nat.mul_one, Nat.add_zero] at this
        rw [this, hok]
      clear hcx
      go_wp2_with fail
      refine (hcho.out _ hgr).mono ?_
      rintro e w8 ⟨A8, c8, rfl, hO8, hg8⟩
      have hRC8 := hRC.pure hg8
      have hnew : ∀ x, blk A8 = some x → wr.heap.size ≤ x := fun x e => (hO8.blk_lt e).1
      have d0 := hRC8.cell hRCk
      have d1 := hRC8.out.frozen k
      have hsz8 := hgr.size
      have hRp : RowsN (w8.setCell ⟨gC, k, none⟩ (.slice A8 (chs l q).length c8)) w.heap.size w.heap.size 50 58 (some ⟨gC, 0, none⟩) o.length (rC.set k ⟨A8, (chs l q).length, c8⟩) (begLC l o k) := by
        have h1 := hRC.putNew hRCk (hO8.lower hsz8) hg8 hnew
        have h2 := begLC_put (l := l) hkn
        rw [hoq] at h2
        rw [← h2]; exact h1
      have hRI8 := hRI.pure hg8
      have hb8 := hb3.pure hg8
      go_upto_region 13 with fail
      obtain ⟨w9, hw9⟩ : ∃ x, x = w8.setCell ⟨gC, k, none⟩ (.slice A8 (chs l q).length c8) := ⟨_, rfl⟩
      have hs9 : w8.grownBy w9 (some gC) := by rw [hw9]; exact gr_set (World.grownBy.refl _ _) (.inl rfl) _
      rw [← hw9] at hRp ⊢
      clear hw9
      have hRI9 := hRI8.other hRC8.out (by decide) (by decide) hs9
      have hb9 := hb8.gr hs9 (fun e => hb8.ne_own hRC8.out (by decide) e)
      have hg9 : w.grownBy w9 none := gr_row (hgr.t hg8) hs9 (fun g e => by cases e; exact hgCw)
      obtain ⟨r9, hr9⟩ : ∃ r, r = rC.set k ⟨A8, (chs l q).length, c8⟩ := ⟨_, rfl⟩
      rw [← hr9] at hRp
      have hrl9 : r9.length = o.length := by rw [hRp.len, begLC_len]
      have hk9 : k < r9.length := by rw [hrl9]; exact hkn
      have hrk : r9[k] = ⟨A8, (chs l q).length, c8⟩ := by subst hr9; exact List.getElem_set_self ..
      have d2 := hRp.cell hk9
      rw [hrk] at d2
      have hcapC : (chs l q).length ≤ c8 := hO8.cap
      replace hrk := hide hrk
      replace hrl9 := hide hrl9
      clear hr9 hRC8 hRI8 hb8 hs9 hO8 hnew d0 d1 b0 hRC hRI hb3 hgr hg8 hsz8 hRCk hcho
      go_wp2_with fail
      go_loopw [62] (fun i wr => ∃ (m : Nat) (rI : List RawS), m ≤ (chs l q).length ∧ i = .int .i64 m ∧ RowsN wr w.heap.size w.heap.size 50 58 (some ⟨gC, 0, none⟩) o.length r9 (begLC l o k) ∧ RowsN wr w.heap.size w.heap.size 22 3 (some ⟨gI, 0, none⟩) (o.length + 1) rI ((begLI l o (k + 1)).set k ((begR l (o.drop k)).take m)) ∧ Box wr x3 28 [.int .i64 st.x, .int .i64 st.y] ∧ w.grownBy wr none) (fun i _ => (chs l q).length - (intOf i).toNat)
      case atStart => exact ⟨0, rI, Nat.zero_le _, rfl, hRp, by rw [List.take_zero, begLI_free (by omega)]; exact hRI9, hb9, hg9⟩
      case round =>
        clear hRp hRI9 hb9 hg9 d2 rI
        obtain ⟨m, rI, hm, rfl, hRC, hRI, hb3, hgr⟩ := hrel
        by_cases hmlt : m < (chs l q).length
        · obtain ⟨-, hOC⟩ := hRC.slAt hk9 (by rw [begLC_at hkn (Nat.le_refl _), hoq])
          rw [hrk.out] at hOC
          obtain ⟨gc, oc, cx, hAc, -, -, rfl, hcx⟩ := hOC.sl.at_ (by decide) hmlt
          have c0 : wr.cell? ⟨gc, oc + m * 7, none⟩ = some (.int .i64 (chs l q)[m].v.path) := hcx 0 _ rfl
          have c1 : wr.cell? ⟨gc, oc + m * 7 + 1, none⟩ = some (.int .i64 (chs l q)[m].v.start) := hcx 1 _ rfl
          have c2 : wr.cell? ⟨gc, oc + m * 7 + 2, none⟩ = some (.bool (chs l q)[m].v.back) := hcx 2 _ rfl
          have c3 : wr.cell? ⟨gc, oc + m * 7 + 3, none⟩ = some (.int .i64 (chs l q)[m].a.x) := hcx 3 _ rfl
          have c4 : wr.cell? ⟨gc, oc + m * 7 + 4, none⟩ = some (.int .i64 (chs l q)[m].a.y) := hcx 4 _ rfl
          have c5 : wr.cell? ⟨gc, oc + m * 7 + 5, none⟩ = some (.int .i64 (chs l q)[m].b.x) := hcx 5 _ rfl
          have c6 : wr.cell? ⟨gc, oc + m * 7 + 6, none⟩ = some (.int .i64 (chs l q)[m].b.y) := hcx 6 _ rfl
          have hnb := (chs_near hp hq (List.getElem_mem hmlt)).2
          have hHS : Hid ((begR l (o.drop k)).take (m + 1) = (begR l (o.drop k)).take m ++ [nxV (begM l (begR l (o.drop (k + 1))) (o.drop (k + 1)) (chs l q)[m].b)]) := by
            have h2 : m < (chs l (o[k]).toNat).length := by rw [hoq]; exact hmlt
            have h3 := begR_at (l := l) hkn h2
            simp only [hoq] at h3
            exact h3
          clear hcx hOC
          generalize (chs l q)[m] = cc at *
          subst hAc
          go_upto_region 16 with fail
          obtain ⟨w15, hw15⟩ : ∃ x, x = (wr).alloc (.cells [.int .i64 cc.v.path, .int .i64 cc.v.start, .bool cc.v.back, .int .i64 cc.a.x, .int .i64 cc.a.y, .int .i64 cc.b.x, .int .i64 cc.b.y].toArray 58) := ⟨_, rfl⟩
          have hg15 : (wr).grownBy w15 none := by rw [hw15]; exact gr_alloc (World.grownBy.refl _ _) _
          have hb15 : Box w15 (wr).heap.size 58 [.int .i64 cc.v.path, .int .i64 cc.v.start, .bool cc.v.back, .int .i64 cc.a.x, .int .i64 cc.a.y, .int .i64 cc.b.x, .int .i64 cc.b.y] := by rw [hw15]; exact Box.new _ _ _
          have hxs15 := hb15.lt
          rw [← hw15]
          clear hw15
          obtain ⟨x15, hx15⟩ : ∃ x, x = (wr).heap.size := ⟨_, rfl⟩
          rw [← hx15] at hb15 hxs15 ⊢
          have hxl15 : (wr).heap.size ≤ x15 := by omega
          clear hx15
          clear c0 c1 c2 c3 c4 c5 c6
          replace hRC := hRC.pure hg15
          replace hRI := hRI.pure hg15
          replace hb3 := hb3.pure hg15
          replace hgr := hgr.t hg15
          clear hg15
          by_cases hk1 : k + 1 < o.length
          · have hk1i : decide ((k : Int) + 1 < (o.length : Int)) = true := decide_eq_true (by omega)
            obtain ⟨q2, hq2, hok2, hoq2⟩ := hIdx.out (k + 1) hk1
            have hC1 : k + 1 < r9.length := by rw [hrl9.out]; exact hk1
            have hI1 : k + 1 < rI.length := by rw [hRI.len, List.length_set, begLI_len]; omega
            obtain ⟨hnC, hOC⟩ := hRC.slAt (l5 := chs l q2) hC1 (by rw [begLC_at hk1 (by omega), hoq2])
            obtain ⟨hnI, hOI⟩ := hRI.slAt (l5 := begR l (o.drop (k + 1))) hI1 (by rw [List.getElem_set_ne (by omega), begLI_at (by omega) (Nat.le_refl _)])
            have hlC : (begR l (o.drop (k + 1))).length = (chs l q2).length := by rw [drop_cons hk1, begR_len, hoq2]
            have hbd := begR_bd hp (hR.out.drop (k + 1))
            have hN := hide fun W (h : w15.grownBy W none) => nearestL_any r9[k + 1].A rI[k + 1].A r9[k + 1].c rI[k + 1].c (chs l q2) (begR l (o.drop (k + 1))) cc.b W ((hOC.pure h).sl.mono (Nat.zero_le _)) ((hOI.pure h).sl.mono (Nat.zero_le _)) hlC hnb (fun c hc => (chs_near hp hq2 hc).1) (fun x hx => by have := hbd x hx; rw [List.length_drop] at this; omega)
            have hV : Hid (nxV (begM l (begR l (o.drop (k + 1))) (o.drop (k + 1)) cc.b) = nxV (fmin (byL (chs l q2) (begR l (o.drop (k + 1))) cc.b) (chs l q2).length)) := by
              rw [Hid]
              congr 1
              conv => lhs; rw [drop_cons hk1]
              show fmin (byL (chs l (o[k + 1]).toNat) (begR l (o[k + 1] :: o.drop (k + 1 + 1))) cc.b) (chs l (o[k + 1]).toNat).length = _
              rw [hoq2, ← drop_cons hk1]
            have hLk := hide fun W (h : w15.grownBy W none) => (⟨(hRC.pure h).cell hC1, (hRI.pure h).cell hI1⟩ : _ ∧ _)
            rw [hnC, hnI] at hLk
            rw [hV.out] at hHS
            generalize fmin (byL (chs l q2) (begR l (o.drop (k + 1))) cc.b) (chs l q2).length = FM at *
            clear hnC hnI hOC hOI hlC hbd hV
            go_upto_region 18 with fail
            refine wp_region_tree (fun wx => w15.grownBy wx none) [2, 1, 2, 2, 2, 2, 1, 2, 2, 2, 2, 1, 0, 2, 2] (.bl 0 (.bl 1 (.bl 2 (.bl 3 (.bl 4 (.bl 5 (.bl 6 (.bl 7 (.bl 8 (.bl 9 (.bl 10 (.bl 11 (.ef 12 (.bl 13 (.bl 14 .done))))))))))))))) (by kernel_rfl) (by kernel_rfl) (gr_drew (World.grownBy.refl _ _)) ?_
            obtain ⟨wd, hwd⟩ : ∃ x, x = (w15).drew := ⟨_, rfl⟩
            rw [← hwd]
            have hgwd : (w15).grownBy wd none := by rw [hwd]; exact gr_drew (World.grownBy.refl _ _)
            clear hwd
            refine tree_p rfl rfl rfl rfl _ rfl (by simp) (fun K hK => ?_)
            apply Exists.intro
            refine ⟨fun wq K' hK' => ?_, ?_⟩
            · go_wp2_with fail
              exact hK'
            go_simp
            refine hK _ ?_
            clear hK K
            refine tree_b rfl rfl rfl rfl _ rfl (by simp) (fun K hK => ?_)
            apply Exists.intro
            refine ⟨fun wq hq K' hK' => ?_, ?_⟩
            · obtain ⟨d1, d2⟩ := hLk.out wq hq
              obtain ⟨t5, -⟩ := (hb15.pure hq).c 5 rfl
              obtain ⟨t6, -⟩ := (hb15.pure hq).c 6 rfl
              go_wp2_with fail
              exact hK'
            go_simp
            refine hK _ ?_
            clear hK K
            refine tree_p rfl rfl rfl rfl _ rfl (by simp) (fun K hK => ?_)
            apply Exists.intro
            refine ⟨fun wq K' hK' => ?_, ?_⟩
            · go_wp2_with fail
              exact hK'
            go_simp
            refine hK _ ?_
            clear hK K
            refine tree_p rfl rfl rfl rfl _ rfl (by simp) (fun K hK => ?_)
            apply Exists.intro
            refine ⟨fun wq K' hK' => ?_, ?_⟩
            · go_wp2_with fail
              exact hK'
            go_simp
            refine hK _ ?_
            clear hK K
            refine tree_p rfl rfl rfl rfl _ rfl (by simp) (fun K hK => ?_)
            apply Exists.intro
            refine ⟨fun wq K' hK' => ?_, ?_⟩
            · go_wp2_with fail
              exact hK'
            go_simp
            refine hK _ ?_
            clear hK K
            refine tree_p rfl rfl rfl rfl _ rfl (by simp) (fun K hK => ?_)
            apply Exists.intro
            refine ⟨fun wq K' hK' => ?_, ?_⟩
            · go_wp2_with fail
              exact hK'
            go_simp
            refine hK _ ?_
            clear hK K
            refine tree_b rfl rfl rfl rfl _ rfl (by simp) (fun K hK => ?_)
            apply Exists.intro
            refine ⟨fun wq hq K' hK' => ?_, ?_⟩
            · obtain ⟨d1, d2⟩ := hLk.out wq hq
              obtain ⟨t5, -⟩ := (hb15.pure hq).c 5 rfl
              obtain ⟨t6, -⟩ := (hb15.pure hq).c 6 rfl
              go_wp2_with fail
              exact hK'
            go_simp
            refine hK _ ?_
            clear hK K
            refine tree_p rfl rfl rfl rfl _ rfl (by simp) (fun K hK => ?_)
            apply Exists.intro
            refine ⟨fun wq K' hK' => ?_, ?_⟩
            · go_wp2_with fail
              exact hK'
            go_simp
            refine hK _ ?_
            clear hK K
            refine tree_p rfl rfl rfl rfl _ rfl (by simp) (fun K hK => ?_)
            apply Exists.intro
            refine ⟨fun wq K' hK' => ?_, ?_⟩
            · go_wp2_with fail
              exact hK'
            go_simp
            refine hK _ ?_
            clear hK K
            refine tree_p rfl rfl rfl rfl _ rfl (by simp) (fun K hK => ?_)
            apply Exists.intro
            refine ⟨fun wq K' hK' => ?_, ?_⟩
            · go_wp2_with fail
              exact hK'
            go_simp
            refine hK _ ?_
            clear hK K
            refine tree_p rfl rfl rfl rfl _ rfl (by simp) (fun K hK => ?_)
            apply Exists.intro
            refine ⟨fun wq K' hK' => ?_, ?_⟩
            · go_wp2_with fail
              exact hK'
            go_simp
            refine hK _ ?_
            clear hK K
            refine tree_b rfl rfl rfl rfl _ rfl (by simp) (fun K hK => ?_)
            apply Exists.intro
            refine ⟨fun wq hq K' hK' => ?_, ?_⟩
            · obtain ⟨d1, d2⟩ := hLk.out wq hq
              obtain ⟨t5, -⟩ := (hb15.pure hq).c 5 rfl
              obtain ⟨t6, -⟩ := (hb15.pure hq).c 6 rfl
              go_wp2_with fail
              exact hK'
            go_simp
            refine hK _ ?_
            clear hK K
            refine tree_e0 (by kernel_rfl) rfl rfl (fun K hK => ?_)
            go_wp2_with fail
            refine (hN.out _ (by assumption)).mono ?_
            rintro e w12 ⟨rfl, hg12⟩
            go_wp2_with fail
            try go_simp
            refine hK _ _ trivial ?_
            clear hK K
            refine tree_p rfl rfl rfl rfl _ rfl (by simp) (fun K hK => ?_)
            apply Exists.intro
            refine ⟨fun wq K' hK' => ?_, ?_⟩
            · go_wp2_with fail
              exact hK'
            go_simp
            refine hK _ ?_
            clear hK K
            refine tree_p rfl rfl rfl rfl _ rfl (by simp) (fun K hK => ?_)
            apply Exists.intro
            refine ⟨fun wq K' hK' => ?_, ?_⟩
            · go_wp2_with fail
              exact hK'
            go_simp
            refine hK _ ?_
            clear hK K
            refine tree_done ?_
            have hgz := gr_trans hgwd hg12
            replace hRC := hRC.pure hgz
            replace hRI := hRI.pure hgz
            replace hb3 := hb3.pure hgz
            replace hgr := hgr.t hgz
            clear hgz hgwd hg12 hLk hN
            have hIk : k < rI.length := by rw [hRI.len, List.length_set, begLI_len]; omega
            obtain ⟨hn, hOI⟩ := hRI.slAt (l5 := (begR l (o.drop k)).take m) hIk (List.getElem_set_self ..)
            have hRl : ((begR l (o.drop k)).take m).length = m := by rw [List.length_take, Nat.min_eq_left]; rw [drop_cons hkn, begR_len, hoq]; exact hm
            rw [hRl] at hn
            have d0 := hRI.cell hIk
            rw [hn] at d0
            generalize hT : (begR l (o.drop k)).take m = T at *
            replace hT := hide hT
            replace hn := hide hn
            replace hRl := hide hRl
            have hq := gr_alloc (World.grownBy.refl w12 none) (.cells #[.int .i64 (nxV FM)] 3)
            have hsz9 := hgr.size
            have hRCq := hRC.pure hq
            have hRIq := hRI.pure hq
            have hbq := hb3.pure hq
            have hOIq := hOI.pure hq
            go_wp2_with (at_builtin; obtain ⟨i0, hi, hz, h1, h2⟩ := info_parts info_int; refine wpList_pushAt (α := Int) _ rfl (.tmp 90) (.tmp 92) _ rfl w.heap.size 3 i0 _ 8 Tryz.underlying22 hi hz h1 h2 rfl _ _ _ T rfl hRl.out.symm (by exact hOIq) 0 ⟨_, 0, none⟩ 1 1 [(nxV FM)] rfl rfl (by exact sl_int1 _ _ _ _ (by first | rfl | simp)) ?c2 ?c3 ?c4 ?_)
            case c2 => rw [hRl.out]; simp; omega
            case c3 => rw [hRl.out]; simp [maxLen]; omega
            case c4 => simp; omega
            intro A5 c5 w5 hO5 hG5
            have hRp := hRIq.put hIk hO5 hG5
            rw [List.set_set] at hRp
            have hOo := hRIq.outer hIk hG5
            obtain ⟨cq, rfl, hcq⟩ := hOo.cell_at (by decide) hIk
            have d5 : w5.cell? ⟨gI, k, none⟩ = some (.slice rI[k].A rI[k].n rI[k].c) := by have := hcq 0 _ rfl; rwa [show Enc.sz RawS = 1 from rfl, Nat.mul_one] at this
            have f5 := hOo.frozen k
            have hbA : ∀ g, blk A5 = some g → g ≠ gI := fun g e e2 => hRp.apart (i := k) (by rw [List.length_set]; exact hIk) (g := g) (by rw [e2]; rfl) (by rw [List.getElem_set_self]; exact e)
            have hRC5 := hRCq.otherA hOIq (by decide) (by decide) hG5.1
            have hb5 := hbq.gr hG5.1 (fun e => hbq.ne_own hOIq (by decide) e)
            have hg5 := gr_row (hgr.t hq) hG5.1 (fun g e => (hOIq.blk_lt e).1)
            clear hcq hRC hRI hb3 hgr hRCq hRIq hbq hOIq hOI hG5 hO5 hq hbA
            go_upto_region 20 with fail
            obtain ⟨w6, hw6⟩ : ∃ x, x = w5.setCell ⟨gI, k, none⟩ (.slice A5 (T ++ [(nxV FM)]).length c5) := ⟨_, rfl⟩
            have hs6 : w5.grownBy w6 (some gI) := by rw [hw6]; exact gr_set (World.grownBy.refl _ _) (.inl rfl) _
            rw [← hw6] at hRp
            rw [show w5.setCell ⟨gI, k, none⟩ (.slice A5 (T.length + 1) c5) = w6 from by rw [hw6, List.length_append]; rfl]
            clear hw6
            have hRC6 := hRC5.other hOo (by decide) (by decide) hs6
            have hb6 := hb5.gr hs6 (fun e => hb5.ne_own hOo (by decide) e)
            have hg6 := gr_row hg5 hs6 (fun g e => by cases e; exact hgIw)
            go_wp2_with fail
            (go_roundw; (case rel => exact ⟨m + 1, _, by omega, by go_num, hRC6, by rw [hHS.out]; exact hRp, hb6, hg6⟩); (case measure => simp [intOf]; omega))
          · have hk1i : decide ((k : Int) + 1 < (o.length : Int)) = false := decide_eq_false (by omega)
            rw [show nxV (begM l (begR l (o.drop (k + 1))) (o.drop (k + 1)) cc.b) = 0 from by rw [List.drop_eq_nil_of_le (by omega)]; rfl] at hHS
            go_upto_region 19 with fail
            have hIk : k < rI.length := by rw [hRI.len, List.length_set, begLI_len]; omega
            obtain ⟨hn, hOI⟩ := hRI.slAt (l5 := (begR l (o.drop k)).take m) hIk (List.getElem_set_self ..)
            have hRl : ((begR l (o.drop k)).take m).length = m := by rw [List.length_take, Nat.min_eq_left]; rw [drop_cons hkn, begR_len, hoq]; exact hm
            rw [hRl] at hn
            have d0 := hRI.cell hIk
            rw [hn] at d0
            generalize hT : (begR l (o.drop k)).take m = T at *
            replace hT := hide hT
            replace hn := hide hn
            replace hRl := hide hRl
            have hq := gr_alloc (World.grownBy.refl w15 none) (.cells #[.int .i64 0] 3)
            have hsz9 := hgr.size
            have hRCq := hRC.pure hq
            have hRIq := hRI.pure hq
            have hbq := hb3.pure hq
            have hOIq := hOI.pure hq
            go_wp2_with (at_builtin; obtain ⟨i0, hi, hz, h1, h2⟩ := info_parts info_int; refine wpList_pushAt (α := Int) _ rfl (.tmp 90) (.tmp 92) _ rfl w.heap.size 3 i0 _ 8 Tryz.underlying22 hi hz h1 h2 rfl _ _ _ T rfl hRl.out.symm (by exact hOIq) 0 ⟨_, 0, none⟩ 1 1 [0] rfl rfl (by exact sl_int1 _ _ _ _ (by first | rfl | simp)) ?c2 ?c3 ?c4 ?_)
            case c2 => rw [hRl.out]; simp; omega
            case c3 => rw [hRl.out]; simp [maxLen]; omega
            case c4 => simp; omega
            intro A5 c5 w5 hO5 hG5
            have hRp := hRIq.put hIk hO5 hG5
            rw [List.set_set] at hRp
            have hOo := hRIq.outer hIk hG5
            obtain ⟨cq, rfl, hcq⟩ := hOo.cell_at (by decide) hIk
            have d5 : w5.cell? ⟨gI, k, none⟩ = some (.slice rI[k].A rI[k].n rI[k].c) := by have := hcq 0 _ rfl; rwa [show Enc.sz RawS = 1 from rfl, Nat.mul_one] at this
            have f5 := hOo.frozen k
            have hbA : ∀ g, blk A5 = some g → g ≠ gI := fun g e e2 => hRp.apart (i := k) (by rw [List.length_set]; exact hIk) (g := g) (by rw [e2]; rfl) (by rw [List.getElem_set_self]; exact e)
            have hRC5 := hRCq.otherA hOIq (by decide) (by decide) hG5.1
            have hb5 := hbq.gr hG5.1 (fun e => hbq.ne_own hOIq (by decide) e)
            have hg5 := gr_row (hgr.t hq) hG5.1 (fun g e => (hOIq.blk_lt e).1)
            clear hcq hRC hRI hb3 hgr hRCq hRIq hbq hOIq hOI hG5 hO5 hq hbA
            go_upto_region 20 with fail
            obtain ⟨w6, hw6⟩ : ∃ x, x = w5.setCell ⟨gI, k, none⟩ (.slice A5 (T ++ [0]).length c5) := ⟨_, rfl⟩
            have hs6 : w5.grownBy w6 (some gI) := by rw [hw6]; exact gr_set (World.grownBy.refl _ _) (.inl rfl) _
            rw [← hw6] at hRp
            rw [show w5.setCell ⟨gI, k, none⟩ (.slice A5 (T.length + 1) c5) = w6 from by rw [hw6, List.length_append]; rfl]
            clear hw6
            have hRC6 := hRC5.other hOo (by decide) (by decide) hs6
            have hb6 := hb5.gr hs6 (fun e => hb5.ne_own hOo (by decide) e)
            have hg6 := gr_row hg5 hs6 (fun g e => by cases e; exact hgIw)
            go_wp2_with fail
            (go_roundw; (case rel => exact ⟨m + 1, _, by omega, by go_num, hRC6, by rw [hHS.out]; exact hRp, hb6, hg6⟩); (case measure => simp [intOf]; omega))
        · obtain rfl : m = (chs l q).length := by omega
          have hRI2 : RowsN wr w.heap.size w.heap.size 22 3 (some ⟨gI, 0, none⟩) (o.length + 1) rI (begLI l o k) := by
            have h1 : (begR l (o.drop k)).take (chs l q).length = begR l (o.drop k) := List.take_of_length_le (by rw [drop_cons hkn, begR_len, hoq]; exact Nat.le_refl _)
            rw [h1, begLI_put (by omega)] at hRI
            exact hRI
          clear hRI
          go_wp2_with fail
          (go_roundw; (case rel => exact ⟨k, r9, rI, by omega, rfl, hRC, hRI2, hb3, hgr⟩); (case measure => simp [intOf]))
    · obtain rfl : j = 0 := by omega
      rw [show (((0 : Nat) : Int) - 1) = -1 from by omega]
      clear hlt
      have hCl : rC.length = o.length := by rw [hRC.len, begLC_len]
      have hIl : rI.length = o.length + 1 := by rw [hRI.len, begLI_len]
      obtain ⟨b0, -⟩ := hb3.c 0 rfl
      obtain ⟨b1, -⟩ := hb3.c 1 rfl
      go_upto_region 23 with fail
      have hx3l := hb3.lt
      obtain ⟨w18, hw18⟩ : ∃ x, x = (wr).alloc (.cells [.int .i64 st.x, .int .i64 st.y].toArray 28) := ⟨_, rfl⟩
      have hg18 : (wr).grownBy w18 none := by rw [hw18]; exact gr_alloc (World.grownBy.refl _ _) _
      have hb18 : Box w18 (wr).heap.size 28 [.int .i64 st.x, .int .i64 st.y] := by rw [hw18]; exact Box.new _ _ _
      have hxs18 := hb18.lt
      rw [← hw18]
      clear hw18
      obtain ⟨x18, hx18⟩ : ∃ x, x = (wr).heap.size := ⟨_, rfl⟩
      rw [← hx18] at hb18 hxs18 ⊢
      have hxl18 : (wr).heap.size ≤ x18 := by omega
      clear hx18
      have hlo18 : w.heap.size ≤ x18 := by have := hgr.size; omega
      replace hRC := hRC.pure hg18
      replace hRI := hRI.pure hg18
      replace hb3 := hb3.pure hg18
      replace hgr := hgr.t hg18
      clear hg18 b0 b1
      have hb18w := hb18
      have hx18 := hb18.lt
      have hxC : gC ≠ x18 := fun e => hb18.ne_own hRC.out (by decide) (by rw [← e]; rfl)
      have hxI : gI ≠ x18 := fun e => hb18.ne_own hRI.out (by decide) (by rw [← e]; rfl)
      have hx3 : x3 ≠ x18 := by omega
      have hszC := (hRC.out.blk_lt (g := gC) rfl).2
      have hszI := (hRI.out.blk_lt (g := gI) rfl).2
      go_wp2_with fail
      go_loopw [17, 99] (fun t i wr => ∃ (m : Nat) (A2 : Option Addr) (c2 : Nat), m ≤ o.length ∧ i = .int .i64 m ∧ t = .slice A2 m c2 ∧ Own wr w18.heap.size 43 A2 c2 (begK l st o m).1 ∧ Box wr x18 28 [.int .i64 (begK l st o m).2.x, .int .i64 (begK l st o m).2.y] ∧ GrS (fun x => x = x18) w18 wr) (fun _ i _ => o.length - (intOf i).toNat)
      case atStart => exact ⟨0, none, 0, Nat.zero_le _, rfl, rfl, Own.nil _ _ _, hb18, GrS.refl _ _⟩
      case round =>
        clear hb18
        obtain ⟨m, A2, c2, hm, rfl, rfl, hO, hb18, hG⟩ := hrel
        have hcur : w.grownBy wr none := hG.new hgr (fun x e => by rw [e]; exact hlo18)
        by_cases hlt : m < o.length
        · obtain ⟨q, hq, hok, hoq⟩ := hIdx.out m hlt
          have hCm : m < rC.length := by rw [hCl]; exact hlt
          have hIm : m < rI.length := by rw [hIl]; omega
          obtain ⟨hnC, hOC⟩ := hRC.slAt (l5 := chs l q) hCm (by rw [begLC_at hlt (Nat.zero_le _), hoq])
          obtain ⟨hnI, hOI⟩ := hRI.slAt (l5 := begR l (o.drop m)) hIm (by rw [begLI_at (by omega) (Nat.zero_le _)])
          have hlI : (begR l (o.drop m)).length = (chs l q).length := by rw [drop_cons hlt, begR_len, hoq]
          have hbd := begR_bd hp (hR.out.drop m)
          have hSC : Sl wr 0 rC[m].A (chs l q) := hG.slF (hOC.sl.mono (Nat.zero_le _)) (fun g e => ⟨fun e2 => hb18w.ne_own hOC (by decide) (by rw [← e2]; exact e), (hOC.blk_lt e).2⟩)
          have hSI : Sl wr 0 rI[m].A (begR l (o.drop m)) := hG.slF (hOI.sl.mono (Nat.zero_le _)) (fun g e => ⟨fun e2 => hb18w.ne_own hOI (by decide) (by rw [← e2]; exact e), (hOI.blk_lt e).2⟩)
          have hcC : wr.cell? ⟨gC, m, none⟩ = some (.slice rC[m].A (chs l q).length rC[m].c) := by rw [hG.cell (a := ⟨gC, m, none⟩) hszC hxC, hRC.cell hCm, hnC]
          have hcI : wr.cell? ⟨gI, m, none⟩ = some (.slice rI[m].A (begR l (o.drop m)).length rI[m].c) := by rw [hG.cell (a := ⟨gI, m, none⟩) hszI hxI, hRI.cell hIm, hnI]
          have hnp := (begK_ok hp hst hR.out h0.out m hm).2.2
          obtain ⟨b, hbe, hbl, -⟩ := begM_some (o := o.drop (m + 1)) hp (x := o[m]) (by rw [hoq]; exact hq) (begR l (o.drop m)) (begK l st o m).2
          rw [← drop_cons hlt] at hbe
          simp only [hoq] at hbl
          have hFM : fmin (byL (chs l q) (begR l (o.drop m)) (begK l st o m).2) (chs l q).length = some b := by
            rw [← hbe, drop_cons hlt]
            show _ = fmin (byL (chs l (o[m]).toNat) _ _) (chs l (o[m]).toNat).length
            rw [hoq]
          have hcc : begC l (begK l st o m).2 (o.drop m) = (chs l q)[b.1] := by
            have h1 : begC l (begK l st o m).2 (o[m] :: o.drop (m + 1)) = (chs l (o[m]).toNat).getD (nxI (begM l (begR l (o[m] :: o.drop (m + 1))) (o[m] :: o.drop (m + 1)) (begK l st o m).2)).toNat default := rfl
            rw [← drop_cons hlt, hbe, hoq] at h1
            rw [h1]
            simp only [nxI, Int.toNat_natCast]
            rw [List.getD_eq_getElem?_getD, List.getElem?_eq_getElem hbl, Option.getD_some]
          have hN := hide fun W (h : wr.grownBy W none) => nearestL_any rC[m].A rI[m].A rC[m].c rI[m].c (chs l q) (begR l (o.drop m)) (begK l st o m).2 W (hSC.pure h) (hSI.pure h) hlI hnp (fun c hc => (chs_near hp hq hc).1) (fun x hx => by have := hbd x hx; rw [List.length_drop] at this; omega)
          rw [hFM] at hN
          simp only [nxI, nxV] at hN
          have hStep : Hid (begK l st o (m + 1) = ((begK l st o m).1 ++ [(chs l q)[b.1].v], (chs l q)[b.1].b)) := by
            rw [Hid]; conv => lhs; unfold begK
            simp only [hcc]
          have hls := chs_len hp hq
          have hLn := begK_len l st o m
          obtain ⟨ga, oa, cx, hAc, -, -, rfl, hcx⟩ := hSC.at_ (by decide) hbl
          have q0 : wr.cell? ⟨ga, oa + b.1 * 7, none⟩ = some (.int .i64 (chs l q)[b.1].v.path) := hcx 0 _ rfl
          have q1 : wr.cell? ⟨ga, oa + b.1 * 7 + 1, none⟩ = some (.int .i64 (chs l q)[b.1].v.start) := hcx 1 _ rfl
          have q2 : wr.cell? ⟨ga, oa + b.1 * 7 + 2, none⟩ = some (.bool (chs l q)[b.1].v.back) := hcx 2 _ rfl
          have q3 : wr.cell? ⟨ga, oa + b.1 * 7 + 3, none⟩ = some (.int .i64 (chs l q)[b.1].a.x) := hcx 3 _ rfl
          have q4 : wr.cell? ⟨ga, oa + b.1 * 7 + 4, none⟩ = some (.int .i64 (chs l q)[b.1].a.y) := hcx 4 _ rfl
          have q5 : wr.cell? ⟨ga, oa + b.1 * 7 + 5, none⟩ = some (.int .i64 (chs l q)[b.1].b.x) := hcx 5 _ rfl
          have q6 : wr.cell? ⟨ga, oa + b.1 * 7 + 6, none⟩ = some (.int .i64 (chs l q)[b.1].b.y) := hcx 6 _ rfl
          have hLk := hide fun W (h : wr.grownBy W none) => (⟨h.k hcC, h.k hcI, (hb18.pure h).c 0 rfl, (hb18.pure h).c 1 rfl, h.k q0, h.k q1, h.k q2, h.k q3, h.k q4, h.k q5, h.k q6⟩ : _ ∧ _ ∧ _ ∧ _ ∧ _ ∧ _ ∧ _ ∧ _ ∧ _ ∧ _ ∧ _)
          have hb1l : (b.1 : Int) < ((chs l q).length : Int) := by omega
          clear q0 q1 q2 q3 q4 q5 q6 hcx hcc hFM hbe hcC hcI hOC hOI hnC hnI hbd hSC hSI
          generalize (chs l q)[b.1] = cc at *
          generalize (begK l st o m).2 = pp at *
          generalize (begK l st o m).1 = LV at *
          replace hLn := hide hLn
          replace hlI := hide hlI
          rw [hlI.out] at hLk hN
          rw [hAc] at hLk hN
          clear hAc
          replace hCl := hide hCl
          replace hIl := hide hIl
          go_upto_region 26 with fail
          refine wp_region_tree (fun wx => wr.grownBy wx none) [2, 2, 2, 1, 1, 2, 2, 2, 1, 2, 2, 2, 1, 0, 2, 2, 1, 0, 0] (.bl 0 (.bl 1 (.bl 2 (.bl 3 (.bl 4 (.bl 5 (.bl 6 (.bl 7 (.bl 8 (.bl 9 (.bl 10 (.bl 11 (.bl 12 (.alt (.ef 13 (.bl 14 (.bl 15 (.bl 16 (.ef 17 (.ef 18 .done)))))) (.ef 17 (.ef 13 (.bl 14 (.bl 15 (.bl 16 (.ef 18 .done)))))))))))))))))))) (by kernel_rfl) (by kernel_rfl) (gr_drew (World.grownBy.refl _ _)) ?_
          obtain ⟨wd, hwd⟩ : ∃ x, x = (wr).drew := ⟨_, rfl⟩
          rw [← hwd]
          have hgwd : (wr).grownBy wd none := by rw [hwd]; exact gr_drew (World.grownBy.refl _ _)
          clear hwd
          have hcy := hgwd
          refine tree_p rfl rfl rfl rfl _ rfl (by simp) (fun K hK => ?_)
          apply Exists.intro
          refine ⟨fun wq K' hK' => ?_, ?_⟩
          · go_wp2_with fail
            exact hK'
          go_simp
          refine hK _ ?_
          clear hK K
          refine tree_p rfl rfl rfl rfl _ rfl (by simp) (fun K hK => ?_)
          apply Exists.intro
          refine ⟨fun wq K' hK' => ?_, ?_⟩
          · go_wp2_with fail
            exact hK'
          go_simp
          refine hK _ ?_
          clear hK K
          refine tree_p rfl rfl rfl rfl _ rfl (by simp) (fun K hK => ?_)
          apply Exists.intro
          refine ⟨fun wq K' hK' => ?_, ?_⟩
          · go_wp2_with fail
            exact hK'
          go_simp
          refine hK _ ?_
          clear hK K
          refine tree_b rfl rfl rfl rfl _ rfl (by simp) (fun K hK => ?_)
          apply Exists.intro
          refine ⟨fun wq hq K' hK' => ?_, ?_⟩
          · obtain ⟨y1, y2, ⟨y3, -⟩, ⟨y4, -⟩, y5, y6, y7, y8, y9, y10, y11⟩ := hLk.out wq hq
            go_wp2_with fail
            exact hK'
          go_simp
          refine hK _ ?_
          clear hK K
          refine tree_b rfl rfl rfl rfl _ rfl (by simp) (fun K hK => ?_)
          apply Exists.intro
          refine ⟨fun wq hq K' hK' => ?_, ?_⟩
          · obtain ⟨y1, y2, ⟨y3, -⟩, ⟨y4, -⟩, y5, y6, y7, y8, y9, y10, y11⟩ := hLk.out wq hq
            go_wp2_with fail
            exact hK'
          go_simp
          refine hK _ ?_
          clear hK K
          refine tree_p rfl rfl rfl rfl _ rfl (by simp) (fun K hK => ?_)
          apply Exists.intro
          refine ⟨fun wq K' hK' => ?_, ?_⟩
          · go_wp2_with fail
            exact hK'
          go_simp
          refine hK _ ?_
          clear hK K
          refine tree_p rfl rfl rfl rfl _ rfl (by simp) (fun K hK => ?_)
          apply Exists.intro
          refine ⟨fun wq K' hK' => ?_, ?_⟩
          · go_wp2_with fail
            exact hK'
          go_simp
          refine hK _ ?_
          clear hK K
          refine tree_p rfl rfl rfl rfl _ rfl (by simp) (fun K hK => ?_)
          apply Exists.intro
          refine ⟨fun wq K' hK' => ?_, ?_⟩
          · go_wp2_with fail
            exact hK'
          go_simp
          refine hK _ ?_
          clear hK K
          refine tree_b rfl rfl rfl rfl _ rfl (by simp) (fun K hK => ?_)
          apply Exists.intro
          refine ⟨fun wq hq K' hK' => ?_, ?_⟩
          · obtain ⟨y1, y2, ⟨y3, -⟩, ⟨y4, -⟩, y5, y6, y7, y8, y9, y10, y11⟩ := hLk.out wq hq
            go_wp2_with fail
            exact hK'
          go_simp
          refine hK _ ?_
          clear hK K
          refine tree_p rfl rfl rfl rfl _ rfl (by simp) (fun K hK => ?_)
          apply Exists.intro
          refine ⟨fun wq K' hK' => ?_, ?_⟩
          · go_wp2_with fail
            exact hK'
          go_simp
          refine hK _ ?_
          clear hK K
          refine tree_p rfl rfl rfl rfl _ rfl (by simp) (fun K hK => ?_)
          apply Exists.intro
          refine ⟨fun wq K' hK' => ?_, ?_⟩
          · go_wp2_with fail
            exact hK'
          go_simp
          refine hK _ ?_
          clear hK K
          refine tree_p rfl rfl rfl rfl _ rfl (by simp) (fun K hK => ?_)
          apply Exists.intro
          refine ⟨fun wq K' hK' => ?_, ?_⟩
          · go_wp2_with fail
            exact hK'
          go_simp
          refine hK _ ?_
          clear hK K
          refine tree_b rfl rfl rfl rfl _ rfl (by simp) (fun K hK => ?_)
          apply Exists.intro
          refine ⟨fun wq hq K' hK' => ?_, ?_⟩
          · obtain ⟨y1, y2, ⟨y3, -⟩, ⟨y4, -⟩, y5, y6, y7, y8, y9, y10, y11⟩ := hLk.out wq hq
            go_wp2_with fail
            exact hK'
          go_simp
          refine hK _ ?_
          clear hK K
          refine tree_alt ?_ ?_
          · refine tree_e rfl rfl (fun K hK => ?_)
            go_wp2_with fail
            refine (hN.out _ (by assumption)).mono ?_
            rintro e w13 ⟨rfl, hg13⟩
            go_wp2_with fail
            try go_simp
            refine hK _ _ (hcy.t hg13) ?_
            clear hK K
            replace hcy := hcy.t hg13
            refine tree_p rfl rfl rfl rfl _ rfl (by simp) (fun K hK => ?_)
            apply Exists.intro
            refine ⟨fun wq K' hK' => ?_, ?_⟩
            · go_wp2_with fail
              exact hK'
            go_simp
            refine hK _ ?_
            clear hK K
            refine tree_p rfl rfl rfl rfl _ rfl (by simp) (fun K hK => ?_)
            apply Exists.intro
            refine ⟨fun wq K' hK' => ?_, ?_⟩
            · go_wp2_with fail
              exact hK'
            go_simp
            refine hK _ ?_
            clear hK K
            refine tree_b rfl rfl rfl rfl _ rfl (by simp) (fun K hK => ?_)
            apply Exists.intro
            refine ⟨fun wq hq K' hK' => ?_, ?_⟩
            · obtain ⟨y1, y2, ⟨y3, -⟩, ⟨y4, -⟩, y5, y6, y7, y8, y9, y10, y11⟩ := hLk.out wq hq
              go_wp2_with fail
              exact hK'
            go_simp
            refine hK _ ?_
            clear hK K
            refine tree_e rfl rfl (fun K hK => ?_)
            go_wp2_with fail
            try go_simp
            refine hK _ _ (hcy.t (gr_alloc (World.grownBy.refl _ _) _)) ?_
            clear hK K
            have hsy := hcy.size
            obtain ⟨w17, hw17⟩ : ∃ x, x = (w13).alloc (.cells [.int .i64 0, .int .i64 0, .bool false, .int .i64 0, .int .i64 0, .int .i64 0, .int .i64 0].toArray 58) := ⟨_, rfl⟩
            have hg17 : (w13).grownBy w17 none := by rw [hw17]; exact gr_alloc (World.grownBy.refl _ _) _
            have hb17 : Box w17 (w13).heap.size 58 [.int .i64 0, .int .i64 0, .bool false, .int .i64 0, .int .i64 0, .int .i64 0, .int .i64 0] := by rw [hw17]; exact Box.new _ _ _
            rw [← hw17]
            clear hw17
            obtain ⟨x17, hx17⟩ : ∃ x, x = (w13).heap.size := ⟨_, rfl⟩
            rw [← hx17] at hb17 ⊢
            have hxl17 : (w13).heap.size ≤ x17 := by omega
            clear hx17
            replace hcy := hcy.t hg17
            refine tree_e0 (by kernel_rfl) rfl rfl (fun K hK => ?_)
            obtain ⟨u0, z0⟩ := hb17.c 0 rfl
            obtain ⟨u1, z1⟩ := hb17.c 1 rfl
            obtain ⟨u2, z2⟩ := hb17.c 2 rfl
            obtain ⟨u3, z3⟩ := hb17.c 3 rfl
            obtain ⟨u4, z4⟩ := hb17.c 4 rfl
            obtain ⟨u5, z5⟩ := hb17.c 5 rfl
            obtain ⟨u6, z6⟩ := hb17.c 6 rfl
            obtain ⟨wz, hwz⟩ : ∃ x, x = (((((((w17.setCell ⟨x17, 0, none⟩ (.int .i64 cc.v.path)).setCell ⟨x17, 1, none⟩ (.int .i64 cc.v.start)).setCell ⟨x17, 2, none⟩ (.bool cc.v.back)).setCell ⟨x17, 3, none⟩ (.int .i64 cc.a.x)).setCell ⟨x17, 4, none⟩ (.int .i64 cc.a.y)).setCell ⟨x17, 5, none⟩ (.int .i64 cc.b.x)).setCell ⟨x17, 6, none⟩ (.int .i64 cc.b.y)) := ⟨_, rfl⟩
            have hbz : Box wz x17 58 [.int .i64 cc.v.path, .int .i64 cc.v.start, .bool cc.v.back, .int .i64 cc.a.x, .int .i64 cc.a.y, .int .i64 cc.b.x, .int .i64 cc.b.y] := by rw [hwz]; exact (((((((hb17.set_ 0 (.int .i64 cc.v.path) (by simp)).set_ 1 (.int .i64 cc.v.start) (by simp)).set_ 2 (.bool cc.v.back) (by simp)).set_ 3 (.int .i64 cc.a.x) (by simp)).set_ 4 (.int .i64 cc.a.y) (by simp)).set_ 5 (.int .i64 cc.b.x) (by simp)).set_ 6 (.int .i64 cc.b.y) (by simp))
            have hgz : (w17).grownBy wz (some x17) := by rw [hwz]; exact (gr_set (gr_set (gr_set (gr_set (gr_set (gr_set (gr_set (World.grownBy.refl w17 (some x17)) (p := ⟨x17, 0, none⟩) (.inl rfl) _) (p := ⟨x17, 1, none⟩) (.inl rfl) _) (p := ⟨x17, 2, none⟩) (.inl rfl) _) (p := ⟨x17, 3, none⟩) (.inl rfl) _) (p := ⟨x17, 4, none⟩) (.inl rfl) _) (p := ⟨x17, 5, none⟩) (.inl rfl) _) (p := ⟨x17, 6, none⟩) (.inl rfl) _)
            go_wp2_with fail
            try go_simp
            refine hK _ _ trivial ?_
            clear hK K
            refine tree_done ?_
            rw [← hwz]
            have hszr := hb18.lt
            have hgy : wr.grownBy wz none := gr_row hcy hgz (fun g e => by cases e; omega)
            have hOx : ∀ g, blk A2 = some g → g ≠ x17 ∧ g ≠ x18 := fun g e => by
              have h1 := hO.blk_lt e
              exact ⟨by omega, by omega⟩
            have hOy := hO.pure hgy
            have hb18y := hb18.pure hgy
            have hGy := hG.pure hgy
            have hszy := hGy.size
            obtain ⟨t0, -⟩ := hbz.c 0 rfl
            obtain ⟨t1, -⟩ := hbz.c 1 rfl
            obtain ⟨t2, -⟩ := hbz.c 2 rfl
            have hga := gr_alloc (World.grownBy.refl wz none) (.cells #[.int .i64 cc.v.path, .int .i64 cc.v.start, .bool cc.v.back] 43)
            clear hLk hN hcy hgz hwz u0 u1 u2 u3 u4 u5 u6 z0 z1 z2 z3 z4 z5 z6 hb17 hO hb18 hG
            go_wp2_with (at_builtin; obtain ⟨i0, hi, hz, h1, h2⟩ := info_parts info_vis; refine wpList_pushAt (α := Vis) _ rfl (.tmp 119) (.tmp 122) _ rfl w18.heap.size 43 i0 _ 24 Tryz.underlying32 hi hz h1 h2 rfl _ _ _ LV rfl hLn.out.symm (by exact hOy.pure (gr_alloc (World.grownBy.refl _ _) _)) 0 ⟨_, 0, none⟩ 1 1 [cc.v] rfl rfl (by exact sl_oneAt _ 0 [.int .i64 cc.v.path, .int .i64 cc.v.start, .bool cc.v.back] _ _ _ (by first | rfl | simp) (Nat.zero_le _) rfl) ?c2 ?c3 ?c4 ?_)
            case c2 => rw [hLn.out]; simp; omega
            case c3 => rw [hLn.out]; simp [maxLen]; omega
            case c4 => simp; omega
            intro A9 c9 w9 hO9 hG9
            have hbz9 := (hbz.pure hga).gr hG9.1 (fun e => (hOx _ e).1 rfl)
            have hb189 := (hb18y.pure hga).gr hG9.1 (fun e => (hOx _ e).2 rfl)
            have hG99 := (hGy.pure hga).step hG9.1 (fun x e => .inr (hOy.blk_lt e).1)
            have hO9x : ∀ g, blk A9 = some g → g ≠ x18 := fun g e => by have := (hO9.blk_lt e).1; omega
            clear t0 t1 t2 hbz hb18y hGy hOy hOx hga hG9
            obtain ⟨t5, -⟩ := hbz9.c 5 rfl
            obtain ⟨t6, -⟩ := hbz9.c 6 rfl
            obtain ⟨o0, v0⟩ := hb189.c 0 rfl
            obtain ⟨o1, v1⟩ := hb189.c 1 rfl
            have hb19 := (hb189.set_ 0 (.int .i64 cc.b.x) (by simp)).set_ 1 (.int .i64 cc.b.y) (by simp)
            have hgs : w9.grownBy ((w9.setCell ⟨x18, 0, none⟩ (.int .i64 cc.b.x)).setCell ⟨x18, 1, none⟩ (.int .i64 cc.b.y)) (some x18) := gr_set (gr_set (World.grownBy.refl w9 (some x18)) (p := ⟨x18, 0, none⟩) (.inl rfl) _) (p := ⟨x18, 1, none⟩) (.inl rfl) _
            have hO10 := hO9.ne hgs (fun g e h => hO9x g e (Option.some.inj h).symm)
            have hG10 := hG99.step hgs (fun x e => .inl (Option.some.inj e).symm)
            go_wp2_with fail
            (go_roundw; (case rel => exact ⟨m + 1, A9, c9, by omega, by go_num, by simp [hLn.out], by rw [hStep.out]; exact hO10, by rw [hStep.out]; exact hb19, hG10⟩); (case measure => simp [intOf]; omega))
          · refine tree_e rfl rfl (fun K hK => ?_)
            go_wp2_with fail
            try go_simp
            refine hK _ _ (hcy.t (gr_alloc (World.grownBy.refl _ _) _)) ?_
            clear hK K
            have hsy := hcy.size
            obtain ⟨w17, hw17⟩ : ∃ x, x = (wd).alloc (.cells [.int .i64 0, .int .i64 0, .bool false, .int .i64 0, .int .i64 0, .int .i64 0, .int .i64 0].toArray 58) := ⟨_, rfl⟩
            have hg17 : (wd).grownBy w17 none := by rw [hw17]; exact gr_alloc (World.grownBy.refl _ _) _
            have hb17 : Box w17 (wd).heap.size 58 [.int .i64 0, .int .i64 0, .bool false, .int .i64 0, .int .i64 0, .int .i64 0, .int .i64 0] := by rw [hw17]; exact Box.new _ _ _
            rw [← hw17]
            clear hw17
            obtain ⟨x17, hx17⟩ : ∃ x, x = (wd).heap.size := ⟨_, rfl⟩
            rw [← hx17] at hb17 ⊢
            have hxl17 : (wd).heap.size ≤ x17 := by omega
            clear hx17
            replace hcy := hcy.t hg17
            refine tree_e rfl rfl (fun K hK => ?_)
            go_wp2_with fail
            refine (hN.out _ (by assumption)).mono ?_
            rintro e w13 ⟨rfl, hg13⟩
            go_wp2_with fail
            try go_simp
            refine hK _ _ (hcy.t hg13) ?_
            clear hK K
            replace hcy := hcy.t hg13
            replace hb17 := hb17.pure hg13
            refine tree_p rfl rfl rfl rfl _ rfl (by simp) (fun K hK => ?_)
            apply Exists.intro
            refine ⟨fun wq K' hK' => ?_, ?_⟩
            · go_wp2_with fail
              exact hK'
            go_simp
            refine hK _ ?_
            clear hK K
            refine tree_p rfl rfl rfl rfl _ rfl (by simp) (fun K hK => ?_)
            apply Exists.intro
            refine ⟨fun wq K' hK' => ?_, ?_⟩
            · go_wp2_with fail
              exact hK'
            go_simp
            refine hK _ ?_
            clear hK K
            refine tree_b rfl rfl rfl rfl _ rfl (by simp) (fun K hK => ?_)
            apply Exists.intro
            refine ⟨fun wq hq K' hK' => ?_, ?_⟩
            · obtain ⟨y1, y2, ⟨y3, -⟩, ⟨y4, -⟩, y5, y6, y7, y8, y9, y10, y11⟩ := hLk.out wq hq
              go_wp2_with fail
              exact hK'
            go_simp
            refine hK _ ?_
            clear hK K
            refine tree_e0 (by kernel_rfl) rfl rfl (fun K hK => ?_)
            obtain ⟨u0, z0⟩ := hb17.c 0 rfl
            obtain ⟨u1, z1⟩ := hb17.c 1 rfl
            obtain ⟨u2, z2⟩ := hb17.c 2 rfl
            obtain ⟨u3, z3⟩ := hb17.c 3 rfl
            obtain ⟨u4, z4⟩ := hb17.c 4 rfl
            obtain ⟨u5, z5⟩ := hb17.c 5 rfl
            obtain ⟨u6, z6⟩ := hb17.c 6 rfl
            obtain ⟨wz, hwz⟩ : ∃ x, x = (((((((w13.setCell ⟨x17, 0, none⟩ (.int .i64 cc.v.path)).setCell ⟨x17, 1, none⟩ (.int .i64 cc.v.start)).setCell ⟨x17, 2, none⟩ (.bool cc.v.back)).setCell ⟨x17, 3, none⟩ (.int .i64 cc.a.x)).setCell ⟨x17, 4, none⟩ (.int .i64 cc.a.y)).setCell ⟨x17, 5, none⟩ (.int .i64 cc.b.x)).setCell ⟨x17, 6, none⟩ (.int .i64 cc.b.y)) := ⟨_, rfl⟩
            have hbz : Box wz x17 58 [.int .i64 cc.v.path, .int .i64 cc.v.start, .bool cc.v.back, .int .i64 cc.a.x, .int .i64 cc.a.y, .int .i64 cc.b.x, .int .i64 cc.b.y] := by rw [hwz]; exact (((((((hb17.set_ 0 (.int .i64 cc.v.path) (by simp)).set_ 1 (.int .i64 cc.v.start) (by simp)).set_ 2 (.bool cc.v.back) (by simp)).set_ 3 (.int .i64 cc.a.x) (by simp)).set_ 4 (.int .i64 cc.a.y) (by simp)).set_ 5 (.int .i64 cc.b.x) (by simp)).set_ 6 (.int .i64 cc.b.y) (by simp))
            have hgz : (w13).grownBy wz (some x17) := by rw [hwz]; exact (gr_set (gr_set (gr_set (gr_set (gr_set (gr_set (gr_set (World.grownBy.refl w13 (some x17)) (p := ⟨x17, 0, none⟩) (.inl rfl) _) (p := ⟨x17, 1, none⟩) (.inl rfl) _) (p := ⟨x17, 2, none⟩) (.inl rfl) _) (p := ⟨x17, 3, none⟩) (.inl rfl) _) (p := ⟨x17, 4, none⟩) (.inl rfl) _) (p := ⟨x17, 5, none⟩) (.inl rfl) _) (p := ⟨x17, 6, none⟩) (.inl rfl) _)
            go_wp2_with fail
            try go_simp
            refine hK _ _ trivial ?_
            clear hK K
            refine tree_done ?_
            rw [← hwz]
            have hszr := hb18.lt
            have hgy : wr.grownBy wz none := gr_row hcy hgz (fun g e => by cases e; omega)
            have hOx : ∀ g, blk A2 = some g → g ≠ x17 ∧ g ≠ x18 := fun g e => by
              have h1 := hO.blk_lt e
              exact ⟨by omega, by omega⟩
            have hOy := hO.pure hgy
            have hb18y := hb18.pure hgy
            have hGy := hG.pure hgy
            have hszy := hGy.size
            obtain ⟨t0, -⟩ := hbz.c 0 rfl
            obtain ⟨t1, -⟩ := hbz.c 1 rfl
            obtain ⟨t2, -⟩ := hbz.c 2 rfl
            have hga := gr_alloc (World.grownBy.refl wz none) (.cells #[.int .i64 cc.v.path, .int .i64 cc.v.start, .bool cc.v.back] 43)
            clear hLk hN hcy hgz hwz u0 u1 u2 u3 u4 u5 u6 z0 z1 z2 z3 z4 z5 z6 hb17 hO hb18 hG
            go_wp2_with (at_builtin; obtain ⟨i0, hi, hz, h1, h2⟩ := info_parts info_vis; refine wpList_pushAt (α := Vis) _ rfl (.tmp 119) (.tmp 122) _ rfl w18.heap.size 43 i0 _ 24 Tryz.underlying32 hi hz h1 h2 rfl _ _ _ LV rfl hLn.out.symm (by exact hOy.pure (gr_alloc (World.grownBy.refl _ _) _)) 0 ⟨_, 0, none⟩ 1 1 [cc.v] rfl rfl (by exact sl_oneAt _ 0 [.int .i64 cc.v.path, .int .i64 cc.v.start, .bool cc.v.back] _ _ _ (by first | rfl | simp) (Nat.zero_le _) rfl) ?c2 ?c3 ?c4 ?_)
            case c2 => rw [hLn.out]; simp; omega
            case c3 => rw [hLn.out]; simp [maxLen]; omega
            case c4 => simp; omega
            intro A9 c9 w9 hO9 hG9
            have hbz9 := (hbz.pure hga).gr hG9.1 (fun e => (hOx _ e).1 rfl)
            have hb189 := (hb18y.pure hga).gr hG9.1 (fun e => (hOx _ e).2 rfl)
            have hG99 := (hGy.pure hga).step hG9.1 (fun x e => .inr (hOy.blk_lt e).1)
            have hO9x : ∀ g, blk A9 = some g → g ≠ x18 := fun g e => by have := (hO9.blk_lt e).1; omega
            clear t0 t1 t2 hbz hb18y hGy hOy hOx hga hG9
            obtain ⟨t5, -⟩ := hbz9.c 5 rfl
            obtain ⟨t6, -⟩ := hbz9.c 6 rfl
            obtain ⟨o0, v0⟩ := hb189.c 0 rfl
            obtain ⟨o1, v1⟩ := hb189.c 1 rfl
            have hb19 := (hb189.set_ 0 (.int .i64 cc.b.x) (by simp)).set_ 1 (.int .i64 cc.b.y) (by simp)
            have hgs : w9.grownBy ((w9.setCell ⟨x18, 0, none⟩ (.int .i64 cc.b.x)).setCell ⟨x18, 1, none⟩ (.int .i64 cc.b.y)) (some x18) := gr_set (gr_set (World.grownBy.refl w9 (some x18)) (p := ⟨x18, 0, none⟩) (.inl rfl) _) (p := ⟨x18, 1, none⟩) (.inl rfl) _
            have hO10 := hO9.ne hgs (fun g e h => hO9x g e (Option.some.inj h).symm)
            have hG10 := hG99.step hgs (fun x e => .inl (Option.some.inj e).symm)
            go_wp2_with fail
            (go_roundw; (case rel => exact ⟨m + 1, A9, c9, by omega, by go_num, by simp [hLn.out], by rw [hStep.out]; exact hO10, by rw [hStep.out]; exact hb19, hG10⟩); (case measure => simp [intOf]; omega))
        · obtain rfl : m = o.length := by omega
          obtain ⟨hQ1, hQ2, -⟩ := begK_ok hp hst hR.out h0.out o.length (Nat.le_refl _)
          have hQl := begK_len l st o o.length
          have hQv : ∀ v ∈ (begK l st o o.length).1, VisOk l v := fun v hv => by
            have h1 : v.path ∈ o := by
              have := List.mem_map_of_mem (f := Vis.path) hv
              rw [hQ1, List.take_length] at this
              exact this
            have h2 := hR.out _ h1
            have h3 := hQ2 v hv
            rw [getD_path h2] at h3
            exact (chV_ok hp h2 v h3).2.1
          have hT := hide (travel_any A c l A2 c2 (begK l st o o.length).1 st wr (hl.pure hcur) (hO.sl.mono (Nat.zero_le _)) hst hQv (by omega))
          have hO9 := hO.lower (lo' := w.heap.size) hgr.size
          rw [hQl] at hT
          obtain ⟨s0, -⟩ := (hG.box hb3 hx3).c 0 rfl
          obtain ⟨s1, -⟩ := (hG.box hb3 hx3).c 1 rfl
          clear hb18 hG hO hQ1 hQ2 hQv
          obtain ⟨QQ, hQQ⟩ : ∃ Q, Q = (begK l st o o.length).1 := ⟨_, rfl⟩
          obtain ⟨TV, hTV⟩ : ∃ T, T = (travS l st QQ).2 := ⟨_, rfl⟩
          rw [← hQQ] at hQl hT hO9
          rw [← hTV] at hT
          replace hQl := hide hQl
          replace hQQ := hide hQQ
          replace hTV := hide hTV
          go_wp2_with fail
          refine hT.out.mono ?_
          rintro e w5 ⟨rfl, hg5⟩
          go_wp2_with fail
          exact bodyPost_ret (v := .tuple #[.slice A2 o.length c2, .int .i64 TV, .int .i64 0]) (by simp [results, Tryz.results9, go_sem]) rfl ⟨A2, c2, by rw [← hQQ.out, hQl.out, hTV.out], by rw [← hQQ.out]; exact hO9.pure hg5, hcur.t hg5⟩

end Go.Proofs.YtgcfaamgilbjdaaGreatDoor

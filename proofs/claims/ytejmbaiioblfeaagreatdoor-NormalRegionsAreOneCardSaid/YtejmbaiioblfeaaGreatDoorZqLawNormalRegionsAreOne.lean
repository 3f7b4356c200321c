/- Contracts of functions that this seat's laws reach, each: what one call returns and what it leaves in memory; no condition beyond each theorem's own hypotheses. -/
import Derived.Test.YtejmbaiioblfeaaGreatDoorZqNrmX
import Derived.Test.YtejmbaiioblfeaaGreatDoorZqRegSame
import Derived.Test.YtejmbaiioblfeaaGreatDoorZqRegH
import Derived.Test.YtejmbaiioblfeaaGreatDoorZqRegIn
import Derived.Test.YtejmbaiioblfeaaGreatDoorZqReady
import Derived.Test.YtejmbaiioblfeaaGreatDoorZqOrdG
import Derived.Deep.DeepCutAuto
set_option linter.unusedVariables false
set_option linter.unusedSimpArgs false
namespace Go.Proofs.YtejmbaiioblfeaaGreatDoor
open Go Go.RowKit Go.Bl

theorem points_one (p : Pt) : pointsF [p] = if farP p then 1 else 0 := by simp [pointsF]
/-- the first k rings of the mixed region -/
def Mixed (rs : List (List Pt)) (o : List Int) (ms : List (List Pt)) : Prop := ∀ j, j < ms.length → SV (rs.getD (o.getD j 0).toNat []) (ms.getD j [])

theorem Mixed.nil (rs : List (List Pt)) (o : List Int) : Mixed rs o [] := fun j h => absurd h (by simp)

theorem Mixed.push {rs : List (List Pt)} {o : List Int} {ms : List (List Pt)} {x : List Pt} (h : Mixed rs o ms) (hx : SV (rs.getD (o.getD ms.length 0).toNat []) x) : Mixed rs o (ms ++ [x]) := fun j hj => by
  by_cases e : j < ms.length
  · have : (ms ++ [x]).getD j [] = ms.getD j [] := by rw [at_getD (by simp; omega), at_getD e, List.getElem_append_left e]
    rw [this]; exact h j e
  · have e2 : j = ms.length := by simp at hj; omega
    subst e2
    have : (ms ++ [x]).getD ms.length [] = x := by rw [at_getD (by simp), List.getElem_append_right (Nat.le_refl _)]; simp
    rw [this]; exact hx

theorem mixed_regS {rs : List (List Pt)} {o : List Int} {ms : List (List Pt)} (ho : o.Perm ((List.range rs.length).map Int.ofNat)) (hl : ms.length = rs.length) (h : Mixed rs o ms) : RegS rs ms (o.map Int.toNat) := by
  have hp : (o.map Int.toNat).Perm (List.range rs.length) := by
    have h1 := ho.map Int.toNat
    rw [List.map_map] at h1
    have e : (Int.toNat ∘ Int.ofNat) = id := by funext i; rfl
    rwa [e, List.map_id] at h1
  refine ⟨hp, hl, fun j hj => ?_⟩
  have := h j (by omega)
  have hol : o.length = rs.length := by have := ho.length_eq; simpa using this
  have e : (o.map Int.toNat).getD j 0 = (o.getD j 0).toNat := by
    rw [List.getD_eq_getElem?_getD, List.getD_eq_getElem?_getD, List.getElem?_map, List.getElem?_eq_getElem (show j < o.length by omega)]
    rfl
  rw [e]; exact this

theorem ins_right {rs : List (List Pt)} {p : Pt} (h : regF rs = 0) (hf : farP p = false) : insE rs p = 0 ∧ insV rs p = insF rs p := by
  have e : insE rs p = 0 := by unfold insE; rw [if_neg (by simp [h]), hf]; rfl
  refine ⟨e, ?_⟩
  unfold insV
  rw [if_neg (by simp [e])]

theorem OwnR.keep {w w' : World} {lo : Nat} {e : TypeId} {A : Option Addr} {c : Nat} {l : List (List Pt)} {q : Option Nat} (h : OwnR w lo e A c l) (hg : w.grownBy w' q) (hq : ∀ g, q = some g → g < lo) : OwnR w' lo e A c l := by
  obtain ⟨raws, ho, ha⟩ := h
  exact ⟨raws, ho.keep hg hq, ha.imp fun _ _ x => NOkR.gr x hg (fun g hb e => by have := (NestOf.lt x.1.1 (g := g) hb).1; have := hq g e; omega)⟩

set_option maxHeartbeats 8000000 in
set_option maxRecDepth 100000 in
theorem normalOne_law (A : Option Addr) (n c : Nat) (L : List Int) (w : World) (hL : Sl w 0 A L) (hn : L.length = n) :
    Calls Tryz.prog 3 #[.slice A n c] w fun e w' => e = .returned (.bool true) ∧ w.grownBy w' none := by
  have hs0 := strm_new (c := c) 25 hL hn
  have hg0 := gr_alloc (World.grownBy.refl w none) (.cells #[.slice A n c, .int .i64 0] 25)
  have hR := rightRegion_any _ 0 _ hs0 (by omega)
  go_enter Tryz.func3, Tryz.ntmps3
  go_wp2_with fail
  refine hR.mono ?_
  rintro e w1 ⟨A1, c1, rs, rfl, hl, hlc, hrF, ho1⟩
  have hb0 := hs0.lt
  go_wp2_with fail
  refine (aPoint_any _ _ _ ho1.2 (by omega)).mono ?_
  rintro e w2 ⟨p, rfl, ho2⟩
  replace hl := hl.s ho2 hb0
  have hb1 := ho1.lt
  replace ho2 := ho1.trans ho2
  clear ho1 hR
  have hr2 := rok2_of hrF
  have hflat : (flatK rs rs.length).length ≤ 100000 := by have := hr2.flat; omega
  have hfew := hr2.few
  replace hr2 := hide hr2
  go_upto_region 3 with fail
  obtain ⟨px, py⟩ := p
  have hb2 := ho2.lt
  obtain ⟨w5, hw5⟩ : ∃ x, x = (w2).alloc (.cells [.int .i64 px, .int .i64 py].toArray 29) := ⟨_, rfl⟩
  have hg5 : (w2).grownBy w5 none := by rw [hw5]; exact gr_alloc (World.grownBy.refl _ _) _
  have hb5 : Box w5 (w2).heap.size 29 [.int .i64 px, .int .i64 py] := by rw [hw5]; exact Box.new _ _ _
  have hxs5 := hb5.lt
  rw [← hw5]
  clear hw5
  obtain ⟨x5, hx5⟩ : ∃ x, x = (w2).heap.size := ⟨_, rfl⟩
  rw [← hx5] at hb5 hxs5 ⊢
  have hxl5 : (w2).heap.size ≤ x5 := by omega
  clear hx5
  replace ho2 := ho2.pure hg5
  replace hl := hl.pure hg5
  have hlo6 := ho2.lt
  clear hg5
  have hNo := hide (normalX_any A1 c1 rs w5 (hl.mono (Nat.zero_le _)) hrF (by omega))
  go_wp2_with fail
  refine hNo.out.mono ?_
  rintro e w6 ⟨A6, c6, NM, o6, rfl, hN6, hNS, hg6⟩
  clear hNo
  replace ho2 := ho2.pure hg6
  replace hl := hl.pure hg6
  have hbx := hb5.pure hg6
  replace hNS := hide hNS
  clear hb5 hg6
  go_wp2_with fail
  refine (orderP_any _ _ rs.length _ ho2.2 (by omega) (by omega)).mono ?_
  rintro e w7 ⟨o, A7, c7, rfl, hoo, hol, hpm, ho7⟩
  have hl7 := hl.s ho7 hb0
  have hN7 := hN6.s ho7 hlo6
  have hx5b : x5 ≠ w.heap.size := by omega
  have hbx7 := hbx.gr ho7.1 (fun e => by injection e; omega)
  have hb6 := ho2.lt
  have ho27 := ho2.trans ho7
  have hs7 : Strm w7 w.heap.size 2000 := ho7.2.mono (by omega)
  have hb7 := hs7.lt
  have hIdx := hide fun (t : Nat) (ht : t < o.length) => (by
    obtain ⟨i, hi, e⟩ := List.mem_map.1 (hpm.mem_iff.1 (List.getElem_mem ht))
    exact ⟨i, List.mem_range.1 hi, e.symm⟩ : ∃ q : Nat, q < rs.length ∧ o[t] = (q : Int))
  have hS7 := SOut.refl hs7
  replace hpm := hide hpm
  replace hol := hide hol
  have hol2 : o.length ≤ 100 := by rw [hol.out]; exact hfew
  have hg0w := hg0
  clear ho7 ho2 hl hN6 hbx hs0 hL hs7
  go_wp2_with fail
  go_loopw [8, 38] (fun t i wr => ∃ (k : Nat) (ms : List (List Pt)) (A2 : Option Addr) (c2 : Nat), k ≤ o.length ∧ i = .int .i64 k ∧ t = .slice A2 ms.length c2 ∧ Hid (ms.length = k) ∧ Hid (Mixed rs o ms) ∧ OwnR wr w7.heap.size 36 A2 c2 ms ∧ SOut w.heap.size (2000 + 2 * k) w7 wr) (fun _ i _ => o.length - (intOf i).toNat)
  case atStart => exact ⟨0, [], none, 0, Nat.zero_le _, rfl, rfl, rfl, Mixed.nil _ _, OwnR.nil _ _ _, hS7.mono (by omega)⟩
  case round =>
    clear hS7
    obtain ⟨k, ms, A2, c2, hk, rfl, rfl, hml, hMx, hM, hS⟩ := hrel
    by_cases hlt : k < o.length
    · obtain ⟨q, hq, hok⟩ := hIdx.out k hlt
      obtain ⟨ga, oa, Bk, dk, eA, hgb, c0, -, hsl⟩ := sl_inner' ((hl7.s hS hb0).mono (Nat.zero_le _)) hq
      obtain ⟨gb, ob, cx, eB, -, -, rfl, hcx⟩ := (hoo.s hS hb6).sl.at_ (by decide) hlt
      have b0 : wr.cell? ⟨gb, ob + k, none⟩ = some (.int .i64 q) := by
        have := hcx 0 _ rfl
        rw [show Enc.sz Int = 1 from rfl, Nat.mul_one, Nat.add_zero] at this
        rw [this, hok]
      have hrg := hr2.out.ring _ (List.getElem_mem hq)
      obtain ⟨hr3, hr5, -, -, -⟩ := ringF_ok hrg
      have hSVr : Hid (rs.getD (o.getD k 0).toNat [] = rs[q]) := by
        rw [Hid, List.getD_eq_getElem?_getD (l := o), List.getElem?_eq_getElem hlt, Option.getD_some, hok, Int.toNat_natCast, at_getD hq]
      clear hcx hok
      generalize rs[q] = r at *
      subst eA
      subst eB
      have hb7r := hS.lt
      have hCl := hide (cloneRg_any Bk dk r wr hsl (by omega))
      go_wp2_with fail
      refine hCl.out.mono ?_
      rintro e w11 ⟨A11, c11, rfl, hO11, hg11⟩
      clear hCl c0 b0 hsl
      go_wp2_with fail
      refine (next_any _ _ r.length w11 (hS.2.pure hg11) (by omega) (by omega)).mono ?_
      rintro e w12 ⟨kk, rfl, ⟨hk0, hk1⟩, ho12⟩
      obtain ⟨kk, rfl⟩ := Int.eq_ofNat_of_zero_le hk0
      have hS12 := (hS.pure hg11).trans ho12
      have hM12 := (hM.pure hg11).keep ho12.1 (fun g e => by injection e; omega)
      have hO12 := hO11.s ho12 hb7r
      obtain ⟨g4, rfl, hgl4, -⟩ := hO12.shape (by omega)
      have hcp := hO12.cap
      have hkk : kk < r.length := by omega
      have hA2b : ∀ g, blk A2 = some g → g < w12.heap.size := fun g e => by obtain ⟨raws, h1, -⟩ := hM12; exact (h1.blk_lt e).2
      clear hM hS hO11 hg11 ho12 hk0 hk1
      have hDr : Hid (∀ W, w12.grownBy W none → Sl W 0 (some ⟨g4, kk * 2, none⟩) (r.drop kk)) := fun W h => by
        have h2 : Sl W _ (some ⟨g4, 0 + kk * 2, none⟩) (r.drop kk) := (hO12.pure h).sl.dropH kk
        rw [Nat.zero_add] at h2
        exact h2.mono (Nat.zero_le _)
      have hTk : Hid (∀ W, w12.grownBy W none → Sl W 0 (some ⟨g4, 0, none⟩) (r.take kk)) := fun W h => ((hO12.pure h).takeH kk (by omega)).sl.mono (Nat.zero_le _)
      have hDl : Hid (r.length - kk = (r.drop kk).length) := by rw [Hid, List.length_drop]
      have hTl : Hid (kk = (r.take kk).length) := by rw [Hid, List.length_take]; omega
      obtain ⟨⟨hRl, hRr⟩, -⟩ := rot_take (r := r) (k := kk) (by omega)
      have hZ : Hid (flatK [r.drop kk, r.take kk] 2 = r.drop kk ++ r.take kk) := by
        rw [Hid, flatK_all (Nat.le_refl 2)]
        simp
      have hRot : Hid (Rot r (r.drop kk ++ r.take kk)) := ⟨hRl, hRr⟩
      clear hRr hO12
      go_upto_region 10 with fail
      refine wp_region_tree (fun wx => w12.grownBy wx none) [2, 2, 2, 2, 2, 2, 0, 0, 2] (.bl 0 (.bl 1 (.bl 2 (.bl 3 (.bl 4 (.bl 5 (.ef 6 (.ef 7 (.bl 8 .done))))))))) (by kernel_rfl) (by kernel_rfl) (gr_drew (World.grownBy.refl _ _)) ?_
      obtain ⟨u0, hu0⟩ : ∃ x, x = (w12).drew := ⟨_, rfl⟩
      rw [← hu0]
      have hgu0 : (w12).grownBy u0 none := by rw [hu0]; exact gr_drew (World.grownBy.refl _ _)
      clear hu0
      refine tree_p rfl rfl rfl rfl _ rfl (by simp) (fun K hK => ?_)
      apply Exists.intro
      refine ⟨fun wq K' hK' => ?_, ?_⟩
      · go_wp2_with fail
        exact hK'
      go_simp
      refine hK _ ?_
      clear hK K
      refine tree_p rfl rfl rfl rfl _ rfl (by simp) (fun K hK => ?_)
      apply Exists.intro
      refine ⟨fun wq K' hK' => ?_, ?_⟩
      · go_wp2_with fail
        exact hK'
      go_simp
      refine hK _ ?_
      clear hK K
      refine tree_p rfl rfl rfl rfl _ rfl (by simp) (fun K hK => ?_)
      apply Exists.intro
      refine ⟨fun wq K' hK' => ?_, ?_⟩
      · go_wp2_with fail
        exact hK'
      go_simp
      refine hK _ ?_
      clear hK K
      refine tree_p rfl rfl rfl rfl _ rfl (by simp) (fun K hK => ?_)
      apply Exists.intro
      refine ⟨fun wq K' hK' => ?_, ?_⟩
      · go_wp2_with fail
        exact hK'
      go_simp
      refine hK _ ?_
      clear hK K
      refine tree_p rfl rfl rfl rfl _ rfl (by simp) (fun K hK => ?_)
      apply Exists.intro
      refine ⟨fun wq K' hK' => ?_, ?_⟩
      · go_wp2_with fail
        exact hK'
      go_simp
      refine hK _ ?_
      clear hK K
      refine tree_p rfl rfl rfl rfl _ rfl (by simp) (fun K hK => ?_)
      apply Exists.intro
      refine ⟨fun wq K' hK' => ?_, ?_⟩
      · go_wp2_with fail
        exact hK'
      go_simp
      refine hK _ ?_
      clear hK K
      refine tree_e0 (by kernel_rfl) rfl rfl (fun K hK => ?_)
      go_wp2_with fail
      try go_simp
      refine hK _ _ trivial ?_
      clear hK K
      refine tree_e0 (by kernel_rfl) rfl rfl (fun K hK => ?_)
      go_wp2_with fail
      refine (concatRings_any (some ⟨u0.heap.size, 0, none⟩) 2 [r.drop kk, r.take kk] _ (sl_two u0 0 36 (some ⟨g4, kk * 2, none⟩) (some ⟨g4, 0, none⟩) _ _ (r.length - kk) kk (c11 - kk) c11 hDl.out hTl.out (by omega) (by omega) (hDr.out u0 hgu0) (hTk.out u0 hgu0) (Nat.zero_le _)) (by show (flatK [r.drop kk, r.take kk] 2).length ≤ 1000000; rw [hZ.out, hRl]; omega)).mono ?_
      rintro e v8 ⟨A8, c8, rfl, hO8, hg8⟩
      go_wp2_with fail
      try go_simp
      refine hK _ _ trivial ?_
      clear hK K
      refine tree_p rfl rfl rfl rfl _ rfl (by simp) (fun K hK => ?_)
      apply Exists.intro
      refine ⟨fun wq K' hK' => ?_, ?_⟩
      · go_wp2_with fail
        exact hK'
      go_simp
      refine hK _ ?_
      clear hK K
      refine tree_done ?_
      have hgA := gr_trans (gr_alloc hgu0 _) hg8
      have hlo8 := (gr_alloc hgu0 (.cells #[.slice (some ⟨g4, kk * 2, none⟩) (r.length - kk) (c11 - kk), .slice (some ⟨g4, 0, none⟩) kk c11] 36)).size
      replace hO8 := hO8.lower hlo8
      have hZ2 := hZ.out
      change flatK [r.drop kk, r.take kk] [r.drop kk, r.take kk].length = r.drop kk ++ r.take kk at hZ2
      rw [hZ2] at hO8
      rw [hZ.out, hRl]
      generalize r.drop kk ++ r.take kk = Z at *
      obtain ⟨g8, rfl, hgl8, -⟩ := hO8.shape (by omega)
      have hlo12 := hS12.1.size
      have hS8 := hS12.pure hgA
      have hM8 := hM12.pure hgA
      have hM12x := hM12
      have hb8 := hS12.lt
      clear hg8 hlo8 hDr hTk hDl hTl hZ hZ2 hgu0 hS12 hM12
      go_wp2_with fail
      refine (flip_any _ _ 2 v8 hS8.2 (by omega) (by omega)).mono ?_
      rintro e w13 ⟨f, rfl, ho13⟩
      have hM13 := hM8.keep ho13.1 (fun g e => by injection e; omega)
      have hO13 := hO8.s ho13 hb8
      have hS13 := hS8.trans ho13
      have hlo8 := hlo12
      have hrv := hide (reverseRing_any _ g8 c8 Z w13 hO13 (by omega) (by omega))
      rw [hRl] at hrv
      cases f with
      | false =>
        clear hrv
        obtain ⟨raws, hOw, hA2⟩ := hM13
        have hrl2 := hide hA2.len
        have hszS := hS13.size
        have hml1 : Hid ((ms ++ [Z]).length = k + 1) := by rw [Hid, List.length_append, hml.out]; rfl
        have hMx2 : Hid (Mixed rs o (ms ++ [Z])) := by
          refine hMx.out.push ?_
          rw [hml.out, hSVr.out]; exact ⟨Z, hRot.out, .inl rfl⟩
        have hq8 := gr_alloc (World.grownBy.refl w13 none) (.cells #[.slice (some ⟨g8, 0, none⟩) (Z).length c8] 36)
        have hOwq := hOw.pure hq8
        have hrk : raws.length ≤ 100 := by rw [hrl2.out, hml.out]; omega
        have hYc := hO13.cap
        have hnew : NOkR (w13) w7.heap.size A2 ⟨some ⟨g8, 0, none⟩, (Z).length, c8⟩ Z := ⟨⟨⟨rfl, hYc, hO13.sl.mono hlo8, fun x hx => ⟨Nat.le_trans hlo8 (hO13.blk_lt hx).1, (hO13.blk_lt hx).2⟩⟩, fun x hx e => by
          have h1 : g8 = x := Option.some.inj (show some g8 = some x from hx)
          have h2 := hA2b _ e
          omega⟩, ThawR.own hO13⟩
        replace hnew := NOkR.gr hnew hq8 (fun g _ e => by cases e)
        have hA2q := grNR hA2 hq8
        have hYL : Hid ((Z).length = r.length) := hRl
        replace hrl2 := hide (show ms.length = raws.length from hrl2.out.symm)
        rw [show (Z).length = r.length from hYL.out] at hnew hq8 hA2q hOwq
        clear hA2 hOw
        go_wp2_with (at_builtin; obtain ⟨i0, hi, hz, h1, h2⟩ := info_parts info_ring; refine wpList_pushAt (α := RawS) _ rfl (.tmp 63) (.tmp 65) _ rfl w7.heap.size 36 i0 _ 24 Tryz.underlying26 hi hz h1 h2 rfl _ _ _ raws rfl (by exact hrl2.out) (by exact hOwq) 0 ⟨_, 0, none⟩ 1 1 [⟨some ⟨g8, 0, none⟩, r.length, c8⟩] rfl rfl (by exact sl_oneAt _ 0 [.slice (some ⟨g8, 0, none⟩) r.length c8] _ _ _ (by first | rfl | simp) (Nat.zero_le _) rfl) ?c2 ?c3 ?c4 ?_)
        case c2 => simp; omega
        case c3 => simp [maxLen]; omega
        case c4 => simp; omega
        intro A5 c5 w5' hO5 hG5
        have hM5 := OwnR.push hA2q hO5 hG5 hnew
        have hS5 := (hS13.pure hq8).new hb7 hG5.1 (fun x e => (hOwq.blk_lt e).1)
        have hl5 : Hid ((raws ++ [(⟨some ⟨g8, 0, none⟩, r.length, c8⟩ : RawS)]).length = (ms ++ [Z]).length) := by rw [Hid, List.length_append, List.length_append, hrl2.out]; rfl
        clear hO5 hG5 hq8 hA2q hnew hOwq
        go_wp2_with fail
        (go_roundw; (case rel => exact ⟨k + 1, ms ++ [Z], A5, c5, by omega, by go_num, by rw [← hl5.out, List.length_append]; rfl, hml1, hMx2, hM5, hS5.mono (by omega)⟩); (case measure => simp [intOf]; omega))
      | true =>
        go_wp2_with fail
        refine hrv.out.mono ?_
        rintro e w14 ⟨⟨v, rfl⟩, hO14, hg14⟩
        clear hrv
        have hM14 := hM12x.keep (gr_new (gr_trans (gr_any hgA) ho13.1) hg14 hgl8) (fun g e => by injection e; omega)
        have hS14 := hS13.new hb7 hg14 (fun g e => by injection e; omega)
        obtain ⟨raws, hOw, hA2⟩ := hM14
        have hrl2 := hide hA2.len
        have hszS := hS14.size
        have hml1 : Hid ((ms ++ [Z.reverse]).length = k + 1) := by rw [Hid, List.length_append, hml.out]; rfl
        have hMx2 : Hid (Mixed rs o (ms ++ [Z.reverse])) := by
          refine hMx.out.push ?_
          rw [hml.out, hSVr.out]; exact ⟨Z, hRot.out, .inr rfl⟩
        have hq8 := gr_alloc (World.grownBy.refl w14 none) (.cells #[.slice (some ⟨g8, 0, none⟩) (Z.reverse).length c8] 36)
        have hOwq := hOw.pure hq8
        have hrk : raws.length ≤ 100 := by rw [hrl2.out, hml.out]; omega
        have hYc := hO14.cap
        have hnew : NOkR (w14) w7.heap.size A2 ⟨some ⟨g8, 0, none⟩, (Z.reverse).length, c8⟩ Z.reverse := ⟨⟨⟨rfl, hYc, hO14.sl.mono hlo8, fun x hx => ⟨Nat.le_trans hlo8 (hO14.blk_lt hx).1, (hO14.blk_lt hx).2⟩⟩, fun x hx e => by
          have h1 : g8 = x := Option.some.inj (show some g8 = some x from hx)
          have h2 := hA2b _ e
          omega⟩, ThawR.own hO14⟩
        replace hnew := NOkR.gr hnew hq8 (fun g _ e => by cases e)
        have hA2q := grNR hA2 hq8
        have hYL : Hid ((Z.reverse).length = r.length) := (List.length_reverse.trans hRl)
        replace hrl2 := hide (show ms.length = raws.length from hrl2.out.symm)
        rw [show (Z.reverse).length = r.length from hYL.out] at hnew hq8 hA2q hOwq
        clear hA2 hOw
        go_wp2_with (at_builtin; obtain ⟨i0, hi, hz, h1, h2⟩ := info_parts info_ring; refine wpList_pushAt (α := RawS) _ rfl (.tmp 63) (.tmp 65) _ rfl w7.heap.size 36 i0 _ 24 Tryz.underlying26 hi hz h1 h2 rfl _ _ _ raws rfl (by exact hrl2.out) (by exact hOwq) 0 ⟨_, 0, none⟩ 1 1 [⟨some ⟨g8, 0, none⟩, r.length, c8⟩] rfl rfl (by exact sl_oneAt _ 0 [.slice (some ⟨g8, 0, none⟩) r.length c8] _ _ _ (by first | rfl | simp) (Nat.zero_le _) rfl) ?c2 ?c3 ?c4 ?_)
        case c2 => simp; omega
        case c3 => simp [maxLen]; omega
        case c4 => simp; omega
        intro A5 c5 w5' hO5 hG5
        have hM5 := OwnR.push hA2q hO5 hG5 hnew
        have hS5 := (hS14.pure hq8).new hb7 hG5.1 (fun x e => (hOwq.blk_lt e).1)
        have hl5 : Hid ((raws ++ [(⟨some ⟨g8, 0, none⟩, r.length, c8⟩ : RawS)]).length = (ms ++ [Z.reverse]).length) := by rw [Hid, List.length_append, List.length_append, hrl2.out]; rfl
        clear hO5 hG5 hq8 hA2q hnew hOwq
        go_wp2_with fail
        (go_roundw; (case rel => exact ⟨k + 1, ms ++ [Z.reverse], A5, c5, by omega, by go_num, by rw [← hl5.out, List.length_append]; rfl, hml1, hMx2, hM5, hS5.mono (by omega)⟩); (case measure => simp [intOf]; omega))
    · obtain rfl : k = o.length := by omega
      have hRS := mixed_regS hpm.out (by rw [hml.out]; exact hol.out) hMx.out
      have hRV := hRS.rv hr2.out
      have hmr := of_rok2 (hRV.ok hr2.out)
      have hfl2 : (flatK ms ms.length).length ≤ 1000000 := by have := (rok2_of hmr).flat; omega
      have hmA := hRV.area hr2.out
      have hNR := hNS.out.rv hr2.out
      have hNr := of_rok2 (hNR.ok hr2.out)
      have hfl3 : (flatK NM NM.length).length ≤ 100000 := by have := (rok2_of hNr).flat; omega
      have hNA := hNR.area hr2.out
      have hNI := hNR.ins hr2.out ⟨px, py⟩
      have hmS := hM.toN.sl.mono (Nat.zero_le _)
      have hrS := (hl7.s hS hb0).mono (Nat.zero_le _)
      have hnS := (hN7.s hS (by omega)).mono (Nat.zero_le _)
      have hbS := hbx7.gr hS.1 (fun e => by injection e; omega)
      have hgz : w.grownBy wr none := gr_new hg0w (ho27.trans hS).1 (Nat.le_refl _)
      clear hl7 hN7 hbx7 hS hM hoo ho27 hIdx hMx hRV hNR
      have hNo := hide (normalX_any A2 c2 ms wr hmS hmr hfl2)
      go_wp2_with fail
      refine hNo.out.mono ?_
      rintro e w20 ⟨A20, c20, M2, o20, rfl, hM20, hNS2, hg20⟩
      obtain rfl : M2 = NM := (norm_one hr2.out hRS hNS.out hNS2).symm
      clear hNo hNS2 hRS hmr hmA hmS
      replace hrS := hrS.pure hg20
      replace hnS := hnS.pure hg20
      replace hbS := hbS.pure hg20
      replace hM20 := hM20.mono (Nat.zero_le _)
      replace hgz := hgz.t hg20
      clear hg20
      have hA1 := hide fun W (h : w20.grownBy W none) => area_any A1 c1 rs W (hrS.pure h) (by omega)
      have hA2 := hide fun W (h : w20.grownBy W none) => area_any A6 c6 M2 W (hnS.pure h) (by omega)
      have hSR := hide fun W (h : w20.grownBy W none) => sameRegion_same A6 c6 M2 A20 c20 W (hnS.pure h) (hM20.pure h)
      have hI1 := hide fun W (h : w20.grownBy W none) => inside_any A1 c1 rs ⟨px, py⟩ W (hrS.pure h) hflat
      have hI2 := hide fun W (h : w20.grownBy W none) => inside_any A6 c6 M2 ⟨px, py⟩ W (hnS.pure h) hfl3
      rw [hrF] at hA1
      rw [hNr, hNA] at hA2
      have hba : (areaT rs != areaT rs) = false := by simp
      generalize areaT rs = AR at *
      have hin1 := hide fun hf => ins_right (p := ⟨px, py⟩) hrF hf
      have hin2 := hide fun hf => ins_right (p := ⟨px, py⟩) hNr hf
      clear hrF hNr hNA hfl2 hfl3
      replace hNI := hide hNI
      obtain ⟨d0, -⟩ := hbS.c 0 rfl
      obtain ⟨d1, -⟩ := hbS.c 1 rfl
      have hpt := hide fun W (h : w20.grownBy W none) => pointFault_any (some ⟨W.heap.size, 0, none⟩) 1 [⟨px, py⟩] (W.alloc (.cells #[.int .i64 px, .int .i64 py] 29)) (sl_oneAt W 0 [.int .i64 px, .int .i64 py] 29 (⟨px, py⟩ : Pt) _ rfl (Nat.zero_le _) rfl)
      rw [points_one] at hpt
      go_wp2_with fail
      refine (hA1.out _ (World.grownBy.refl _ _)).mono ?_
      rintro e w21 ⟨rfl, hg21⟩
      clear hA1
      go_wp2_with fail
      refine (hA2.out _ hg21).mono ?_
      rintro e w22 ⟨rfl, hg22⟩
      replace hg22 := hg21.t hg22
      clear hA2 hg21
      go_wp2_with fail
      refine (hSR.out _ hg22).mono ?_
      rintro e w23 ⟨rfl, hg23⟩
      replace hg23 := hg22.t hg23
      clear hSR hg22
      replace d0 := hg23.k d0
      replace d1 := hg23.k d1
      go_wp2_with fail
      refine (hpt.out _ hg23).mono ?_
      rintro e w24 ⟨rfl, hg24⟩
      have hg24' := hg23.t ((gr_alloc (World.grownBy.refl w23 none) (.cells #[.int .i64 px, .int .i64 py] 29)).t hg24)
      clear hpt
      replace d0 := ((gr_alloc (World.grownBy.refl w23 none) (.cells #[.int .i64 px, .int .i64 py] 29)).t hg24).k d0
      replace d1 := ((gr_alloc (World.grownBy.refl w23 none) (.cells #[.int .i64 px, .int .i64 py] 29)).t hg24).k d1
      cases hf : farP ⟨px, py⟩ with
      | true =>
        clear hI1 hI2 hin1 hin2 hNI
        replace hf := hide hf
        simp only [if_true]
        go_wp2_with fail
        refine (ready_any _).mono ?_
        rintro e wf ⟨rfl, hgf⟩
        go_wp2_with fail
        exact bodyPost_ret (v := .bool true) (by simp [results, Tryz.results3, go_sem]) rfl ⟨rfl, hgz.t (hg24'.t hgf)⟩
      | false =>
        obtain ⟨e1, e2⟩ := hin1.out hf
        obtain ⟨e3, e4⟩ := hin2.out hf
        rw [e1, e2] at hI1
        rw [e3, e4, hNI.out] at hI2
        generalize insF rs ⟨px, py⟩ = IV at *
        have hIV : (IV == IV) = true := by simp
        clear hin1 hin2 hNI e1 e2 e3 e4
        replace hf := hide hf
        simp only [Bool.false_eq_true, if_false]
        go_wp2_with fail
        refine (hI1.out _ hg24').mono ?_
        rintro e w25 ⟨rfl, hg25⟩
        clear hI1
        replace d0 := hg25.k d0
        replace d1 := hg25.k d1
        replace hg25 := hg24'.t hg25
        go_wp2_with fail
        refine (hI2.out _ hg25).mono ?_
        rintro e w26 ⟨rfl, hg26⟩
        clear hI2
        replace hg26 := hg25.t hg26
        go_wp2_with fail
        refine (ready_any _).mono ?_
        rintro e wf ⟨rfl, hgf⟩
        go_wp2_with fail
        exact bodyPost_ret (v := .bool true) (by simp [results, Tryz.results3, go_sem]) rfl ⟨rfl, hgz.t (hg26.t hgf)⟩

end Go.Proofs.YtejmbaiioblfeaaGreatDoor

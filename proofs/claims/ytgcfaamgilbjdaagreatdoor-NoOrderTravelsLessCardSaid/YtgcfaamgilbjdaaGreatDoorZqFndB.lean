/- Contracts of functions that this seat's laws reach, each: what one call returns and what it leaves in memory; no condition beyond each theorem's own hypotheses. -/
import Derived.Test.YtgcfaamgilbjdaaGreatDoorZqBegP
import Derived.Test.YtgcfaamgilbjdaaGreatDoorZqNearB
import Derived.Test.YtgcfaamgilbjdaaGreatDoorZqGrS
set_option linter.unusedVariables false
set_option linter.unusedSimpArgs false
namespace Go.Bl
/-- the choices of the first paths -/
def allK (l : List PathV) (q : Nat) : List Chc := (List.range q).flatMap (chs l)

theorem allK_succ (l : List PathV) (q : Nat) : allK l (q + 1) = allK l q ++ chs l q := by
  unfold allK
  rw [List.range_succ, List.flatMap_append]
  simp

end Go.Bl
namespace Go.Proofs.YtgcfaamgilbjdaaGreatDoor
open Go Go.RowKit Go.Bl Go.Maps Go.WideShapes

theorem GrS.slF {α : Type} [Enc α] [Flat α] {p : Nat → Prop} {w w' : World} {lo : Nat} {A : Option Addr} {l : List α} (h : GrS p w w') (hl : Sl w lo A l) (hb : ∀ g, blk A = some g → ¬ p g ∧ g < w.heap.size) : Sl w' lo A l := by
  obtain ⟨hm, cs, hr, hl⟩ := hl
  refine ⟨hm, cs, hr.flat, fun hc => ?_⟩
  obtain ⟨ad, e, hb1, hcs⟩ := hl hc
  subst e
  exact ⟨ad, rfl, hb1, fun j u hu => by rw [h.cell (by rw [block_of_add]; exact (hb _ rfl).2) (by rw [block_of_add]; exact (hb _ rfl).1)]; exact hcs j u hu⟩

theorem info_mapA : (Tryz.prog.info? 55).map (fun i => (i.zero, i.size, i.bytes)) = some (some (.map none), 1, 8) := by kernel_rfl

theorem allK_len {l : List PathV} (hp : pathsF l = 0) : ∀ q, q ≤ l.length → (allK l q).length ≤ 500 * q
  | 0, _ => by simp [allK]
  | q + 1, h => by
    have h1 := allK_len hp q (by omega)
    have h2 := chs_len hp (show q < l.length by omega)
    rw [allK_succ, List.length_append]; omega

set_option maxHeartbeats 8000000 in
set_option maxRecDepth 100000 in
theorem best_any (A : Option Addr) (c : Nat) (l : List PathV) (st : Pt) (w : World) (hl : Sl w 0 A l) (hp : pathsF l = 0) (hst : near st) (hsf : farP st = false) (hn : l.length ≤ 6) :
    Calls Tryz.prog 7 #[.agg #[.int .i64 st.x, .int .i64 st.y], .slice A l.length c] w fun e w' => ∃ (A' : Option Addr) (c' : Nat), e = .returned (.tuple #[.slice A' (bst l st (2 ^ l.length - 1)).1.length c', .int .i64 (travS l st (bst l st (2 ^ l.length - 1)).1).2, .int .i64 0]) ∧ Own w' w.heap.size 43 A' c' (bst l st (2 ^ l.length - 1)).1 ∧ w.grownBy w' none := by
  have hSP := fun W h => startPaths_any A c l st W h
  rw [hsf, if_neg (by simp), hp] at hSP
  replace hSP := hide hSP
  go_enter Tryz.func7, Tryz.ntmps7
  go_upto_region 1 with fail
  obtain ⟨w2, hw2⟩ : ∃ x, x = (w).alloc (.cells [.int .i64 st.x, .int .i64 st.y].toArray 28) := ⟨_, rfl⟩
  have hg2 : (w).grownBy w2 none := by rw [hw2]; exact gr_alloc (World.grownBy.refl _ _) _
  have hb2 : Box w2 (w).heap.size 28 [.int .i64 st.x, .int .i64 st.y] := by rw [hw2]; exact Box.new _ _ _
  have hxs2 := hb2.lt
  rw [← hw2]
  clear hw2
  obtain ⟨x2, hx2⟩ : ∃ x, x = (w).heap.size := ⟨_, rfl⟩
  rw [← hx2] at hb2 hxs2 ⊢
  have hxl2 : (w).heap.size ≤ x2 := by omega
  clear hx2
  obtain ⟨b0, -⟩ := hb2.c 0 rfl
  obtain ⟨b1, -⟩ := hb2.c 1 rfl
  go_wp2_with fail
  refine (hSP.out _ (hl.pure hg2)).mono ?_
  rintro e w3 ⟨rfl, hg3⟩
  clear hSP b0 b1
  replace hb2 := hb2.pure hg3
  have hx2w := hb2.lt
  have hgw := hg2.t hg3
  clear hg2 hg3
  have hn0 : (l.length : Int) ≤ 6 := by omega
  go_upto_region 7 with fail
  obtain ⟨w8, hw8⟩ : ∃ x, x = (w3).alloc (.cells [.slice none 0 0, .slice none 0 0].toArray 53) := ⟨_, rfl⟩
  have hg8 : (w3).grownBy w8 none := by rw [hw8]; exact gr_alloc (World.grownBy.refl _ _) _
  have hb8 : Box w8 (w3).heap.size 53 [.slice none 0 0, .slice none 0 0] := by rw [hw8]; exact Box.new _ _ _
  have hxs8 := hb8.lt
  rw [← hw8]
  clear hw8
  obtain ⟨x8, hx8⟩ : ∃ x, x = (w3).heap.size := ⟨_, rfl⟩
  rw [← hx8] at hb8 hxs8 ⊢
  have hxl8 : (w3).heap.size ≤ x8 := by omega
  clear hx8
  replace hb2 := hb2.pure hg8
  have hwx8 : w.heap.size ≤ x8 := by have := hgw.size; omega
  replace hgw := hgw.t hg8
  have hchs := hide fun W (h : w.grownBy W none) (q : Nat) (hq : q < l.length) => choices_any A c l q W (hl.pure h) hp hq
  go_wp2_with fail
  go_loopw [35] (fun i wr => ∃ (q : Nat) (A1 : Option Addr) (c1 : Nat), q ≤ l.length ∧ i = .int .i64 q ∧ Box wr x8 53 [.slice A1 (allK l q).length c1, .slice none 0 0] ∧ Own wr w8.heap.size 58 A1 c1 (allK l q) ∧ GrS (fun x => x = x8) w8 wr) (fun i _ => l.length - (intOf i).toNat)
  case atStart => exact ⟨0, none, 0, Nat.zero_le _, rfl, hb8, Own.nil _ _ _, GrS.refl _ _⟩
  case round =>
    clear hb8
    obtain ⟨q, A1, c1, hq, rfl, hb, hO, hG⟩ := hrel
    by_cases hlt : q < l.length
    · have hne := chs_ne hp hlt
      have hls := chs_len hp hlt
      have hla := allK_len hp q (by omega)
      have hsucc := hide (allK_succ l q)
      have hcur0 : w.grownBy wr none := hG.new hgw (fun x e => by rw [e]; exact hwx8)
      obtain ⟨i0, hi, hz, h1, h2⟩ := info_parts info_chc
      replace hi := hide hi
      replace hz := hide hz
      replace h1 := hide h1
      replace h2 := hide h2
      have hx8 : ∀ g, blk A1 = some g → g ≠ x8 := fun g e => by have := (hO.blk_lt e).1; omega
      go_upto_region 10 with fail
      refine wp_region_tree (fun wx => Box wx x8 53 [.slice A1 (allK l q).length c1, .slice none 0 0]) [2, 2, 2, 2, 1, 2, 2, 0, 0, 2, 2, 0] (.bl 0 (.bl 1 (.bl 2 (.bl 3 (.bl 4 (.bl 5 (.bl 6 (.ef 7 (.ef 8 (.bl 9 (.bl 10 (.ef 11 .done)))))))))))) (by kernel_rfl) (by kernel_rfl) (hb.pure (gr_drew (World.grownBy.refl _ _))) ?_
      obtain ⟨W1, hW1⟩ : ∃ x, x = (wr).drew := ⟨_, rfl⟩
      rw [← hW1]
      have hgW1 : (wr).grownBy W1 none := by rw [hW1]; exact gr_drew (World.grownBy.refl _ _)
      clear hW1
      have hbc := hb.pure hgW1
      have hOc := hO.pure hgW1
      have hcur := hcur0.t hgW1
      have hGc := hG.pure hgW1
      refine tree_p rfl rfl rfl rfl _ rfl (by simp) (fun K hK => ?_)
      apply Exists.intro
      refine ⟨fun wq K' hK' => ?_, ?_⟩
      · go_wp2_with fail
        exact hK'
      go_simp
      refine hK _ ?_
      clear hK K
      refine tree_p rfl rfl rfl rfl _ rfl (by simp) (fun K hK => ?_)
      apply Exists.intro
      refine ⟨fun wq K' hK' => ?_, ?_⟩
      · go_wp2_with fail
        exact hK'
      go_simp
      refine hK _ ?_
      clear hK K
      refine tree_n rfl rfl _ rfl _ rfl ?_
      try go_simp
      refine tree_p rfl rfl rfl rfl _ rfl (by simp) (fun K hK => ?_)
      apply Exists.intro
      refine ⟨fun wq K' hK' => ?_, ?_⟩
      · go_wp2_with fail
        exact hK'
      go_simp
      refine hK _ ?_
      clear hK K
      refine tree_b rfl rfl rfl rfl _ rfl (by simp) (fun K hK => ?_)
      apply Exists.intro
      refine ⟨fun wq hq K' hK' => ?_, ?_⟩
      · obtain ⟨d0, -⟩ := hq.c 0 rfl
        go_wp2_with fail
        exact hK'
      go_simp
      refine hK _ ?_
      clear hK K
      refine tree_p rfl rfl rfl rfl _ rfl (by simp) (fun K hK => ?_)
      apply Exists.intro
      refine ⟨fun wq K' hK' => ?_, ?_⟩
      · go_wp2_with fail
        exact hK'
      go_simp
      refine hK _ ?_
      clear hK K
      refine tree_p rfl rfl rfl rfl _ rfl (by simp) (fun K hK => ?_)
      apply Exists.intro
      refine ⟨fun wq K' hK' => ?_, ?_⟩
      · go_wp2_with fail
        exact hK'
      go_simp
      refine hK _ ?_
      clear hK K
      refine tree_e rfl rfl (fun K hK => ?_)
      go_wp2_with fail
      refine (hchs.out W1 hcur q hlt).mono ?_
      rintro e w7 ⟨A7, c7, rfl, hO7, hg7⟩
      obtain ⟨g7, rfl, -, -⟩ := hO7.shape (List.length_pos_iff.2 hne)
      go_wp2_with fail
      try go_simp
      refine hK _ _ (hbc.pure hg7) ?_
      clear hK K
      replace hbc := hbc.pure hg7
      replace hOc := hOc.pure hg7
      replace hcur := hcur.t hg7
      replace hGc := hGc.pure hg7
      clear hg7
      refine tree_e0 (by kernel_rfl) rfl rfl (fun K hK => ?_)
      refine wp_pushAt (α := Chc) _ (.tmp 42) (.tmp 45) _ rfl w8.heap.size 58 i0 _ 56 Tryz.underlying50 hi.out hz.out h1.out h2.out rfl _ _ _ (allK l q) rfl rfl (by exact hOc) 0 ⟨g7, 0, none⟩ _ _ (chs l q) rfl rfl (by exact hO7.sl.mono (Nat.zero_le _)) ?c2 ?c3 ?c4 ?_
      case c2 => omega
      case c3 => simp [maxLen]; omega
      case c4 => exact hGc.size
      intro A9 c9 w9 hO9 hG9
      rw [← hsucc.out] at hO9 ⊢
      simp only [Act.put, List.setIfInBounds_toArray, List.set_cons_zero, List.set_cons_succ]
      try go_simp
      refine hK _ _ trivial ?_
      clear hK K
      have hb9 := hbc.gr hG9.1 (fun e => hx8 _ e rfl)
      have hGd := hGc.step hG9.1 (fun x e => .inr (hOc.blk_lt e).1)
      clear hbc hOc hcur hGc hG9
      refine tree_n rfl rfl _ rfl _ rfl ?_
      try go_simp
      refine tree_p rfl rfl rfl rfl _ rfl (by simp) (fun K hK => ?_)
      apply Exists.intro
      refine ⟨fun wq K' hK' => ?_, ?_⟩
      · go_wp2_with fail
        exact hK'
      go_simp
      refine hK _ ?_
      clear hK K
      refine tree_e0 (by kernel_rfl) rfl rfl (fun K hK => ?_)
      obtain ⟨o0, u0⟩ := hb9.c 0 rfl
      go_wp2_with fail
      try go_simp
      refine hK _ _ trivial ?_
      clear hK K
      refine tree_done ?_
      have hb10 := hb9.set_ 0 (.slice A9 (allK l (q + 1)).length c9) (by simp)
      have hG10 := hGd.step (gr_set (World.grownBy.refl w9 (some x8)) (p := ⟨x8, 0, none⟩) (.inl rfl) (.slice A9 (allK l (q + 1)).length c9)) (fun x e => .inl (Option.some.inj e).symm)
      have hO10 : Own (w9.setCell ⟨x8, 0, none⟩ (.slice A9 (allK l (q + 1)).length c9)) w8.heap.size 58 A9 c9 (allK l (q + 1)) := hO9.ne (gr_set (World.grownBy.refl w9 (some x8)) (p := ⟨x8, 0, none⟩) (.inl rfl) _) (fun g e h => by have := (hO9.blk_lt e).1; injection h with h; omega)
      go_wp2_with fail
      (go_roundw; (case rel => exact ⟨q + 1, A9, c9, by omega, by go_num, hb10, hO10, hG10⟩); (case measure => simp [intOf]; omega))
    · obtain rfl : q = l.length := by omega
      have hall : allK l l.length = allC l := rfl
      rw [hall] at hb hO
      have hla := allK_len hp l.length (Nat.le_refl _)
      rw [hall] at hla
      have hxA : ∀ g, blk A1 = some g → g ≠ x8 := fun g e => by have := (hO.blk_lt e).1; omega
      have hcur0 : w.grownBy wr none := hG.new hgw (fun x e => by rw [e]; exact hwx8)
      replace hb2 : Box wr x2 28 [.int .i64 st.x, .int .i64 st.y] := hG.box hb2 (by omega)
      have hA := hO.sl
      have hAlt : ∀ g, blk A1 = some g → g < wr.heap.size := fun g e => (hO.blk_lt e).2
      have hx8w := hb.lt
      obtain ⟨wa, rfl⟩ : ∃ x, x = wr := ⟨wr, rfl⟩
      obtain ⟨LN, hLN⟩ : ∃ LN, LN = (allC l).length := ⟨_, rfl⟩
      rw [← hLN] at hb hla
      replace hLN := hide hLN
      clear hG hgw hO hchs hall hg8
      obtain ⟨d0, -⟩ := hb.c 0 rfl
      go_wp2_with fail
      clear d0
      go_loopw [55] (fun i wr => ∃ (k : Nat) (B : Option Addr) (cB : Nat) (ms : List MapA), k ≤ LN ∧ i = .int .i64 k ∧ Box wr x8 53 [.slice A1 LN c1, .slice B k cB] ∧ Hid (ms.length = k) ∧ Own wr wa.heap.size 55 B cB ms ∧ LeftT wr wa.heap.size 1 ms (fun _ x => if x = 0 then some 0 else none) ∧ (ms.map MapA.g).Nodup ∧ (∀ m ∈ ms, m.g < wr.heap.size ∧ blk B ≠ some m.g) ∧ GrS (fun x => x = x8) wa wr) (fun i _ => LN - (intOf i).toNat)
      case atStart => exact ⟨0, none, 0, [], Nat.zero_le _, rfl, hb, rfl, Own.nil _ _ _, fun k h => absurd h (by simp), List.nodup_nil, by simp, GrS.refl _ _⟩
      case round =>
        clear hb
        obtain ⟨k, B, cB, ms, hk, rfl, hb, hml, hO, hL, hnd, hmB, hG⟩ := hrel
        by_cases hlt : k < LN
        · have hmk := run_makeMap (P := Tryz.prog) 55 wr
          obtain ⟨w1, hw1⟩ : ∃ x, x = wr.alloc (.map #[] 0) := ⟨_, rfl⟩
          have m1 : MapOf intO w1 wr.heap.size 0 (fun _ => none) := by rw [hw1]; exact MapOf.made intO wr
          have g1 : wr.grownBy w1 none := by rw [hw1]; exact gr_alloc (World.grownBy.refl _ _) _
          rw [← hw1] at hmk
          obtain ⟨w4, hst4, m4, g4⟩ := m1.store Tryz.underlying55 (by decide) (x := 0) (okIo_of (by decide)) (y := 0) (okIo_of (by decide))
          obtain ⟨gm, hgm⟩ : ∃ g, g = wr.heap.size := ⟨_, rfl⟩
          rw [← hgm] at hmk m1 hst4 m4 g4
          replace hgm := hide hgm
          replace hst4 : (Instr.mapUpdate 55 (.map (some gm)) (.int .i64 0) (.int .i64 0)).run Tryz.prog w1 = .ok _ w4 := hst4
          have hbx1 := (hb.pure g1).gr g4 (fun e => by injection e with e; have := hgm.out; have := hb.lt; omega)
          obtain ⟨d0, e0⟩ := hbx1.c 1 rfl
          obtain ⟨d1, -⟩ := hb.c 1 rfl
          have hgw1 : wr.heap.size < w1.heap.size := by rw [hw1]; simp
          have hbl : ∀ x, blk B = some x → wa.heap.size ≤ x ∧ x < gm := fun x e => by have := hO.blk_lt e; have := hgm.out; omega
          have hO4 := (hO.pure g1).ne g4 (fun g e h => by have := (hbl g e).2; injection h with h; omega)
          have hsz4 := g4.size
          have hszw := hG.size
          have hla2 : LN ≤ 3000 := by omega
          obtain ⟨i0, hi, hz, h1, h2⟩ := info_parts info_mapA
          clear hw1
          have hga := gr_alloc (World.grownBy.refl w4 none) (.cells #[.map (some gm)] 55)
          go_wp2_with (at_builtin; refine wpList_pushAt (α := MapA) _ rfl (.tmp 61) (.tmp 64) _ rfl wa.heap.size 55 i0 _ 8 Tryz.underlying51 hi hz h1 h2 rfl _ _ _ ms rfl hml.out.symm (by exact hO4.pure (gr_alloc (World.grownBy.refl _ _) _)) 0 ⟨_, 0, none⟩ 1 1 [(⟨gm⟩ : MapA)] rfl rfl (by exact sl_oneAt _ 0 [.map (some gm)] _ _ _ (by first | rfl | simp) (Nat.zero_le _) rfl) ?c2 ?c3 ?c4 ?_)
          case c2 => rw [hml.out]; simp; omega
          case c3 => rw [hml.out]; simp [maxLen]; omega
          case c4 => simp; omega
          intro B5 c5 w5 hO5 hG5
          have hbx5 := (hbx1.pure hga).gr hG5.1 (fun e => by have := (hbl _ e).1; omega)
          obtain ⟨d2, e2⟩ := hbx5.c 1 rfl
          have hml1 : Hid ((ms ++ [(⟨gm⟩ : MapA)]).length = k + 1) := by rw [Hid, List.length_append, hml.out]; rfl
          rw [hml.out]
          go_wp2_with fail
          obtain ⟨w6, hw6⟩ : ∃ x, x = w5.setCell ⟨x8, 1, none⟩ (.slice B5 (k + 1) c5) := ⟨_, rfl⟩
          have hgs : w5.grownBy w6 (some x8) := by rw [hw6]; exact gr_set (World.grownBy.refl w5 (some x8)) (p := ⟨x8, 1, none⟩) (.inl rfl) _
          have hbx6 : Box w6 x8 53 [.slice A1 LN c1, .slice B5 (k + 1) c5] := by rw [hw6]; exact hbx5.set_ 1 (.slice B5 (k + 1) c5) (by simp)
          have hO6 := hO5.ne hgs (fun g e h => by have := (hO5.blk_lt e).1; injection h with h; omega)
          rw [← hw6]
          clear hw6 d0 e0 d1 d2 e2 hbx1 hbx5 hmk hst4 hO4 hO
          have key : ∀ (m n : Nat) (f : Int → Option Int), MapOf intO w4 m n f → blk B ≠ some m → m ≠ x8 → MapOf intO w6 m n f := fun m n f h q1 q2 => ((h.kept hga (by simp)).kept hG5.1 q1).kept hgs (fun e => q2 (Option.some.inj e).symm)
          have hL6 : LeftT w6 wa.heap.size 1 (ms ++ [(⟨gm⟩ : MapA)]) (fun _ x => if x = 0 then some 0 else none) := fun j hj => by
            by_cases hjk : j < ms.length
            · rw [List.getElem_append_left hjk]
              obtain ⟨q1, q2⟩ := hL j hjk
              have q3 := hmB _ (List.getElem_mem hjk)
              exact ⟨q1, key _ _ _ ((q2.kept g1 (by simp)).kept g4 (fun e => by have := hgm.out; injection e with e; omega)) q3.2 (by omega)⟩
            · have hje : j = ms.length := by simp at hj; omega
              subst hje
              rw [List.getElem_concat_length rfl]
              have := hgm.out
              exact ⟨by simp only; omega, key gm _ _ m4 (fun e => by have := (hbl _ e).2; omega) (by omega)⟩
          have hnd6 : ((ms ++ [(⟨gm⟩ : MapA)]).map MapA.g).Nodup := by
            rw [List.map_append]
            refine List.nodup_append.2 ⟨hnd, by simp, ?_⟩
            rintro a ha b hb rfl
            simp at hb
            obtain ⟨m, hm, e⟩ := List.mem_map.1 ha
            have := (hmB m hm).1
            have := hgm.out
            omega
          have hG6 : GrS (fun x => x = x8) wa w6 := ((((hG.pure g1).step g4 (fun x e => .inr (by have := hgm.out; injection e with e; omega))).pure hga).step hG5.1 (fun x e => .inr (hbl x e).1)).step hgs (fun x e => .inl (Option.some.inj e).symm)
          have hmB6 : ∀ m ∈ ms ++ [(⟨gm⟩ : MapA)], m.g < w6.heap.size ∧ blk B5 ≠ some m.g := by
            have s1 := hga.size
            have s2 := hG5.1.size
            have s3 := hgs.size
            have s4 := g1.size
            have key2 : ∀ x : Nat, x < w4.heap.size → blk B ≠ some x → x < w6.heap.size ∧ blk B5 ≠ some x := fun x q1 q2 => ⟨by omega, fun e => by
              rcases hG5.2 with h | h
              · exact q2 (h.symm.trans e)
              · have := Option.some.inj (h.symm.trans e)
                omega⟩
            intro m hm
            rcases List.mem_append.1 hm with hm | hm
            · obtain ⟨q1, q2⟩ := hmB m hm
              exact key2 _ (by omega) q2
            · have e : m = ⟨gm⟩ := by simpa using hm
              subst e
              have := hgm.out
              exact key2 gm (by omega) (fun e => by have := (hbl _ e).2; omega)
          (go_roundw; (case rel => exact ⟨k + 1, B5, c5, ms ++ [(⟨gm⟩ : MapA)], by omega, by go_num, hbx6, hml1, hO6, hL6, hnd6, hmB6, hG6⟩); (case measure => simp [intOf]; omega))
        · obtain rfl : LN = k := by omega
          have hx8m : ∀ m ∈ ms, x8 ≠ m.g := fun m hm e => by
            obtain ⟨j, hj, rfl⟩ := List.mem_iff_getElem.1 hm
            have := (hL j hj).1
            omega
          have hB := hO.sl.mono (Nat.zero_le _)
          have hA2 : Sl wr 0 A1 (allC l) := (hG.sl hA (fun x e => by rw [e]; exact hxs8)).mono (Nat.zero_le _)
          replace hb2 : Box wr x2 28 [.int .i64 st.x, .int .i64 st.y] := hG.box hb2 (by omega)
          have hcur : w.grownBy wr none := hG.new hcur0 (fun x e => by rw [e]; exact hwx8)
          have hBm : ∀ g, blk B = some g → (¬ ∃ m ∈ ms, m.g = g) ∧ g < wr.heap.size := fun g e => ⟨fun ⟨m, hm, h⟩ => (hmB m hm).2 (by rw [e, h]), (hO.blk_lt e).2⟩
          have hAm : ∀ g, blk A1 = some g → (¬ ∃ m ∈ ms, m.g = g) ∧ g < wr.heap.size := fun g e => ⟨fun ⟨m, hm, h⟩ => by
            obtain ⟨j, hj, rfl⟩ := List.mem_iff_getElem.1 hm
            have := (hL j hj).1
            have := hAlt g e
            omega, by have := hAlt g e; have := hG.size; omega⟩
          have hXm : ∀ x : Nat, x < wa.heap.size → (¬ ∃ m ∈ ms, m.g = x) := fun x hx ⟨m, hm, h⟩ => by
            obtain ⟨j, hj, rfl⟩ := List.mem_iff_getElem.1 hm
            have := (hL j hj).1
            omega
          have hx8m2 := hXm x8 hx8w
          have hx2m := hXm x2 (by omega)
          have hmlt : ∀ m ∈ ms, m.g < wr.heap.size ∧ wa.heap.size ≤ m.g := fun m hm => by
            obtain ⟨j, hj, rfl⟩ := List.mem_iff_getElem.1 hm
            exact ⟨(hmB _ hm).1, (hL j hj).1⟩
          obtain ⟨PN, hPN⟩ : ∃ PN : Int, PN = ((2 ^ l.length : Nat) : Int) := ⟨_, rfl⟩
          have hw2 := wrap_shl hn
          rw [← hPN] at hw2
          obtain ⟨hPN1, hPN64⟩ := pow64I hn hPN
          replace hPN := hide hPN
          clear hmB hG hO hA hAlt hx8m
          obtain ⟨wb, rfl⟩ : ∃ x, x = wr := ⟨wr, rfl⟩
          have hT0 := TabOk.zero l
          go_wp2_with fail
          go_loopw [10] (fun s wr => ∃ (S : Nat) (T : Nat → Int → Option Int), 1 ≤ S ∧ (S : Int) ≤ PN ∧ s = .int .i64 S ∧ LeftT wr wa.heap.size (S * 4000) ms T ∧ TabOk l T S 0 ∧ GrS (fun x => ∃ m ∈ ms, m.g = x) wb wr) (fun s _ => 64 - (intOf s).toNat)
          case atStart => exact ⟨1, _, Nat.le_refl _, hPN1, rfl, hL.mono (by decide), hT0, GrS.refl _ _⟩
          case round =>
            clear hL hT0
            obtain ⟨S, T, hS1, hS2, rfl, hL, hT, hG⟩ := hrel
            by_cases hlt2 : (S : Int) < PN
            · have hmk := run_makeMap (P := Tryz.prog) 56 wr
              obtain ⟨w1, hw1⟩ : ∃ x, x = wr.alloc (.map #[] 0) := ⟨_, rfl⟩
              have m1 : MapOf ptO w1 wr.heap.size 0 (fun _ => none) := by rw [hw1]; exact MapOf.made ptO wr
              have g1 : wr.grownBy w1 none := by rw [hw1]; exact gr_alloc (World.grownBy.refl _ _) _
              rw [← hw1] at hmk
              have hszw := hG.size
              obtain ⟨kn, hkn⟩ : ∃ g, g = wr.heap.size := ⟨_, rfl⟩
              rw [← hkn] at hmk m1
              have hknb : wb.heap.size ≤ kn := by omega
              clear hw1 hkn
              have hS64 : S < 64 := by omega
              have hSl : S < 2 ^ l.length := by have := hPN.out; omega
              have hL1 := (hL.pure g1).mono (n' := S * 4000 + 0) (by omega)
              have hG1 := hG.pure g1
              have hbx1 : Box w1 x8 53 [.slice A1 LN c1, .slice B LN cB] := hG1.box hb hx8m2
              obtain ⟨d0, -⟩ := hbx1.c 0 rfl
              have hK0 : Hid (∀ (p : Pt) (v : Int), (fun _ => none : Pt → Option Int) p = some v → v = (bst l p S).2) := fun p v h => by cases h
              clear hL hG g1 hszw hS2
              go_wp2_with fail
              clear d0 hmk hbx1
              go_loopw [82] (fun i wr => ∃ (q : Nat) (K : Pt → Option Int) (T : Nat → Int → Option Int), q ≤ LN ∧ i = .int .i64 q ∧ MapOf ptO wr kn q K ∧ Hid (∀ p v, K p = some v → v = (bst l p S).2) ∧ LeftT wr wa.heap.size (S * 4000 + q) ms T ∧ TabOk l T S q ∧ GrS (fun x => ∃ m ∈ ms, m.g = x) wb wr) (fun i _ => LN - (intOf i).toNat)
              case atStart => exact ⟨0, _, T, Nat.zero_le _, rfl, m1, hK0, hL1, hT, hG1⟩
              case round =>
                clear m1 hK0 hL1 hT hG1 T
                obtain ⟨q, K, T, hq, rfl, hM, hK, hL, hT, hG⟩ := hrel
                by_cases hlt : q < LN
                · have hlc : q < (allC l).length := by rw [← hLN.out]; exact hlt
                  obtain ⟨i, v, hil, hv, hc1, hc2⟩ := chA_mem hlc
                  have hvp := chV_path hv
                  have hcv : (chA l q).v = v := by rw [hc1]; rfl
                  have hnb := (chA_near hp hlc).2
                  have hcq : (allC l)[q] = chA l q := by unfold chA; rw [List.getD_eq_getElem?_getD, List.getElem?_eq_getElem hlc, Option.getD_some]
                  have hAw := hG.slF hA2 hAm
                  obtain ⟨ga, oa, cx, e1, -, -, rfl, hcx⟩ := hAw.at_ (by decide) hlc
                  rw [hcq] at hcx
                  have c0 : wr.cell? ⟨ga, oa + q * 7, none⟩ = some (.int .i64 (chA l q).v.path) := hcx 0 _ rfl
                  have c1' : wr.cell? ⟨ga, oa + q * 7 + 1, none⟩ = some (.int .i64 (chA l q).v.start) := hcx 1 _ rfl
                  have c2 : wr.cell? ⟨ga, oa + q * 7 + 2, none⟩ = some (.bool (chA l q).v.back) := hcx 2 _ rfl
                  have c3 : wr.cell? ⟨ga, oa + q * 7 + 3, none⟩ = some (.int .i64 (chA l q).a.x) := hcx 3 _ rfl
                  have c4 : wr.cell? ⟨ga, oa + q * 7 + 4, none⟩ = some (.int .i64 (chA l q).a.y) := hcx 4 _ rfl
                  have c5 : wr.cell? ⟨ga, oa + q * 7 + 5, none⟩ = some (.int .i64 (chA l q).b.x) := hcx 5 _ rfl
                  have c6 : wr.cell? ⟨ga, oa + q * 7 + 6, none⟩ = some (.int .i64 (chA l q).b.y) := hcx 6 _ rfl
                  rw [hcv, hvp] at c0
                  rw [hcv] at c1' c2
                  clear hcx hcq hc1 hcv hvp hv
                  have hi6 : i < 6 := by omega
                  have hbt := bits_and1S (i := i) hS64
                  subst e1
                  cases hbit : S.testBit i with
                  | true =>
                    have hT1 := hT.skip (by rw [hc2]; exact hbit)
                    rw [hbit, if_pos rfl] at hbt
                    generalize chA l q = cc at *
                    clear hT hbit hc2
                    go_wp2_with fail
                    (go_roundw; (case rel => exact ⟨q + 1, K, T, by omega, by go_num, (hM.mono (by omega)).kept (gr_alloc (World.grownBy.refl _ none) _) (by simp), hK, (hL.mono (by omega)).pure (gr_alloc (World.grownBy.refl _ none) _), hT1, hG.pure (gr_alloc (World.grownBy.refl _ none) _)⟩); (case measure => simp [intOf]; omega))
                  | false =>
                    rw [hbit, if_neg (by simp)] at hbt
                    obtain ⟨V, hV⟩ : ∃ V, V = (bst l (chA l q).b S).2 := ⟨_, rfl⟩
                    have hVb := bst_bd hp hn hnb hSl
                    have hput := hT.put
                    have hNV := nxV_bst l (chA l q).b S
                    rw [← hV] at hput hVb hNV
                    replace hput := hide hput
                    replace hV := hide hV
                    obtain ⟨cc, hcc⟩ : ∃ cc, cc = chA l q := ⟨_, rfl⟩
                    rw [← hcc] at c3 c4 c5 c6 hnb hV hNV
                    have hFN := hide fun W (hLw : LeftT W wa.heap.size (S * 4000 + q) ms T) (hGw : GrS (fun x => ∃ m ∈ ms, m.g = x) wb W) => fnext_any x8 (some ⟨ga, oa, none⟩) B c1 cB wa.heap.size (S * 4000 + q) l ms T cc.b S (bsL l S) W (by rw [hml.out, ← hLN.out]; exact hGw.box hb hx8m2) (hGw.slF hA2 hAm) (hGw.slF hB hBm) hLw (by rw [hml.out, hLN.out]) (hT.use hp hn hSl) hnb hS64 hn hp
                    rw [hNV] at hFN
                    generalize nxI (nxtS l (bsL l S) cc.b S) = BI at *
                    clear hcc hbit hc2 hNV hT
                    obtain ⟨wy, hwy⟩ : ∃ x, x = wr.alloc (.cells #[.int .i64 i, .int .i64 v.start, .bool v.back, .int .i64 cc.a.x, .int .i64 cc.a.y, .int .i64 cc.b.x, .int .i64 cc.b.y] 58) := ⟨_, rfl⟩
                    have hTb : Box wy wr.heap.size 58 [.int .i64 i, .int .i64 v.start, .bool v.back, .int .i64 cc.a.x, .int .i64 cc.a.y, .int .i64 cc.b.x, .int .i64 cc.b.y] := by rw [hwy]; exact Box.new _ _ _
                    have hgy : wr.grownBy wy none := by rw [hwy]; exact gr_alloc (World.grownBy.refl _ _) _
                    replace hwy := hide hwy.symm
                    go_upto_region 24 with fail
                    rw [show wr.alloc (.cells #[.int .i64 i, .int .i64 v.start, .bool v.back, .int .i64 cc.a.x, .int .i64 cc.a.y, .int .i64 cc.b.x, .int .i64 cc.b.y] 58) = wy from hwy.out]
                    have hgtk : kn < wr.heap.size := hM.lt
                    replace hM := hM.kept hgy (by simp)
                    replace hL := hL.pure hgy
                    replace hG := hG.pure hgy
                    clear hwy c0 c1' c2 c3 c4 c5 c6 hgy hAw
                    generalize wr.heap.size = gt at *
                    obtain ⟨t5, -⟩ := hTb.c 5 rfl
                    obtain ⟨t6, -⟩ := hTb.c 6 rfl
                    have hqm : q < ms.length := by rw [hml.out]; exact hlt
                    cases hKp : K cc.b with
                    | some v2 =>
                      have hv2 : v2 = V := by rw [hK.out _ _ hKp, hV.out]
                      subst hv2
                      have hlk := lookOk_pto hM (x := cc.b) (r := v2) (ok := true) (okPt_of hnb) (by rw [hKp]; rfl) (by rw [hKp]; rfl)
                      clear hKp hFN
                      go_upto_region 28 with fail
                      clear hlk
                      obtain ⟨gm, om, cx, eB, -, -, rfl, hcm⟩ := (hG.slF hB hBm).at_ (by decide) hqm
                      have m0 : (wy).cell? ⟨gm, om + q, none⟩ = some (.map (some ms[q].g)) := by
                        have := hcm 0 _ rfl
                        rwa [show Enc.sz MapA = 1 from rfl, Nat.mul_one, Nat.add_zero] at this
                      have hbz := hG.box hb hx8m2
                      obtain ⟨d1, -⟩ := hbz.c 1 rfl
                      obtain ⟨w9, hst9, hL9, h9⟩ := hL.store hnd hqm (by unfold maxLen; omega) (x := (S : Int)) (y := v2) (okIo_of (by omega)) (okIo_of (by omega))
                      have hmq := hmlt _ (List.getElem_mem hqm)
                      have hG9 := hG.step h9 (fun x e => .inl ⟨ms[q], List.getElem_mem hqm, Option.some.inj e⟩)
                      have hM9 := hM.kept h9 (fun e => by have := Option.some.inj e; omega)
                      clear hcm hbz
                      subst eB
                      go_wp2_with fail
                      (go_roundw; (case rel => exact ⟨q + 1, K, _, by omega, by go_num, hM9.mono (by omega), hK, hL9.mono (by omega), hput.out, hG9⟩); (case measure => simp [intOf]; omega))
                    | none =>
                      have hlk := lookOk_pto hM (x := cc.b) (r := 0) (ok := false) (okPt_of hnb) (by rw [hKp]; rfl) (by rw [hKp]; rfl)
                      clear hKp
                      have hFNy := hide (hFN.out wy hL hG)
                      clear hFN
                      go_wp2_with fail
                      refine hFNy.out.mono ?_
                      rintro e w26 ⟨rfl, hg26⟩
                      obtain ⟨w27, hst27, hM27, h27⟩ := (hM.kept hg26 (by simp)).store Tryz.underlying56 (by unfold maxLen; omega) (x := cc.b) (okPt_of hnb) (y := V) (okIo_of (by omega))
                      replace hst27 : (Instr.mapUpdate 56 (.map (some kn)) (.agg #[.int .i64 cc.b.x, .int .i64 cc.b.y]) (.int .i64 V)).run Tryz.prog w26 = .ok _ w27 := hst27
                      have hL27 := (hL.pure hg26).other h27 (fun m hm e => by have := (hmlt m hm).1; have := Option.some.inj e; omega)
                      have hG27 := (hG.pure hg26).step h27 (fun x e => .inr (by have := Option.some.inj e; omega))
                      obtain ⟨u5, -⟩ := (hTb.pure hg26).c 5 rfl
                      obtain ⟨u6, -⟩ := (hTb.pure hg26).c 6 rfl
                      have hK27 : Hid (∀ (p : Pt) (v : Int), (fun z => if z = cc.b then some V else K z) p = some v → v = (bst l p S).2) := fun p v h => by
                        by_cases e : p = cc.b
                        · subst e
                          simp only [if_true] at h
                          rw [← Option.some.inj h]; exact hV.out
                        · simp only [if_neg e] at h
                          exact hK.out p v h
                      clear hFNy hlk t5 t6 hM hL hG hK
                      go_upto_region 28 with fail
                      clear hst27 u5 u6
                      obtain ⟨gm, om, cx, eB, -, -, rfl, hcm⟩ := (hG27.slF hB hBm).at_ (by decide) hqm
                      have m0 : (w27).cell? ⟨gm, om + q, none⟩ = some (.map (some ms[q].g)) := by
                        have := hcm 0 _ rfl
                        rwa [show Enc.sz MapA = 1 from rfl, Nat.mul_one, Nat.add_zero] at this
                      have hbz := hG27.box hb hx8m2
                      obtain ⟨d1, -⟩ := hbz.c 1 rfl
                      obtain ⟨w9, hst9, hL9, h9⟩ := hL27.store hnd hqm (by unfold maxLen; omega) (x := (S : Int)) (y := V) (okIo_of (by omega)) (okIo_of (by omega))
                      have hmq := hmlt _ (List.getElem_mem hqm)
                      have hG9 := hG27.step h9 (fun x e => .inl ⟨ms[q], List.getElem_mem hqm, Option.some.inj e⟩)
                      have hM9 := hM27.kept h9 (fun e => by have := Option.some.inj e; omega)
                      clear hcm hbz
                      subst eB
                      go_wp2_with fail
                      (go_roundw; (case rel => exact ⟨q + 1, _, _, by omega, by go_num, hM9.mono (by omega), hK27, hL9.mono (by omega), hput.out, hG9⟩); (case measure => simp [intOf]; omega))
                · obtain rfl : LN = q := by omega
                  have hT1 := TabOk.next (S := S) (by rw [← hLN.out]; exact hT)
                  have hla2 : LN ≤ 3000 := by omega
                  go_wp2_with fail
                  (go_roundw; (case rel => exact ⟨S + 1, T, by omega, by omega, by go_num, hL.mono (by omega), hT1, hG⟩); (case measure => simp [intOf]; omega))
            · obtain ⟨wz, rfl⟩ : ∃ x, x = wr := ⟨wr, rfl⟩
              have hSP : S = 2 ^ l.length := by have := hPN.out; omega
              rw [hSP] at hT
              have hx2b := hG.box hb2 hx2m
              obtain ⟨s0, -⟩ := hx2b.c 0 rfl
              obtain ⟨s1, -⟩ := hx2b.c 1 rfl
              have hcur1 : w.grownBy wz none := hG.new hcur (fun x ⟨m, hm, e⟩ => by have := (hmlt m hm).2; have := hcur0.size; omega)
              obtain ⟨R, hR⟩ : ∃ R, R = (bst l st (2 ^ l.length - 1)).1 := ⟨_, rfl⟩
              have hfull : 2 ^ l.length - 1 < 2 ^ l.length := by have := Nat.two_pow_pos l.length; omega
              obtain ⟨hR6, hRv⟩ := bst_few (at_ := st) hp hfull
              rw [← hR] at hR6 hRv
              have hbz := hG.box hb hx8m2
              have hAz := hG.slF hA2 hAm
              have hBz := hG.slF hB hBm
              have hfn := hide fun (at_ : Pt) (S2 : Nat) (hn2 : near at_) (hS2 : S2 < 2 ^ l.length) W (hg : wz.grownBy W none) => fnext_any x8 A1 B c1 cB wa.heap.size (S * 4000) l ms T at_ S2 (bsL l S2) W (by rw [hml.out, ← hLN.out]; exact hbz.pure hg) (hAz.pure hg) (hBz.pure hg) (hL.pure hg) (by rw [hml.out, hLN.out]) ((hT.down (Nat.le_of_lt hS2)).use hp hn hS2) hn2 (by omega) hn hp
              have hwP : Hid (PN - 1 = ((2 ^ l.length - 1 : Nat) : Int)) := by rw [Hid, hPN.out]; have := Nat.two_pow_pos l.length; omega
              clear hL hT hb2 hcur
              replace hSP := hide hSP
              go_wp2_with fail
              obtain ⟨wc, hwc⟩ : ∃ x, x = wz.alloc (.cells #[.int .i64 st.x, .int .i64 st.y] 28) := ⟨_, rfl⟩
              have hb17 : Box wc wz.heap.size 28 [.int .i64 st.x, .int .i64 st.y] := by rw [hwc]; exact Box.new _ _ _
              have hgc : wz.grownBy wc none := by rw [hwc]; exact gr_alloc (World.grownBy.refl _ _) _
              rw [show wz.alloc (.cells #[.int .i64 st.x, .int .i64 st.y] 28) = wc from hwc.symm]
              clear hwc s0 s1
              have hx17 := hb17.lt
              obtain ⟨x17, hx17e⟩ : ∃ x, x = wz.heap.size := ⟨_, rfl⟩
              rw [← hx17e] at hb17 hx17 ⊢
              replace hx17e := hide hx17e
              go_loopw [16, 18] (fun o s wq => ∃ (S2 : Nat) (at_ : Pt) (L : List Vis) (AO : Option Addr) (cO : Nat), s = .int .i64 S2 ∧ o = .slice AO L.length cO ∧ Own wq wc.heap.size 43 AO cO L ∧ Box wq x17 28 [.int .i64 at_.x, .int .i64 at_.y] ∧ near at_ ∧ S2 < 2 ^ l.length ∧ Hid (L ++ (bst l at_ S2).1 = R) ∧ GrS (fun x => x = x17) wc wq) (fun _ s _ => (intOf s).toNat)
              case atStart => exact ⟨2 ^ l.length - 1, st, [], none, 0, by rw [hwP.out], rfl, Own.nil _ _ _, hb17, hst, hfull, hR.symm, GrS.refl _ _⟩
              case round =>
                clear hb17
                obtain ⟨S2, at_, L, AO, cO, rfl, rfl, hO, hb17, hna, hS2, hLR, hG2⟩ := hrel
                have hgq : wz.grownBy wr none := hG2.new hgc (fun x e => by rw [e, hx17e.out]; exact Nat.le_refl _)
                have hx2q := hx2b.pure hgq
                have hlen : L.length ≤ l.length := by
                  have := congrArg List.length hLR.out
                  rw [List.length_append] at this
                  omega
                by_cases h0 : S2 = 0
                · subst h0
                  have hLe : L = R := by have := hLR.out; rw [bst_zero] at this; simpa using this
                  have hT := hide (travel_any A c l AO cO L st wr (hl.pure (hcur1.t hgq)) (hO.sl.mono (Nat.zero_le _)) hst (by rw [hLe]; exact hRv) (by omega))
                  have hO9 := hO.lower (lo' := w.heap.size) (by have := hcur1.size; have := hgc.size; omega)
                  have hpos : ¬ (0 : Int) < ((0 : Nat) : Int) := by omega
                  replace hLe := hide hLe
                  obtain ⟨s0, -⟩ := hx2q.c 0 rfl
                  obtain ⟨s1, -⟩ := hx2q.c 1 rfl
                  obtain ⟨TV, hTV⟩ : ∃ TV, TV = (travS l st L).2 := ⟨_, rfl⟩
                  rw [← hTV] at hT
                  replace hTV := hide hTV
                  clear hfn hb17 hLR hG2 hO
                  go_wp2_with fail
                  refine hT.out.mono ?_
                  rintro e w5 ⟨rfl, hg5⟩
                  go_wp2_with fail
                  exact bodyPost_ret (v := .tuple #[.slice AO L.length cO, .int .i64 TV, .int .i64 0]) (by simp [results, Tryz.results7, go_sem]) rfl ⟨AO, cO, by rw [← hR, ← hLe.out, hTV.out], by rw [← hR, ← hLe.out]; exact hO9.pure hg5, hcur1.t (hgq.t hg5)⟩
                · obtain ⟨b, i, hnx, hbl, hil, hbit, hvp, hpt, hst1⟩ := nxt_some (at_ := at_) hp hS2 h0
                  have hF := hfn.out at_ S2 hna hS2 wr hgq
                  rw [hnx] at hF
                  simp only [nxI, nxV] at hF
                  replace hF := hide hF
                  have hpos : (0 : Int) < (S2 : Int) := by omega
                  obtain ⟨d0, -⟩ := hb17.c 0 rfl
                  obtain ⟨d1, -⟩ := hb17.c 1 rfl
                  have hnb := (chA_near hp hbl).2
                  replace hst1 := hide hst1
                  clear hnx
                  go_wp2_with fail
                  refine hF.out.mono ?_
                  rintro e w6 ⟨rfl, hg6⟩
                  clear hF d0 d1
                  obtain ⟨d0, -⟩ := (hbz.pure (hgq.t hg6)).c 0 rfl
                  have hcq : (allC l)[b.1] = chA l b.1 := by unfold chA; rw [List.getD_eq_getElem?_getD, List.getElem?_eq_getElem hbl, Option.getD_some]
                  obtain ⟨ga, oa, cx, e1, -, -, rfl, hcx⟩ := (hAz.pure (hgq.t hg6)).at_ (by decide) hbl
                  rw [hcq] at hcx
                  have c0 : w6.cell? ⟨ga, oa + b.1 * 7, none⟩ = some (.int .i64 (chA l b.1).v.path) := hcx 0 _ rfl
                  have c1' : w6.cell? ⟨ga, oa + b.1 * 7 + 1, none⟩ = some (.int .i64 (chA l b.1).v.start) := hcx 1 _ rfl
                  have c2 : w6.cell? ⟨ga, oa + b.1 * 7 + 2, none⟩ = some (.bool (chA l b.1).v.back) := hcx 2 _ rfl
                  have c3 : w6.cell? ⟨ga, oa + b.1 * 7 + 3, none⟩ = some (.int .i64 (chA l b.1).a.x) := hcx 3 _ rfl
                  have c4 : w6.cell? ⟨ga, oa + b.1 * 7 + 4, none⟩ = some (.int .i64 (chA l b.1).a.y) := hcx 4 _ rfl
                  have c5 : w6.cell? ⟨ga, oa + b.1 * 7 + 5, none⟩ = some (.int .i64 (chA l b.1).b.x) := hcx 5 _ rfl
                  have c6 : w6.cell? ⟨ga, oa + b.1 * 7 + 6, none⟩ = some (.int .i64 (chA l b.1).b.y) := hcx 6 _ rfl
                  have hLR2 : Hid ((L ++ [(chA l b.1).v]) ++ (bst l (chA l b.1).b (clr S2 i)).1 = R) := by
                    rw [Hid, ← hLR.out, hst1.out, List.append_assoc]; rfl
                  have hb1l : (0 : Int) ≤ (b.1 : Int) ∧ (b.1 : Int) < (LN : Int) := by have := hLN.out; omega
                  subst e1
                  rw [hvp] at c0
                  have hcl := bits_andNotS (show S2 < 64 by have := pow64 hn; omega) (show i < 6 by omega)
                  have hwi := wrap_shl (show i ≤ 6 by omega)
                  have hclt := clr_lt hbit
                  obtain ⟨P2, hP2⟩ : ∃ P2 : Int, P2 = ((2 ^ i : Nat) : Int) := ⟨_, rfl⟩
                  rw [← hP2] at hcl hwi
                  clear hP2 hcx hcq hst1 hpt
                  generalize chA l b.1 = cc at *
                  have hO6 := hO.pure hg6
                  replace hb17 := hb17.pure hg6
                  replace hG2 := hG2.pure hg6
                  have hcv : Hid (cc.v = ⟨(i : Int), cc.v.start, cc.v.back⟩) := by rw [Hid, ← hvp]
                  go_upto_region 36 with fail
                  obtain ⟨w7, hw7⟩ : ∃ x, x = w6.alloc (.cells #[.int .i64 i, .int .i64 cc.v.start, .bool cc.v.back, .int .i64 cc.a.x, .int .i64 cc.a.y, .int .i64 cc.b.x, .int .i64 cc.b.y] 58) := ⟨_, rfl⟩
                  have hTb : Box w7 w6.heap.size 58 [.int .i64 i, .int .i64 cc.v.start, .bool cc.v.back, .int .i64 cc.a.x, .int .i64 cc.a.y, .int .i64 cc.b.x, .int .i64 cc.b.y] := by rw [hw7]; exact Box.new _ _ _
                  have h67 : w6.grownBy w7 none := by rw [hw7]; exact gr_alloc (World.grownBy.refl _ _) _
                  rw [show w6.alloc (.cells #[.int .i64 i, .int .i64 cc.v.start, .bool cc.v.back, .int .i64 cc.a.x, .int .i64 cc.a.y, .int .i64 cc.b.x, .int .i64 cc.b.y] 58) = w7 from hw7.symm]
                  have hx21 : w6.heap.size ≠ x17 := by have := hb17.lt; omega
                  have hOx : ∀ g, blk AO = some g → g ≠ w6.heap.size ∧ g ≠ x17 := fun g e => by
                    have h1 := hO6.blk_lt e
                    exact ⟨by omega, by omega⟩
                  clear hw7 c0 c1' c2 c3 c4 c5 c6 d0
                  generalize w6.heap.size = x21 at *
                  obtain ⟨t0, -⟩ := hTb.c 0 rfl
                  obtain ⟨t1, -⟩ := hTb.c 1 rfl
                  obtain ⟨t2, -⟩ := hTb.c 2 rfl
                  have hO7 := hO6.pure h67
                  replace hb17 := hb17.pure h67
                  replace hG2 := hG2.pure h67
                  have hG2s := hG2.size
                  obtain ⟨i0, hi, hz, h1, h2⟩ := info_parts info_vis
                  have hga := gr_alloc (World.grownBy.refl w7 none) (.cells #[.int .i64 i, .int .i64 cc.v.start, .bool cc.v.back] 43)
                  go_wp2_with (at_builtin; refine wpList_pushAt (α := Vis) _ rfl (.tmp 146) (.tmp 149) _ rfl wc.heap.size 43 i0 _ 24 Tryz.underlying32 hi hz h1 h2 rfl _ _ _ L rfl rfl (by exact hO7.pure (gr_alloc (World.grownBy.refl _ _) _)) 0 ⟨_, 0, none⟩ 1 1 [(⟨(i : Int), cc.v.start, cc.v.back⟩ : Vis)] rfl rfl (by exact sl_oneAt _ 0 [.int .i64 i, .int .i64 cc.v.start, .bool cc.v.back] _ _ _ (by first | rfl | simp) (Nat.zero_le _) rfl) ?c2 ?c3 ?c4 ?_)
                  case c2 => simp; omega
                  case c3 => simp [maxLen]; omega
                  case c4 => simp; omega
                  intro A9 c9 w9 hO9 hG9
                  rw [← hcv.out] at hO9
                  have hTb9 := (hTb.pure hga).gr hG9.1 (fun e => (hOx _ e).1 rfl)
                  have hb179 := (hb17.pure hga).gr hG9.1 (fun e => (hOx _ e).2 rfl)
                  have hG29 := (hG2.pure hga).step hG9.1 (fun x e => .inr (hO7.blk_lt e).1)
                  have hO9x : ∀ g, blk A9 = some g → g ≠ x17 := fun g e => by have := (hO9.blk_lt e).1; omega
                  clear t0 t1 t2 hTb hb17 hG2 hO7 hO6 hO
                  go_upto_region 37 with fail
                  refine wp_region_tree (fun wx => Box wx x21 58 [.int .i64 i, .int .i64 cc.v.start, .bool cc.v.back, .int .i64 cc.a.x, .int .i64 cc.a.y, .int .i64 cc.b.x, .int .i64 cc.b.y]) [2, 1, 2, 2, 2, 1, 2, 2, 0, 2] (.bl 0 (.bl 1 (.bl 2 (.bl 3 (.bl 4 (.bl 5 (.bl 6 (.bl 7 (.ef 8 (.bl 9 .done)))))))))) (by kernel_rfl) (by kernel_rfl) (hTb9.pure (gr_drew (World.grownBy.refl _ _))) ?_
                  obtain ⟨W2, hW2⟩ : ∃ x, x = (w9).drew := ⟨_, rfl⟩
                  rw [← hW2]
                  have hgW2 : (w9).grownBy W2 none := by rw [hW2]; exact gr_drew (World.grownBy.refl _ _)
                  clear hW2
                  refine tree_p rfl rfl rfl rfl _ rfl (by simp) (fun K hK => ?_)
                  apply Exists.intro
                  refine ⟨fun wq K' hK' => ?_, ?_⟩
                  · go_wp2_with fail
                    exact hK'
                  go_simp
                  refine hK _ ?_
                  clear hK K
                  refine tree_b rfl rfl rfl rfl _ rfl (by simp) (fun K hK => ?_)
                  apply Exists.intro
                  refine ⟨fun wq hq K' hK' => ?_, ?_⟩
                  · obtain ⟨t0, -⟩ := hq.c 0 rfl
                    obtain ⟨t5, -⟩ := hq.c 5 rfl
                    obtain ⟨t6, -⟩ := hq.c 6 rfl
                    go_wp2_with fail
                    exact hK'
                  go_simp
                  refine hK _ ?_
                  clear hK K
                  refine tree_p rfl rfl rfl rfl _ rfl (by simp) (fun K hK => ?_)
                  apply Exists.intro
                  refine ⟨fun wq K' hK' => ?_, ?_⟩
                  · go_wp2_with fail
                    exact hK'
                  go_simp
                  refine hK _ ?_
                  clear hK K
                  refine tree_p rfl rfl rfl rfl _ rfl (by simp) (fun K hK => ?_)
                  apply Exists.intro
                  refine ⟨fun wq K' hK' => ?_, ?_⟩
                  · go_wp2_with fail
                    exact hK'
                  go_simp
                  refine hK _ ?_
                  clear hK K
                  refine tree_p rfl rfl rfl rfl _ rfl (by simp) (fun K hK => ?_)
                  apply Exists.intro
                  refine ⟨fun wq K' hK' => ?_, ?_⟩
                  · go_wp2_with fail
                    exact hK'
                  go_simp
                  refine hK _ ?_
                  clear hK K
                  refine tree_b rfl rfl rfl rfl _ rfl (by simp) (fun K hK => ?_)
                  apply Exists.intro
                  refine ⟨fun wq hq K' hK' => ?_, ?_⟩
                  · obtain ⟨t0, -⟩ := hq.c 0 rfl
                    obtain ⟨t5, -⟩ := hq.c 5 rfl
                    obtain ⟨t6, -⟩ := hq.c 6 rfl
                    go_wp2_with fail
                    exact hK'
                  go_simp
                  refine hK _ ?_
                  clear hK K
                  refine tree_p rfl rfl rfl rfl _ rfl (by simp) (fun K hK => ?_)
                  apply Exists.intro
                  refine ⟨fun wq K' hK' => ?_, ?_⟩
                  · go_wp2_with fail
                    exact hK'
                  go_simp
                  refine hK _ ?_
                  clear hK K
                  refine tree_p rfl rfl rfl rfl _ rfl (by simp) (fun K hK => ?_)
                  apply Exists.intro
                  refine ⟨fun wq K' hK' => ?_, ?_⟩
                  · go_wp2_with fail
                    exact hK'
                  go_simp
                  refine hK _ ?_
                  clear hK K
                  refine tree_e rfl rfl (fun K hK => ?_)
                  obtain ⟨o0, u0⟩ := (hb179.pure hgW2).c 0 rfl
                  obtain ⟨o1, u1⟩ := (hb179.pure hgW2).c 1 rfl
                  go_wp2_with fail
                  try go_simp
                  refine hK _ _ (((hTb9.pure hgW2).gr (gr_set (gr_set (World.grownBy.refl W2 (some x17)) (p := ⟨x17, 0, none⟩) (.inl rfl) _) (p := ⟨x17, 1, none⟩) (.inl rfl) _) (fun e => hx21 (Option.some.inj e).symm))) ?_
                  clear hK K
                  refine tree_p rfl rfl rfl rfl _ rfl (by simp) (fun K hK => ?_)
                  apply Exists.intro
                  refine ⟨fun wq K' hK' => ?_, ?_⟩
                  · go_wp2_with fail
                    exact hK'
                  go_simp
                  refine hK _ ?_
                  clear hK K
                  refine tree_done ?_
                  have hb18 := ((hb179.pure hgW2).set_ 0 (.int .i64 cc.b.x) (by simp)).set_ 1 (.int .i64 cc.b.y) (by simp)
                  have hgs : W2.grownBy ((W2.setCell ⟨x17, 0, none⟩ (.int .i64 cc.b.x)).setCell ⟨x17, 1, none⟩ (.int .i64 cc.b.y)) (some x17) := gr_set (gr_set (World.grownBy.refl W2 (some x17)) (p := ⟨x17, 0, none⟩) (.inl rfl) _) (p := ⟨x17, 1, none⟩) (.inl rfl) _
                  have hO10 := (hO9.pure hgW2).ne hgs (fun g e h => hO9x g e (Option.some.inj h).symm)
                  have hG10 := (hG29.pure hgW2).step hgs (fun x e => .inl (Option.some.inj e).symm)
                  go_wp2_with fail
                  (go_roundw; (case rel => exact ⟨clr S2 i, cc.b, L ++ [cc.v], A9, c9, by first | rfl | rw [hcl] | simp [hcl], by simp, hO10, hb18, hnb, by omega, hLR2, hG10⟩); (case measure => simp [intOf]; omega))

end Go.Proofs.YtgcfaamgilbjdaaGreatDoor

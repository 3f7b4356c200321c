/- Contracts of functions that this seat's laws reach, each: what one call returns and what it leaves in memory; no condition beyond each theorem's own hypotheses. -/
import Derived.Test.YtpdhbhlnopmifaaGreatDoorZqFitE
import Derived.Test.YtpdhbhlnopmifaaGreatDoorZqFitF
set_option linter.unusedVariables false
set_option linter.unusedSimpArgs false
namespace Go.Proofs.YtpdhbhlnopmifaaGreatDoor
open Go Go.RowKit Go.Bl Go.Lib

def plaK (s : List Spl) (m : ByteArray) : List ByteArray := (s.filter fun x => decide (x.mat = m)).map (·.key)

def plaL (s : List Spl) (m : ByteArray) : List Int := (s.filter fun x => decide (x.mat = m)).map (·.left)

theorem pla_len (s : List Spl) (m : ByteArray) : (plaK s m).length = (plaL s m).length ∧ (plaL s m).length ≤ s.length := by
  unfold plaK plaL
  rw [List.length_map, List.length_map]
  exact ⟨rfl, List.length_filter_le _ _⟩

theorem plaK_take {s : List Spl} {m : ByteArray} {k : Nat} (h : k < s.length) : plaK (s.take (k + 1)) m = plaK (s.take k) m ++ (if s[k].mat = m then [s[k].key] else []) := by
  unfold plaK
  rw [List.take_succ_eq_append_getElem h, List.filter_append, List.map_append]
  congr 1
  by_cases hm : s[k].mat = m <;> simp [hm]

theorem plaL_take {s : List Spl} {m : ByteArray} {k : Nat} (h : k < s.length) : plaL (s.take (k + 1)) m = plaL (s.take k) m ++ (if s[k].mat = m then [s[k].left] else []) := by
  unfold plaL
  rw [List.take_succ_eq_append_getElem h, List.filter_append, List.map_append]
  congr 1
  by_cases hm : s[k].mat = m <;> simp [hm]

theorem plaL_bd {s : List Spl} {m : ByteArray} (h : splsF s = 0) : ∀ v ∈ plaL s m, 0 ≤ v ∧ v ≤ 1000000000 := fun v hv => by
  unfold plaL at hv
  obtain ⟨x, hx, rfl⟩ := List.mem_map.1 hv
  obtain ⟨k, hk, rfl⟩ := List.getElem_of_mem (List.mem_filter.1 hx).1
  exact ((splsF_zero h).2 k hk).1

theorem info_strG : (Tryz.prog.info? 9).map (fun i => (i.zero, i.size, i.bytes)) = some (some (.string ⟨#[]⟩), 1, 16) := by kernel_rfl

theorem chgF_step {l : List Int} {i many : Nat} {need : Int} (h : i < l.length) : chgF (l.drop i) i need many = if 0 < many ∧ need ≤ l[i] + mostF (l.drop (i + 1)) (many - 1) then i :: chgF (l.drop (i + 1)) (i + 1) (need - l[i]) (many - 1) else chgF (l.drop (i + 1)) (i + 1) need many := by
  rw [List.drop_eq_getElem_cons h]
  rfl
/-- what Changes answers -/
def ChgOk (K : List ByteArray) (L : List Int) (need : Int) (out : List ByteArray) (V : Bool) : Prop :=
  V = decide (need ≤ L.sum) ∧ (V = false → out = []) ∧ (V = true → ∃ I : List Nat, out = I.map (fun i => K.getD i default) ∧ need ≤ (I.map (fun i => L.getD i 0)).sum ∧ (∀ i ∈ I, i < L.length ∧ (I.map (fun i => L.getD i 0)).sum - L.getD i 0 < need) ∧ I.length ≤ L.length)

theorem chgF_len : ∀ (l : List Int) (i : Nat) (need : Int) (many : Nat), (chgF l i need many).length ≤ l.length
  | [], _, _, _ => Nat.le_refl _
  | n :: l, i, need, many => by
    unfold chgF
    split
    · have := chgF_len l (i + 1) (need - n) (many - 1)
      simp only [List.length_cons]
      omega
    · have := chgF_len l (i + 1) need many
      simp only [List.length_cons]
      omega

theorem chg_ok {K : List ByteArray} {L : List Int} {need : Int} {many : Nat} (h0 : ∀ v ∈ L, 0 ≤ v) (hle : ∀ m, m < many → mostF L m < need) (hge : need ≤ mostF L many) : ChgOk K L need ((chgF L 0 need many).map (fun i => K.getD i default)) true := by
  obtain ⟨h1, h2, R, h3⟩ := chgF_ok L 0 need many (fun i => L.getD i 0) h0 (fun k h => by rw [Nat.zero_add, getD_at h]) hge
  refine ⟨?_, (fun h => by cases h), fun _ => ⟨_, rfl, h1, fun i hi => ⟨?_, ?_⟩, chgF_len _ _ _ _⟩⟩
  · rw [decide_eq_true]
    have := mostF_mono (m := many) h0
    omega
  · have := chgF_ge L 0 need many i hi
    omega
  · exact chg_least (x := L.getD i 0) h0 h3 (by rw [List.length_map]; exact h2) hle (List.mem_map.2 ⟨i, hi, rfl⟩)

theorem chg_no {K : List ByteArray} {L : List Int} {need : Int} (h : ∀ m, m ≤ L.length → mostF L m < need) : ChgOk K L need [] false := by
  refine ⟨?_, fun _ => rfl, (fun h => by cases h)⟩
  have := h L.length (Nat.le_refl _)
  rw [mostF_all (Nat.le_refl _)] at this
  rw [decide_eq_false]
  omega

theorem Sl.dropC {α : Type} [Enc α] {w : World} {lo g o : Nat} {l : List α} (h : Sl w lo (some ⟨g, o, none⟩) l) (k : Nat) : Sl w lo (some ⟨g, o + k * Enc.sz α, none⟩) (l.drop k) := by
  obtain ⟨hm, cs, hr, hl⟩ := h
  refine ⟨by rw [List.length_drop]; omega, _, hr.drop k, fun hne => ?_⟩
  obtain ⟨ad, e, hb, hc⟩ := hl (by rintro rfl; simp at hne)
  injection e with e
  subst e
  refine ⟨_, rfl, hb, fun j u hu => ?_⟩
  rw [List.getElem?_drop] at hu
  have := hc _ u hu
  rw [Addr.add_lit] at this ⊢
  rwa [Nat.add_assoc]

set_option maxHeartbeats 8000000 in
set_option maxRecDepth 100000 in
theorem changes_any (P : Option Addr) (pc : Nat) (s : List Spl) (m : ByteArray) (need : Int) (w : World) (hs : Sl w 0 P s) (h0 : splsF s = 0) (hk : keyB m = true) (hnd : 0 ≤ need ∧ need ≤ 1000000000000) :
    Calls Tryz.prog 16 #[.slice P s.length pc, .string m, .int .i64 need] w fun e w' => ∃ (out : List ByteArray) (A : Option Addr) (c : Nat) (V : Bool), e = .returned (.tuple #[.slice A out.length c, .bool V, .int .i64 0]) ∧ Sl w' 0 A out ∧
      ChgOk (plaK s m) (plaL s m) need out V ∧ w.grownBy w' none := by
  have hM := hide (materialOk_any P pc s m w hs h0 hk)
  have hO := outside_any need 0 1000000000000 w
  have hOb : outB need 0 1000000000000 = false := by unfold outB; simp; omega
  have h50 := (splsF_zero h0).1
  have hpb := hide (plaL_bd (m := m) h0)
  have hpl := hide (pla_len s m)
  have hpt := hide fun k => pla_len (s.take k) m
  have hK := hide fun k (h : k < s.length) => plaK_take (m := m) h
  have hL := hide fun k (h : k < s.length) => plaL_take (m := m) h
  have hKz : Hid (plaK (s.take s.length) m = plaK s m) := by rw [Hid, List.take_length]
  have hLz : Hid (plaL (s.take s.length) m = plaL s m) := by rw [Hid, List.take_length]
  have hK0 : Hid (plaK (s.take 0) m = []) := rfl
  have hL0 : Hid (plaL (s.take 0) m = []) := rfl
  replace hs := hide hs
  clear h0 hk hO
  go_enter Tryz.func16, Tryz.ntmps16
  go_wp2_with fail
  refine hM.out.mono ?_
  rintro e w1 ⟨rfl, hg1⟩
  go_wp2_with (go_at_call 38; refine (outside_any _ _ _ _).mono ?_; rintro _ _ ⟨rfl, rfl⟩; rw [hOb])
  go_loopw [10, 11, 28] (fun a b i wr => ∃ (j nT : Nat) (KT : List ByteArray) (LT : List Int) (AK : Option Addr) (cK : Nat) (AL : Option Addr) (cL : Nat), j ≤ s.length ∧ i = .int .i64 j ∧ a = .slice AK nT cK ∧ b = .slice AL nT cL ∧ Hid (KT = plaK (s.take j) m) ∧ Hid (LT = plaL (s.take j) m) ∧ Hid (KT.length = nT) ∧ Hid (LT.length = nT) ∧ nT ≤ 50 ∧
    Own wr w.heap.size 9 AK cK KT ∧ Own wr w.heap.size 3 AL cL LT ∧ w.grownBy wr none) (fun _ _ i _ => s.length - (intOf i).toNat)
  case atStart => exact ⟨0, 0, [], [], none, 0, none, 0, Nat.zero_le _, rfl, rfl, rfl, hK0.out.symm, hL0.out.symm, rfl, rfl, by omega, Own.nil _ _ _, Own.nil _ _ _, hg1⟩
  case round =>
    clear hg1
    obtain ⟨j, nT, KT, LT, AK, cK, AL, cL, hj, rfl, rfl, rfl, hKT, hLT, hKn, hLn, hnT, oK, oL, hgr⟩ := hrel
    by_cases hjs : j < s.length
    · obtain ⟨g, o, cx, rfl, -, -, rfl, hc⟩ := ((hs.out.pure hgr)).at_ (by decide) hjs
      have c0 : wr.cell? ⟨g, o + j * 3, none⟩ = some (.string s[j].key) := hc 0 _ rfl
      have c1 : wr.cell? ⟨g, o + j * 3 + 1, none⟩ = some (.string s[j].mat) := hc 1 _ rfl
      have c2 : wr.cell? ⟨g, o + j * 3 + 2, none⟩ = some (.int .i64 s[j].left) := hc 2 _ rfl
      clear hc
      have hKn1 := hK.out j hjs
      have hLn1 := hL.out j hjs
      rw [← hKT.out] at hKn1
      rw [← hLT.out] at hLn1
      have hnb : Hid (∀ KT', plaK (s.take (j + 1)) m = KT' → KT'.length ≤ 50) := fun KT' e => by
        have h1 := hpt.out (j + 1)
        rw [List.length_take] at h1
        rw [← e]
        omega
      generalize s[j] = y at *
      go_upto_region 11 with fail
      obtain ⟨w13, hw13⟩ : ∃ x, x = (wr).alloc (.cells [.string y.key, .string y.mat, .int .i64 y.left].toArray 38) := ⟨_, rfl⟩
      have hg13 : (wr).grownBy w13 none := by rw [hw13]; exact gr_alloc (World.grownBy.refl _ _) _
      have hb13 : Box w13 (wr).heap.size 38 [.string y.key, .string y.mat, .int .i64 y.left] := by rw [hw13]; exact Box.new _ _ _
      have hxs13 := hb13.lt
      rw [← hw13]
      clear hw13
      obtain ⟨x13, hx13⟩ : ∃ x, x = (wr).heap.size := ⟨_, rfl⟩
      rw [← hx13] at hb13 hxs13 ⊢
      have hxl13 : (wr).heap.size ≤ x13 := by omega
      clear hx13
      have oK2 := oK.pure hg13
      have oL2 := oL.pure hg13
      have hg2 := hgr.t hg13
      have hsz2 := hg2.size
      clear c0 c1 c2 oK oL hgr hg13 hKT hLT
      obtain ⟨p1, -⟩ := hb13.c 1 rfl
      by_cases hmt : y.mat = m
      · have hq : (y.mat.toList == m.toList) = true := by simp [hmt]
        rw [if_pos hmt] at hKn1 hLn1
        have hl1 : Hid ((KT ++ [y.key]).length = nT + 1) := by rw [Hid, List.length_append, hKn.out]; rfl
        have hl2 : Hid ((LT ++ [y.left]).length = nT + 1) := by rw [Hid, List.length_append, hLn.out]; rfl
        have hn51 : nT + 1 ≤ 50 := by have := hnb.out _ hKn1; rw [hl1.out] at this; exact this
        replace hKn1 := hide hKn1
        replace hLn1 := hide hLn1
        obtain ⟨i0, hi, hz9, h1, h2⟩ := info_parts info_int
        obtain ⟨j0, hi', hz9', h1', h2'⟩ := info_parts info_strG
        replace hi := hide hi
        replace hz9 := hide hz9
        replace h1 := hide h1
        replace h2 := hide h2
        replace hi' := hide hi'
        replace hz9' := hide hz9'
        replace h1' := hide h1'
        replace h2' := hide h2'
        go_upto_region 12 with fail
        clear p1 hq hmt
        refine wp_region_tree (fun wx => Box wx x13 38 [.string y.key, .string y.mat, .int .i64 y.left]) [2, 2, 1, 0, 0, 2, 2, 1, 0, 0, 2, 2] (.bl 0 (.bl 1 (.bl 2 (.bl 5 (.bl 6 (.bl 7 (.alt (.ef 3 (.alt (.ef 4 (.ef 8 (.ef 9 (.bl 10 (.bl 11 .done))))) (.ef 8 (.ef 4 (.ef 9 (.bl 10 (.bl 11 .done))))))) (.ef 8 (.ef 3 (.ef 4 (.ef 9 (.bl 10 (.bl 11 .done))))))))))))) (by kernel_rfl) (by kernel_rfl) (hb13.pure (gr_drew (World.grownBy.refl _ _))) ?_
        obtain ⟨u0, hu0⟩ : ∃ x, x = (w13).drew := ⟨_, rfl⟩
        rw [← hu0]
        have hgu0 : (w13).grownBy u0 none := by rw [hu0]; exact gr_drew (World.grownBy.refl _ _)
        clear hu0
        have p1 := oK2.pure hgu0
        have p2 := oL2.pure hgu0
        have q1 := hb13.pure hgu0
        have g1 := hg2.t hgu0
        have hA1u : ∀ g, blk AK = some g → g < u0.heap.size := fun g hg => (p1.blk_lt hg).2
        clear oK2 oL2
        refine tree_p rfl rfl rfl rfl _ rfl (by simp) (fun K hK => ?_)
        apply Exists.intro
        refine ⟨fun wq K' hK' => ?_, ?_⟩
        · go_wp2_with fail
          exact hK'
        go_simp
        refine hK _ ?_
        clear hK K
        refine tree_p rfl rfl rfl rfl _ rfl (by simp) (fun K hK => ?_)
        apply Exists.intro
        refine ⟨fun wq K' hK' => ?_, ?_⟩
        · go_wp2_with fail
          exact hK'
        go_simp
        refine hK _ ?_
        clear hK K
        refine tree_b rfl rfl rfl rfl _ rfl (by simp) (fun K hK => ?_)
        apply Exists.intro
        refine ⟨fun wq hq K' hK' => ?_, ?_⟩
        · obtain ⟨d0, -⟩ := hq.c 0 rfl
          obtain ⟨d2, -⟩ := hq.c 2 rfl
          go_wp2_with fail
          exact hK'
        go_simp
        refine hK _ ?_
        clear hK K
        refine tree_p rfl rfl rfl rfl _ rfl (by simp) (fun K hK => ?_)
        apply Exists.intro
        refine ⟨fun wq K' hK' => ?_, ?_⟩
        · go_wp2_with fail
          exact hK'
        go_simp
        refine hK _ ?_
        clear hK K
        refine tree_p rfl rfl rfl rfl _ rfl (by simp) (fun K hK => ?_)
        apply Exists.intro
        refine ⟨fun wq K' hK' => ?_, ?_⟩
        · go_wp2_with fail
          exact hK'
        go_simp
        refine hK _ ?_
        clear hK K
        refine tree_b rfl rfl rfl rfl _ rfl (by simp) (fun K hK => ?_)
        apply Exists.intro
        refine ⟨fun wq hq K' hK' => ?_, ?_⟩
        · obtain ⟨d0, -⟩ := hq.c 0 rfl
          obtain ⟨d2, -⟩ := hq.c 2 rfl
          go_wp2_with fail
          exact hK'
        go_simp
        refine hK _ ?_
        clear hK K
        refine tree_alt ?_ ?_
        · refine tree_e rfl rfl (fun K hK => ?_)
          go_wp2_with fail
          try go_simp
          refine hK _ _ (q1.pure (gr_alloc (World.grownBy.refl _ _) _)) ?_
          clear hK K
          obtain ⟨u3, hu3⟩ : ∃ x, x = (u0).alloc (.cells #[.string y.key] 9) := ⟨_, rfl⟩
          have hg3 : (u0).grownBy u3 none := by rw [hu3]; exact gr_alloc (World.grownBy.refl _ _) _
          have hS3 : Sl u3 0 (some ⟨(u0).heap.size, 0, none⟩) [y.key] := by rw [hu3]; exact sl_oneAt _ 0 [.string y.key] _ _ _ rfl (Nat.zero_le _) rfl
          rw [← hu3]
          clear hu3
          replace p1 := p1.pure hg3
          replace p2 := p2.pure hg3
          replace q1 := q1.pure hg3
          replace g1 := g1.t hg3
          have hsz3 := hg3.size
          clear hg3
          refine tree_alt ?_ ?_
          · refine tree_e rfl rfl (fun K hK => ?_)
            refine wp_pushAt (α := ByteArray) _ (.tmp 36) (.tmp 39) _ rfl w.heap.size 9 j0 _ 16 Tryz.underlying53 hi'.out hz9'.out h1'.out h2'.out rfl _ _ _ KT rfl hKn.out.symm (by exact p1) 0 ⟨_, 0, none⟩ 1 1 [y.key] rfl rfl (by exact hS3) ?c2 ?c3 ?c4 ?_
            case c2 => have h1 := hKn.out; rw [h1]; simp; omega
            case c3 => have h1 := hKn.out; rw [h1]; simp [maxLen]; omega
            case c4 => exact g1.size
            intro A5 c5 u4 r1 hG4
            rw [hl1.out]
            simp only [Act.put, List.setIfInBounds_toArray, List.set_cons_zero, List.set_cons_succ]
            try go_simp
            refine hK _ _ (q1.gr hG4.1 (q1.ne_own p1 (by decide))) ?_
            clear hK K
            replace q1 := q1.gr hG4.1 (q1.ne_own p1 (by decide))
            replace p2 := p2.ne hG4.1 (fun g e h => p1.ne_own p2 (by decide) h e)
            replace g1 := gr_row g1 hG4.1 (fun x e => (p1.blk_lt e).1)
            have hsz4 := hG4.1.size
            clear hG4 p1 hS3
            refine tree_e rfl rfl (fun K hK => ?_)
            go_wp2_with fail
            try go_simp
            refine hK _ _ (q1.pure (gr_alloc (World.grownBy.refl _ _) _)) ?_
            clear hK K
            obtain ⟨u8, hu8⟩ : ∃ x, x = (u4).alloc (.cells #[.int .i64 y.left] 3) := ⟨_, rfl⟩
            have hg8 : (u4).grownBy u8 none := by rw [hu8]; exact gr_alloc (World.grownBy.refl _ _) _
            obtain ⟨z8, hz8⟩ : ∃ z, z = (u4).heap.size := ⟨_, rfl⟩
            have hS8 : Sl u8 z8 (some ⟨z8, 0, none⟩) [y.left] := by rw [hu8, hz8]; exact sl_intsAt _ _ _ _ _ rfl (Nat.le_refl _) (by simp [maxLen])
            rw [← hu8, ← hz8]
            have hzu : u0.heap.size ≤ z8 := by rw [hz8]; omega
            clear hu8 hz8
            replace q1 := q1.pure hg8
            replace r1 := r1.pure hg8
            replace p2 := p2.pure hg8
            replace g1 := g1.t hg8
            have hsz8 := hg8.size
            clear hg8
            refine tree_e0 (by kernel_rfl) rfl rfl (fun K hK => ?_)
            refine wp_pushAt (α := Int) _ (.tmp 41) (.tmp 44) _ rfl w.heap.size 3 i0 _ 8 Tryz.underlying22 hi.out hz9.out h1.out h2.out rfl _ _ _ LT rfl hLn.out.symm (by exact p2) _ ⟨_, 0, none⟩ 1 1 [y.left] rfl rfl (by exact hS8) ?c2 ?c3 ?c4 ?_
            case c2 => have h1 := hLn.out; rw [h1]; simp; omega
            case c3 => have h1 := hLn.out; rw [h1]; simp [maxLen]; omega
            case c4 => exact g1.size
            intro A6 c6 u9 r2 hG9
            rw [hl2.out]
            simp only [Act.put, List.setIfInBounds_toArray, List.set_cons_zero, List.set_cons_succ]
            try go_simp
            refine hK _ _ trivial ?_
            clear hK K
            refine tree_p rfl rfl rfl rfl _ rfl (by simp) (fun K hK => ?_)
            apply Exists.intro
            refine ⟨fun wq K' hK' => ?_, ?_⟩
            · go_wp2_with fail
              exact hK'
            go_simp
            refine hK _ ?_
            clear hK K
            refine tree_p rfl rfl rfl rfl _ rfl (by simp) (fun K hK => ?_)
            apply Exists.intro
            refine ⟨fun wq K' hK' => ?_, ?_⟩
            · go_wp2_with fail
              exact hK'
            go_simp
            refine hK _ ?_
            clear hK K
            refine tree_done ?_
            have r9 := r1.ne hG9.1 (fun g e h => p2.ne_own r1 (by decide) h e)
            have g9 := gr_row g1 hG9.1 (fun x e => (p2.blk_lt e).1)
            clear p2 g1 r1 hG9 hS8 q1
            go_wp2_with fail
            (go_roundw; (case rel => exact ⟨j + 1, nT + 1, KT ++ [y.key], LT ++ [y.left], A5, c5, A6, c6, by omega, by go_num, rfl, rfl, hKn1.out.symm, hLn1.out.symm, hl1, hl2, hn51, r9, r2, g9⟩); (case measure => simp [intOf]; omega))
          · refine tree_e rfl rfl (fun K hK => ?_)
            go_wp2_with fail
            try go_simp
            refine hK _ _ (q1.pure (gr_alloc (World.grownBy.refl _ _) _)) ?_
            clear hK K
            obtain ⟨u8, hu8⟩ : ∃ x, x = (u3).alloc (.cells #[.int .i64 y.left] 3) := ⟨_, rfl⟩
            have hg8 : (u3).grownBy u8 none := by rw [hu8]; exact gr_alloc (World.grownBy.refl _ _) _
            obtain ⟨z8, hz8⟩ : ∃ z, z = (u3).heap.size := ⟨_, rfl⟩
            have hS8 : Sl u8 z8 (some ⟨z8, 0, none⟩) [y.left] := by rw [hu8, hz8]; exact sl_intsAt _ _ _ _ _ rfl (Nat.le_refl _) (by simp [maxLen])
            rw [← hu8, ← hz8]
            have hzu : u0.heap.size ≤ z8 := by rw [hz8]; omega
            clear hu8 hz8
            replace q1 := q1.pure hg8
            replace p1 := p1.pure hg8
            replace p2 := p2.pure hg8
            replace g1 := g1.t hg8
            replace hS3 := hS3.pure hg8
            have hsz8 := hg8.size
            clear hg8
            refine tree_e rfl rfl (fun K hK => ?_)
            refine wp_pushAt (α := ByteArray) _ (.tmp 36) (.tmp 39) _ rfl w.heap.size 9 j0 _ 16 Tryz.underlying53 hi'.out hz9'.out h1'.out h2'.out rfl _ _ _ KT rfl hKn.out.symm (by exact p1) 0 ⟨_, 0, none⟩ 1 1 [y.key] rfl rfl (by exact hS3) ?c2 ?c3 ?c4 ?_
            case c2 => have h1 := hKn.out; rw [h1]; simp; omega
            case c3 => have h1 := hKn.out; rw [h1]; simp [maxLen]; omega
            case c4 => exact g1.size
            intro A5 c5 u4 r1 hG4
            rw [hl1.out]
            simp only [Act.put, List.setIfInBounds_toArray, List.set_cons_zero, List.set_cons_succ]
            try go_simp
            refine hK _ _ (q1.gr hG4.1 (q1.ne_own p1 (by decide))) ?_
            clear hK K
            replace q1 := q1.gr hG4.1 (q1.ne_own p1 (by decide))
            replace p2 := p2.ne hG4.1 (fun g e h => p1.ne_own p2 (by decide) h e)
            replace g1 := gr_row g1 hG4.1 (fun x e => (p1.blk_lt e).1)
            replace hS8 := hS8.gr hG4.1 (fun x e => by have := hA1u _ e; omega)
            have hsz4 := hG4.1.size
            clear hG4 p1 hS3
            refine tree_e0 (by kernel_rfl) rfl rfl (fun K hK => ?_)
            refine wp_pushAt (α := Int) _ (.tmp 41) (.tmp 44) _ rfl w.heap.size 3 i0 _ 8 Tryz.underlying22 hi.out hz9.out h1.out h2.out rfl _ _ _ LT rfl hLn.out.symm (by exact p2) _ ⟨_, 0, none⟩ 1 1 [y.left] rfl rfl (by exact hS8) ?c2 ?c3 ?c4 ?_
            case c2 => have h1 := hLn.out; rw [h1]; simp; omega
            case c3 => have h1 := hLn.out; rw [h1]; simp [maxLen]; omega
            case c4 => exact g1.size
            intro A6 c6 u9 r2 hG9
            rw [hl2.out]
            simp only [Act.put, List.setIfInBounds_toArray, List.set_cons_zero, List.set_cons_succ]
            try go_simp
            refine hK _ _ trivial ?_
            clear hK K
            refine tree_p rfl rfl rfl rfl _ rfl (by simp) (fun K hK => ?_)
            apply Exists.intro
            refine ⟨fun wq K' hK' => ?_, ?_⟩
            · go_wp2_with fail
              exact hK'
            go_simp
            refine hK _ ?_
            clear hK K
            refine tree_p rfl rfl rfl rfl _ rfl (by simp) (fun K hK => ?_)
            apply Exists.intro
            refine ⟨fun wq K' hK' => ?_, ?_⟩
            · go_wp2_with fail
              exact hK'
            go_simp
            refine hK _ ?_
            clear hK K
            refine tree_done ?_
            have r9 := r1.ne hG9.1 (fun g e h => p2.ne_own r1 (by decide) h e)
            have g9 := gr_row g1 hG9.1 (fun x e => (p2.blk_lt e).1)
            clear p2 g1 r1 hG9 hS8 q1
            go_wp2_with fail
            (go_roundw; (case rel => exact ⟨j + 1, nT + 1, KT ++ [y.key], LT ++ [y.left], A5, c5, A6, c6, by omega, by go_num, rfl, rfl, hKn1.out.symm, hLn1.out.symm, hl1, hl2, hn51, r9, r2, g9⟩); (case measure => simp [intOf]; omega))
        · refine tree_e rfl rfl (fun K hK => ?_)
          go_wp2_with fail
          try go_simp
          refine hK _ _ (q1.pure (gr_alloc (World.grownBy.refl _ _) _)) ?_
          clear hK K
          obtain ⟨u8, hu8⟩ : ∃ x, x = (u0).alloc (.cells #[.int .i64 y.left] 3) := ⟨_, rfl⟩
          have hg8 : (u0).grownBy u8 none := by rw [hu8]; exact gr_alloc (World.grownBy.refl _ _) _
          obtain ⟨z8, hz8⟩ : ∃ z, z = (u0).heap.size := ⟨_, rfl⟩
          have hS8 : Sl u8 z8 (some ⟨z8, 0, none⟩) [y.left] := by rw [hu8, hz8]; exact sl_intsAt _ _ _ _ _ rfl (Nat.le_refl _) (by simp [maxLen])
          rw [← hu8, ← hz8]
          have hzu : u0.heap.size ≤ z8 := by rw [hz8]; omega
          clear hu8 hz8
          replace q1 := q1.pure hg8
          replace p1 := p1.pure hg8
          replace p2 := p2.pure hg8
          replace g1 := g1.t hg8
          have hsz8 := hg8.size
          clear hg8
          refine tree_e rfl rfl (fun K hK => ?_)
          go_wp2_with fail
          try go_simp
          refine hK _ _ (q1.pure (gr_alloc (World.grownBy.refl _ _) _)) ?_
          clear hK K
          obtain ⟨u3, hu3⟩ : ∃ x, x = (u8).alloc (.cells #[.string y.key] 9) := ⟨_, rfl⟩
          have hg3 : (u8).grownBy u3 none := by rw [hu3]; exact gr_alloc (World.grownBy.refl _ _) _
          have hS3 : Sl u3 0 (some ⟨(u8).heap.size, 0, none⟩) [y.key] := by rw [hu3]; exact sl_oneAt _ 0 [.string y.key] _ _ _ rfl (Nat.zero_le _) rfl
          rw [← hu3]
          clear hu3
          replace p1 := p1.pure hg3
          replace p2 := p2.pure hg3
          replace q1 := q1.pure hg3
          replace g1 := g1.t hg3
          replace hS8 := hS8.pure hg3
          have hsz3 := hg3.size
          clear hg3
          refine tree_e rfl rfl (fun K hK => ?_)
          refine wp_pushAt (α := ByteArray) _ (.tmp 36) (.tmp 39) _ rfl w.heap.size 9 j0 _ 16 Tryz.underlying53 hi'.out hz9'.out h1'.out h2'.out rfl _ _ _ KT rfl hKn.out.symm (by exact p1) 0 ⟨_, 0, none⟩ 1 1 [y.key] rfl rfl (by exact hS3) ?c2 ?c3 ?c4 ?_
          case c2 => have h1 := hKn.out; rw [h1]; simp; omega
          case c3 => have h1 := hKn.out; rw [h1]; simp [maxLen]; omega
          case c4 => exact g1.size
          intro A5 c5 u4 r1 hG4
          rw [hl1.out]
          simp only [Act.put, List.setIfInBounds_toArray, List.set_cons_zero, List.set_cons_succ]
          try go_simp
          refine hK _ _ (q1.gr hG4.1 (q1.ne_own p1 (by decide))) ?_
          clear hK K
          replace q1 := q1.gr hG4.1 (q1.ne_own p1 (by decide))
          replace p2 := p2.ne hG4.1 (fun g e h => p1.ne_own p2 (by decide) h e)
          replace g1 := gr_row g1 hG4.1 (fun x e => (p1.blk_lt e).1)
          replace hS8 := hS8.gr hG4.1 (fun x e => by have := hA1u _ e; omega)
          have hsz4 := hG4.1.size
          clear hG4 p1 hS3
          refine tree_e0 (by kernel_rfl) rfl rfl (fun K hK => ?_)
          refine wp_pushAt (α := Int) _ (.tmp 41) (.tmp 44) _ rfl w.heap.size 3 i0 _ 8 Tryz.underlying22 hi.out hz9.out h1.out h2.out rfl _ _ _ LT rfl hLn.out.symm (by exact p2) _ ⟨_, 0, none⟩ 1 1 [y.left] rfl rfl (by exact hS8) ?c2 ?c3 ?c4 ?_
          case c2 => have h1 := hLn.out; rw [h1]; simp; omega
          case c3 => have h1 := hLn.out; rw [h1]; simp [maxLen]; omega
          case c4 => exact g1.size
          intro A6 c6 u9 r2 hG9
          rw [hl2.out]
          simp only [Act.put, List.setIfInBounds_toArray, List.set_cons_zero, List.set_cons_succ]
          try go_simp
          refine hK _ _ trivial ?_
          clear hK K
          refine tree_p rfl rfl rfl rfl _ rfl (by simp) (fun K hK => ?_)
          apply Exists.intro
          refine ⟨fun wq K' hK' => ?_, ?_⟩
          · go_wp2_with fail
            exact hK'
          go_simp
          refine hK _ ?_
          clear hK K
          refine tree_p rfl rfl rfl rfl _ rfl (by simp) (fun K hK => ?_)
          apply Exists.intro
          refine ⟨fun wq K' hK' => ?_, ?_⟩
          · go_wp2_with fail
            exact hK'
          go_simp
          refine hK _ ?_
          clear hK K
          refine tree_done ?_
          have r9 := r1.ne hG9.1 (fun g e h => p2.ne_own r1 (by decide) h e)
          have g9 := gr_row g1 hG9.1 (fun x e => (p2.blk_lt e).1)
          clear p2 g1 r1 hG9 hS8 q1
          go_wp2_with fail
          (go_roundw; (case rel => exact ⟨j + 1, nT + 1, KT ++ [y.key], LT ++ [y.left], A5, c5, A6, c6, by omega, by go_num, rfl, rfl, hKn1.out.symm, hLn1.out.symm, hl1, hl2, hn51, r9, r2, g9⟩); (case measure => simp [intOf]; omega))
      · have hq : (y.mat.toList == m.toList) = false := by
          rw [beq_eq_false_iff_ne]; intro e; rw [Lib.toList_data, Lib.toList_data] at e
          exact hmt (by cases hf : y.mat; cases m; rw [hf] at e; simp only [ByteArray.mk.injEq]; exact Array.toList_inj.1 e)
        rw [if_neg hmt, List.append_nil] at hKn1 hLn1
        replace hKn1 := hide hKn1
        replace hLn1 := hide hLn1
        clear hmt hb13
        go_wp2_with fail
        (go_roundw; (case rel => exact ⟨j + 1, nT, KT, LT, AK, cK, AL, cL, by omega, by go_num, rfl, rfl, hKn1.out.symm, hLn1.out.symm, hKn, hLn, hnT, oK2, oL2, hg2⟩); (case measure => simp [intOf]; omega))
    · have hj2 : j = s.length := by omega
      subst hj2
      have eK : KT = plaK s m := hKT.out.trans hKz.out
      have eL : LT = plaL s m := hLT.out.trans hLz.out
      rw [← eL] at hpb
      have hfin := hide fun out V (h : ChgOk KT LT need out V) => (show ChgOk (plaK s m) (plaL s m) need out V by rw [← eK, ← eL]; exact h)
      have hp0 := hide fun v (h : v ∈ LT) => (hpb.out v h).1
      clear hKT hLT hKz hLz eK eL hK hL hK0 hL0 hpl hpt hs hM
      have hMo := hide fun (wx : World) (h : wr.grownBy wx none) (c : Nat) (hc : c ≤ 1000) => most_any AL cL LT c wx ((oL.sl.mono (Nat.zero_le _)).pure h) (by rw [hLn.out]; omega) hc hpb.out
      rw [hLn.out] at hMo
      obtain ⟨w9, hw9⟩ : ∃ y, y = wr := ⟨_, rfl⟩
      rw [← hw9] at hMo oK oL hgr ⊢
      clear hw9
      have hsK := oK.sl.mono (Nat.zero_le _)
      have hsL := oL.sl.mono (Nat.zero_le _)
      have hgw9 := hgr
      have hcL := oL.cap
      rw [hLn.out] at hcL
      clear oK oL
      go_wp2_with fail
      go_loopw [14] (fun a wr => ∃ c : Nat, c ≤ nT ∧ a = .int .i64 c ∧ w9.grownBy wr none ∧ Hid (∀ m', m' < c → mostF LT m' < need)) (fun a _ => nT + 1 - (intOf a).toNat)
      case atStart => exact ⟨0, Nat.zero_le _, rfl, World.grownBy.refl _ _, fun m' h => by omega⟩
      case round =>
        obtain ⟨c, hc, rfl, hgr2, hno⟩ := hrel
        have hMc := hide (hMo.out wr hgr2 c (by omega))
        obtain ⟨V, hV⟩ : ∃ V, V = mostF LT c := ⟨_, rfl⟩
        rw [← hV] at hMc
        by_cases hlt : V < need
        · have hb : decide (V < need) = true := by simp [hlt]
          have hno2 : Hid (∀ m', m' < c + 1 → mostF LT m' < need) := fun m' h => by
            by_cases e : m' = c
            · rw [e, ← hV]; exact hlt
            · exact hno.out m' (by omega)
          clear hV hlt hno
          go_wp2_with fail
          refine hMc.out.mono ?_
          rintro e w5 ⟨rfl, hg5⟩
          by_cases hcn : c + 1 ≤ nT
          · have hb2 : decide (((c : Int) + 1) > (nT : Int)) = false := by simp; omega
            go_wp2_with fail
            (go_roundw; (case rel => exact ⟨c + 1, hcn, by go_num, hgr2.t hg5, hno2⟩); (case measure => simp [intOf]; omega))
          · have hb2 : decide (((c : Int) + 1) > (nT : Int)) = true := by simp; omega
            have hF := hide (hfin.out [] false (chg_no fun m' h => hno2.out m' (by rw [hLn.out] at h; omega)))
            go_wp2_with fail
            exact bodyPost_ret (v := .tuple #[.slice none 0 0, .bool false, .int .i64 0]) (by simp [results, Tryz.results16, go_sem]) rfl ⟨[], none, 0, false, rfl, Sl.nil, hF.out, hgr.t (hgr2.t hg5)⟩
        · have hb : decide (V < need) = false := by simp; omega
          have hok := hide (hfin.out _ true (chg_ok (K := KT) (many := c) hp0.out hno.out (by rw [← hV]; omega)))
          have hcl : Hid ((chgF LT 0 need c).length ≤ c) := (chgF_ok LT 0 need c (fun i => LT.getD i 0) hp0.out (fun k h => by rw [Nat.zero_add, getD_at h]) (by rw [← hV]; omega)).2.1
          obtain ⟨I0, hI0⟩ : ∃ I0, I0 = chgF LT 0 need c := ⟨_, rfl⟩
          rw [← hI0] at hok hcl
          clear hV hlt hno
          go_wp2_with fail
          refine hMc.out.mono ?_
          rintro e w5 ⟨rfl, hg5⟩
          have hg25 := hgr2.t hg5
          clear hMc hg5 hgr2 hMo
          have hcapL := hcL
          go_wp2_with fail
          go_loopw [2, 14, 15, 60] (fun nd mn o i wr => ∃ (q mi : Nat) (ni : Int) (Ia : List Nat) (A5 : Option Addr) (c5 : Nat), q ≤ nT ∧ i = .int .i64 q ∧ nd = .int .i64 ni ∧ mn = .int .i64 mi ∧ Hid (I0 = Ia ++ chgF (LT.drop q) q ni mi) ∧ o = .slice A5 Ia.length c5 ∧
            Own wr w5.heap.size 9 A5 c5 (Ia.map (fun i => KT.getD i default)) ∧ mi ≤ 1000 ∧ Ia.length ≤ q ∧ (-(1000000000 * (q : Int)) ≤ ni ∧ ni ≤ 1000000000000) ∧ w5.grownBy wr none) (fun _ _ _ i _ => nT - (intOf i).toNat)
          case atStart => exact ⟨0, c, need, [], none, 0, Nat.zero_le _, rfl, rfl, rfl, by rw [Hid, List.nil_append, List.drop_zero]; exact hI0, rfl, Own.nil _ _ _, by omega, Nat.zero_le _, by omega, World.grownBy.refl _ _⟩
          case round =>
            clear hI0
            obtain ⟨q, mi, ni, Ia, A5, c5, hq, rfl, rfl, rfl, hI, rfl, oO, hmi, hIl, hni, hgr⟩ := hrel
            by_cases hqn : q < nT
            · have hqL : q < LT.length := by rw [hLn.out]; exact hqn
              have hqK : q < KT.length := by rw [hKn.out]; exact hqn
              obtain ⟨gL, oL, cx, rfl, -, -, rfl, hc⟩ := (hsL.pure (hg25.t hgr)).at_ (by decide) hqL
              have l0 : wr.cell? ⟨gL, oL + q, none⟩ = some (.int .i64 LT[q]) := by
                have h1 := hc 0 _ rfl
                rwa [show Enc.sz Int = 1 from rfl, Nat.mul_one] at h1
              clear hc
              obtain ⟨gK, oK, cx, rfl, -, -, rfl, hc⟩ := (hsK.pure (hg25.t hgr)).at_ (by decide) hqK
              have k0 : wr.cell? ⟨gK, oK + q, none⟩ = some (.string KT[q]) := by
                have h1 := hc 0 _ rfl
                rwa [show Enc.sz ByteArray = 1 from rfl, Nat.mul_one] at h1
              clear hc
              have hst := hI.out
              rw [chgF_step hqL] at hst
              have hvb := hpb.out _ (List.getElem_mem hqL)
              have hdr := Sl.dropC (hsL.pure (hg25.t hgr)) (q + 1)
              rw [show Enc.sz Int = 1 from rfl, Nat.mul_one] at hdr
              have hdl : Hid ((LT.drop (q + 1)).length = nT - (q + 1)) := by rw [Hid, List.length_drop, hLn.out]
              have hMd := hide fun (A : Option Addr) (cc : Nat) (hA : A = some ⟨gL, oL + (q + 1), none⟩ ∨ cL = q + 1) => most_any A cc (LT.drop (q + 1)) (mi - 1) wr (by
                rcases hA with rfl | h
                · exact hdr
                · rw [List.drop_of_length_le (by rw [hLn.out]; omega)]
                  exact Sl.nil) (by rw [hdl.out]; omega) (by omega) (fun v hv => hpb.out v (List.mem_of_mem_drop hv))
              rw [hdl.out] at hMd
              have hV2b : Hid (0 ≤ mostF (LT.drop (q + 1)) (mi - 1) ∧ mostF (LT.drop (q + 1)) (mi - 1) ≤ 50000000000) := by
                have h1 := mostF_mono (l := LT.drop (q + 1)) (m := mi - 1) (fun v hv => hp0.out v (List.mem_of_mem_drop hv))
                have h2 := sum_bd (l := LT.drop (q + 1)) (M := 1000000000) (fun v hv => hpb.out v (List.mem_of_mem_drop hv)) (by omega)
                have h3 := sum_bd (l := (srtD (LT.drop (q + 1))).take (mi - 1)) (M := 1000000000) (fun v hv => hpb.out v (List.mem_of_mem_drop ((srtD_perm _).mem_iff.1 (List.mem_of_mem_take hv)))) (by omega)
                have h4 : ((LT.drop (q + 1)).length : Int) ≤ 50 := by rw [hdl.out]; omega
                refine ⟨h3.1, ?_⟩
                omega
              have hgd : Hid (KT.getD q default = KT[q]) := by simp [Hid, List.getD, hqK]
              generalize LT[q] = v at *
              generalize KT[q] = ky at *
              replace hst := hide hst
              clear hI hdr
              by_cases hmp : 0 < mi
              · have hb1 : decide (0 < mi) = true := by simp [hmp]
                rw [show ((mi - 1 : Nat) : Int) = (mi : Int) - 1 by omega] at hMd
                obtain ⟨V2, hV2⟩ : ∃ V2, V2 = mostF (LT.drop (q + 1)) (mi - 1) := ⟨_, rfl⟩
                rw [← hV2] at hMd hst hV2b
                have hVb := hV2b.out
                have hs51 := hgr.size
                clear hV2 hV2b
                by_cases hce : cL = q + 1
                · have hch := hide hce
                  go_wp2_with fail
                  clear hce
                  refine (hMd.out _ _ (.inr hch.out)).mono ?_
                  rintro e w6 ⟨rfl, hg6⟩
                  have oO6 := oO.pure hg6
                  have hgz := hgr.t hg6
                  have k6 := hg6.k k0
                  have hsz6 := hg6.size
                  clear hMd oO hgr k0 hg6
                  by_cases hge : ni ≤ v + V2
                  · have hb3 : decide (v + V2 ≥ ni) = true := by simp; omega
                    have hst2 : Hid (I0 = (Ia ++ [q]) ++ chgF (LT.drop (q + 1)) (q + 1) (ni - v) (mi - 1)) := by
                      have h1 := hst.out
                      rw [if_pos ⟨hmp, hge⟩] at h1
                      rw [Hid, h1, List.append_assoc]
                      rfl
                    obtain ⟨OUT, hOUT⟩ : ∃ OUT, OUT = Ia.map (fun i => KT.getD i default) := ⟨_, rfl⟩
                    have hlo : Hid (Ia.length = OUT.length) := by rw [Hid, hOUT, List.length_map]
                    have hOn : Hid (OUT ++ [ky] = (Ia ++ [q]).map (fun i => KT.getD i default)) := by
                      rw [Hid, List.map_append, ← hOUT, List.map_singleton, hgd.out]
                    have hl9 : Hid ((OUT ++ [ky]).length = (Ia ++ [q]).length) := by rw [Hid, List.length_append, List.length_append, hlo.out]; rfl
                    have hl8 : Hid ((Ia ++ [q]).length = Ia.length + 1) := by simp [Hid]
                    rw [← hOUT] at oO6
                    obtain ⟨j0, hi', hz9', h1', h2'⟩ := info_parts info_strG
                    clear hst hge hOUT
                    go_wp2_with (at_builtin; refine wpList_pushAt (α := ByteArray) _ rfl (.tmp 80) (.tmp 85) _ rfl w5.heap.size 9 j0 _ 16 Tryz.underlying53 hi' hz9' h1' h2' rfl _ _ _ OUT rfl ?c1 (by exact oO6.pure (gr_alloc (World.grownBy.refl _ _) _)) 0 ⟨_, 0, none⟩ 1 1 [ky] rfl rfl (by exact sl_oneAt _ 0 [.string ky] _ _ _ (by first | rfl | simp) (Nat.zero_le _) rfl) ?c2 ?c3 ?c4 ?_)
                    case c1 => exact hlo.out
                    case c2 => have h1 := hlo.out; simp; omega
                    case c3 => have h1 := hlo.out; simp [maxLen]; omega
                    case c4 => first | omega | (simp; omega)
                    intro A8 c8 w8 hO8 hG8
                    have hqa := gr_alloc (World.grownBy.refl w6 none) (.cells #[.string ky] 9)
                    have hoq := oO6.pure hqa
                    have hg8 : w5.grownBy w8 none := gr_row (gr_trans hgz hqa) hG8.1 (fun x e => (hoq.blk_lt e).1)
                    rw [hOn.out] at hO8
                    have hmm : Hid (((mi - 1 : Nat) : Int) = (mi : Int) - 1) := by show _ = _; omega
                    clear hqa hoq hG8 oO6 hgz k6
                    go_wp2
                    (go_roundw; (case rel => exact ⟨q + 1, mi - 1, ni - v, Ia ++ [q], A8, c8, by omega, by go_num, rfl, by rw [hmm.out], hst2, by first | rw [hl9.out] | (rw [hl8.out, hlo.out]; simp) | (rw [hl8.out, hlo.out]), hO8, by omega, by rw [hl8.out]; omega, by omega, hg8⟩); (case measure => simp [intOf]; omega))
                  · have hb3 : decide (v + V2 ≥ ni) = false := by simp; omega
                    have hst2 : Hid (I0 = Ia ++ chgF (LT.drop (q + 1)) (q + 1) ni mi) := by
                      have h1 := hst.out
                      rw [if_neg (fun h => hge h.2)] at h1
                      exact h1
                    clear hst hge
                    go_wp2_with fail
                    (go_roundw; (case rel => exact ⟨q + 1, mi, ni, Ia, A5, c5, by omega, by go_num, rfl, rfl, hst2, rfl, oO6, hmi, by omega, by omega, hgz⟩); (case measure => simp [intOf]; omega))
                · go_wp2_with fail
                  refine (hMd.out _ _ (.inl rfl)).mono ?_
                  rintro e w6 ⟨rfl, hg6⟩
                  have oO6 := oO.pure hg6
                  have hgz := hgr.t hg6
                  have k6 := hg6.k k0
                  have hsz6 := hg6.size
                  clear hMd oO hgr k0 hg6
                  by_cases hge : ni ≤ v + V2
                  · have hb3 : decide (v + V2 ≥ ni) = true := by simp; omega
                    have hst2 : Hid (I0 = (Ia ++ [q]) ++ chgF (LT.drop (q + 1)) (q + 1) (ni - v) (mi - 1)) := by
                      have h1 := hst.out
                      rw [if_pos ⟨hmp, hge⟩] at h1
                      rw [Hid, h1, List.append_assoc]
                      rfl
                    obtain ⟨OUT, hOUT⟩ : ∃ OUT, OUT = Ia.map (fun i => KT.getD i default) := ⟨_, rfl⟩
                    have hlo : Hid (Ia.length = OUT.length) := by rw [Hid, hOUT, List.length_map]
                    have hOn : Hid (OUT ++ [ky] = (Ia ++ [q]).map (fun i => KT.getD i default)) := by
                      rw [Hid, List.map_append, ← hOUT, List.map_singleton, hgd.out]
                    have hl9 : Hid ((OUT ++ [ky]).length = (Ia ++ [q]).length) := by rw [Hid, List.length_append, List.length_append, hlo.out]; rfl
                    have hl8 : Hid ((Ia ++ [q]).length = Ia.length + 1) := by simp [Hid]
                    rw [← hOUT] at oO6
                    obtain ⟨j0, hi', hz9', h1', h2'⟩ := info_parts info_strG
                    clear hst hge hOUT
                    go_wp2_with (at_builtin; refine wpList_pushAt (α := ByteArray) _ rfl (.tmp 80) (.tmp 85) _ rfl w5.heap.size 9 j0 _ 16 Tryz.underlying53 hi' hz9' h1' h2' rfl _ _ _ OUT rfl ?c1 (by exact oO6.pure (gr_alloc (World.grownBy.refl _ _) _)) 0 ⟨_, 0, none⟩ 1 1 [ky] rfl rfl (by exact sl_oneAt _ 0 [.string ky] _ _ _ (by first | rfl | simp) (Nat.zero_le _) rfl) ?c2 ?c3 ?c4 ?_)
                    case c1 => exact hlo.out
                    case c2 => have h1 := hlo.out; simp; omega
                    case c3 => have h1 := hlo.out; simp [maxLen]; omega
                    case c4 => first | omega | (simp; omega)
                    intro A8 c8 w8 hO8 hG8
                    have hqa := gr_alloc (World.grownBy.refl w6 none) (.cells #[.string ky] 9)
                    have hoq := oO6.pure hqa
                    have hg8 : w5.grownBy w8 none := gr_row (gr_trans hgz hqa) hG8.1 (fun x e => (hoq.blk_lt e).1)
                    rw [hOn.out] at hO8
                    have hmm : Hid (((mi - 1 : Nat) : Int) = (mi : Int) - 1) := by show _ = _; omega
                    clear hqa hoq hG8 oO6 hgz k6
                    go_wp2
                    (go_roundw; (case rel => exact ⟨q + 1, mi - 1, ni - v, Ia ++ [q], A8, c8, by omega, by go_num, rfl, by rw [hmm.out], hst2, by first | rw [hl9.out] | (rw [hl8.out, hlo.out]; simp) | (rw [hl8.out, hlo.out]), hO8, by omega, by rw [hl8.out]; omega, by omega, hg8⟩); (case measure => simp [intOf]; omega))
                  · have hb3 : decide (v + V2 ≥ ni) = false := by simp; omega
                    have hst2 : Hid (I0 = Ia ++ chgF (LT.drop (q + 1)) (q + 1) ni mi) := by
                      have h1 := hst.out
                      rw [if_neg (fun h => hge h.2)] at h1
                      exact h1
                    clear hst hge
                    go_wp2_with fail
                    (go_roundw; (case rel => exact ⟨q + 1, mi, ni, Ia, A5, c5, by omega, by go_num, rfl, rfl, hst2, rfl, oO6, hmi, by omega, by omega, hgz⟩); (case measure => simp [intOf]; omega))
              · have hb1 : decide (0 < mi) = false := by simp; omega
                have hst2 : Hid (I0 = Ia ++ chgF (LT.drop (q + 1)) (q + 1) ni mi) := by
                  have h1 := hst.out
                  rw [if_neg (fun h => hmp h.1)] at h1
                  exact h1
                clear hst hMd
                go_wp2_with fail
                (go_roundw; (case rel => exact ⟨q + 1, mi, ni, Ia, A5, c5, by omega, by go_num, rfl, rfl, hst2, rfl, oO, hmi, by omega, by omega, hgr⟩); (case measure => simp [intOf]; omega))
            · have hq2 : q = nT := by omega
              have hIz : Hid (I0 = Ia) := by
                have h1 := hI.out
                rw [List.drop_of_length_le (by rw [hLn.out]; omega)] at h1
                rw [Hid, h1]
                unfold chgF
                rw [List.append_nil]
              have hok2 := hide hok.out
              rw [hIz.out] at hok2
              obtain ⟨OUT, hOUT⟩ : ∃ OUT, OUT = Ia.map (fun i => KT.getD i default) := ⟨_, rfl⟩
              have hlo : Hid (OUT.length = Ia.length) := by rw [Hid, hOUT, List.length_map]
              rw [← hOUT] at oO hok2
              rw [← hlo.out]
              clear hI hIz hok hOUT
              go_wp2_with fail
              exact bodyPost_ret (v := .tuple #[.slice A5 OUT.length c5, .bool true, .int .i64 0]) (by simp [results, Tryz.results16, go_sem]) rfl ⟨OUT, A5, c5, true, rfl, oO.sl.mono (Nat.zero_le _), hok2.out, hgw9.t (hg25.t hgr)⟩

end Go.Proofs.YtpdhbhlnopmifaaGreatDoor

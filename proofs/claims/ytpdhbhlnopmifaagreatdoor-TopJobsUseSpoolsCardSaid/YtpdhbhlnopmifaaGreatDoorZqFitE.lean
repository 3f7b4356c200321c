/- Contracts of functions that this seat's laws reach, each: what one call returns and what it leaves in memory; no condition beyond each theorem's own hypotheses. -/
import Derived.Test.YtpdhbhlnopmifaaGreatDoorZqFitD
import Derived.Test.YtpdhbhlnopmifaaGreatDoorZqSpoolG
set_option linter.unusedVariables false
set_option linter.unusedSimpArgs false
namespace Go.Proofs.YtpdhbhlnopmifaaGreatDoor
open Go Go.RowKit Go.Bl Go.Lib

def needO (n : Int) : Bool := outB n 1 1000000000

set_option maxHeartbeats 400000 in
theorem fitsCl_any (n : Int) (w : World) : Calls Tryz.prog 37 #[.int .i64 n] w fun e w' => e = .returned (.bool (needO n)) ∧ w.grownBy w' none := by
  have h := outside_any n 1 1000000000 w
  unfold needO
  generalize outB n 1 1000000000 = V at *
  go_enter Tryz.func37, Tryz.ntmps37
  go_wp2_with fail
  refine h.mono ?_
  rintro e w' ⟨rfl, rfl⟩
  go_wp2_with fail
  go_ret
  exact ⟨rfl, World.grownBy.refl _ _⟩

set_option maxHeartbeats 800000 in
set_option maxRecDepth 100000 in
theorem indexNd_any (u v : Nat) (A : Option Addr) (c : Nat) (l : List Int) (w : World) (hl : Sl w 0 A l) (hp : u = v) :
    Calls Tryz.prog 66 #[.slice A l.length c, .func (.func 37) #[] #[]] w fun e w' => ∃ r : Int, e = .returned (.int .i64 r) ∧ decide (0 ≤ r) = l.any (needO) ∧ w.grownBy w' none := by
  have hm := hl.1
  unfold maxLen at hm
  go_enter Tryz.func66, Tryz.ntmps66
  go_wp2
  go_loopw [8] (fun i wr => ∃ k : Nat, k ≤ l.length ∧ i = .int .i64 k ∧ w.grownBy wr none ∧ Hid ((l.take k).any (needO) = false)) (fun i _ => l.length - (intOf i).toNat)
  case atStart => exact ⟨0, Nat.zero_le _, rfl, World.grownBy.refl _ _, by simp [Hid]⟩
  case round =>
    obtain ⟨k, hk, rfl, hg, hall⟩ := hrel
    by_cases hlt : k < l.length
    · obtain ⟨g1, o1, cx1, rfl, -, -, rfl, hc⟩ := ((hl.pure hg)).at_ (by decide) hlt
      have d1 : wr.cell? ⟨g1, o1 + k, none⟩ = some (.int .i64 l[k]) := by
        have h1 := hc 0 _ rfl
        rwa [show Enc.sz Int = 1 from rfl, Nat.mul_one] at h1
      clear hc
      have HS : Hid ((l.take (k + 1)).any (needO) = ((l.take k).any (needO) || (needO) l[k])) := by rw [Hid, take_snoc hlt, List.any_append]; simp
      have HA : Hid ((needO) l[k] = true → l.any (needO) = true) := fun h => List.any_eq_true.2 ⟨_, List.getElem_mem _, h⟩
      have hmem := List.getElem_mem hlt
      skip
      generalize l[k] = f at *
      obtain ⟨bb, hbb⟩ : ∃ bb, (needO) f = bb := ⟨_, rfl⟩
      have hcon := fitsCl_any f wr
      simp only [hbb] at hcon HS HA
      replace hcon := hide hcon
      replace hbb := hide hbb
      replace HS := hide HS
      replace HA := hide HA
      replace hmem := hide hmem
      go_wp2_with fail
      refine (hcon.out).mono ?_
      rintro e w' ⟨rfl, hg'⟩
      cases bb
      · go_wp2_with fail
        (go_roundw; (case rel => exact ⟨k + 1, by omega, by go_num, gr_trans hg hg', by rw [Hid, HS.out, hall.out]; rfl⟩); (case measure => simp [intOf]; omega))
      · have HB := hide (HA.out rfl)
        go_wp2_with fail
        go_ret
        exact ⟨k, rfl, by rw [HB.out]; simp, gr_trans hg hg'⟩
    · have HB : Hid (l.any (needO) = false) := by have := hall.out; rwa [List.take_of_length_le (by omega)] at this
      go_wp2
      go_ret
      exact ⟨-1, rfl, by rw [HB.out]; rfl, hg⟩

set_option maxHeartbeats 400000 in
theorem containsNd_any (u v : Nat) (A : Option Addr) (c : Nat) (l : List Int) (w : World) (hl : Sl w 0 A l) (hp : u = v) :
    Calls Tryz.prog 36 #[.slice A l.length c, .func (.func 37) #[] #[]] w fun e w' => e = .returned (.bool (l.any (needO))) ∧ w.grownBy w' none := by
  go_enter Tryz.func36, Tryz.ntmps36
  go_wp2_with fail
  refine (indexNd_any _ _ _ _ _ _ hl (by assumption)).mono ?_
  rintro e w1 ⟨r, rfl, hr, hg⟩
  replace hr := hide hr
  go_wp2_with fail
  go_ret
  exact ⟨ret_bool hr.out, hg⟩

set_option maxHeartbeats 400000 in
theorem materialOk_any (A : Option Addr) (c : Nat) (s : List Spl) (m : ByteArray) (w : World) (hl : Sl w 0 A s) (h0 : splsF s = 0) (hk : keyB m = true) :
    Calls Tryz.prog 35 #[.slice A s.length c, .string m] w fun e w' => e = .returned (.int .i64 0) ∧ w.grownBy w' none := by
  have h1 := checkSpools_any A c s w hl
  rw [h0] at h1
  have h2 := hide fun wx => isKey_any m wx
  rw [hk] at h2
  clear hl h0 hk
  replace h1 := hide h1
  go_enter Tryz.func35, Tryz.ntmps35
  go_wp2_with fail
  refine h1.out.mono ?_
  rintro e w1 ⟨rfl, hg1⟩
  go_wp2_with fail
  refine (h2.out w1).mono ?_
  rintro e w2 ⟨rfl, hg2⟩
  go_wp2_with fail
  go_ret
  exact ⟨rfl, hg1.t hg2⟩

/-- what is free on each spool -/
def leftL (s : List Spl) (m : ByteArray) : List Int := s.map fun x => if x.mat = m then x.left else -1

theorem leftL_take {s : List Spl} {m : ByteArray} {k : Nat} (h : k < s.length) : (leftL s m).take (k + 1) = (leftL s m).take k ++ [if s[k].mat = m then s[k].left else -1] := by
  unfold leftL
  rw [List.take_succ_eq_append_getElem (by simpa using h)]
  simp

theorem leftL_bd {s : List Spl} {m : ByteArray} (h : splsF s = 0) : ∀ v ∈ leftL s m, -1 ≤ v ∧ v ≤ 1000000000 := fun v hv => by
  unfold leftL at hv
  obtain ⟨x, hx, rfl⟩ := List.mem_map.1 hv
  obtain ⟨k, hk, rfl⟩ := List.getElem_of_mem hx
  have := ((splsF_zero h).2 k hk).1
  split <;> omega

theorem leftL_len (s : List Spl) (m : ByteArray) : (leftL s m).length = s.length := by unfold leftL; rw [List.length_map]

theorem info_boolE : (Tryz.prog.info? 4).map (fun i => (i.zero, i.size, i.bytes)) = some (some (.bool false), 1, 1) := by kernel_rfl

set_option maxHeartbeats 8000000 in
set_option maxRecDepth 100000 in
theorem fitsTop_any (P AN : Option Addr) (pc cN : Nat) (s : List Spl) (m : ByteArray) (needs : List Int) (w : World) (hs : Sl w 0 P s) (h0 : splsF s = 0) (hk : keyB m = true) (hn : Sl w 0 AN needs) (h8 : needs.length ≤ 8) (hnb : ∀ v ∈ needs, 1 ≤ v ∧ v ≤ 1000000000)
    (hAN : ∀ g, blk AN = some g → g < w.heap.size) :
    Calls Tryz.prog 11 #[.slice P s.length pc, .string m, .slice AN needs.length cN] w fun e w' => ∃ (out : List Int) (A : Option Addr) (c : Nat) (V : Bool), e = .returned (.tuple #[.slice A out.length c, .bool V, .int .i64 0]) ∧ Sl w' 0 A out ∧
      (V = true → ∃ left', PutTo needs (leftL s m) out left') ∧ (V = false → out = []) ∧ w.grownBy w' none := by
  have hM := hide (materialOk_any P pc s m w hs h0 hk)
  have hC := hide fun wx (h : w.grownBy wx none) => containsNd_any 0 0 AN cN needs wx (hn.pure h) rfl
  rw [show needs.any needO = false by
    rw [List.any_eq_false]
    intro x hx
    have := hnb x hx
    unfold needO outB
    simp
    omega] at hC
  have h50 := (splsF_zero h0).1
  have hlb := hide (leftL_bd (m := m) h0)
  have hll := leftL_len s m
  have hlt := hide fun k (h : k < s.length) => leftL_take (m := m) h
  replace hs := hide hs
  replace hn := hide hn
  replace hnb := hide hnb
  replace hAN := hide hAN
  obtain ⟨LL, hLL⟩ : ∃ LL, LL = leftL s m := ⟨_, rfl⟩
  rw [← hLL] at hlb hll hlt ⊢
  replace hll := hide hll
  clear h0 hk hLL
  go_enter Tryz.func11, Tryz.ntmps11
  go_wp2_with fail
  refine hM.out.mono ?_
  rintro e w1 ⟨rfl, hg1⟩
  go_wp2_with fail
  refine (hC.out w1 hg1).mono ?_
  rintro e w2 ⟨rfl, hg2⟩
  have hgw := hg1.t hg2
  clear hM hC hg1 hg2
  go_wp2_with fail
  go_loopw [30] (fun i wr => ∃ k : Nat, k ≤ needs.length + 1 ∧ i = .int .i64 k ∧ w.grownBy wr none) (fun i _ => needs.length + 1 - (intOf i).toNat)
  case atStart => exact ⟨0, by omega, rfl, hgw⟩
  case round =>
    clear hgw
    obtain ⟨k, hk, rfl, hgr⟩ := hrel
    by_cases hlt2 : k < needs.length + 1
    · have hdk : decide ((k : Int) < (needs.length : Int) + 1) = true := by simp; omega
      obtain ⟨i0, hi, hz, hi1, hi2⟩ := info_parts info_boolE
      obtain ⟨w3, hrun, hoS, hg3⟩ := run_makeOwn (P := Tryz.prog) wr 88 4 i0 _ false Tryz.underlying88 hi hz hi1 rfl rfl .i64 .i64 s.length (by rw [hi2]; omega) (by simp [maxLen]; omega)
      obtain ⟨gu, hgu⟩ : ∃ g, g = wr.heap.size := ⟨_, rfl⟩
      rw [← hgu] at hrun hoS
      have hguw : w.heap.size ≤ gu := by have := hgr.size; omega
      clear hi hz hi1 hi2 i0 hgu
      go_upto_region 12 with fail
      obtain ⟨w11, hw11⟩ : ∃ x, x = (w3).alloc (.cells [.slice AN needs.length cN, .slice none 0 0, .slice (some ⟨gu, 0, none⟩) s.length s.length].toArray 90) := ⟨_, rfl⟩
      have hg11 : (w3).grownBy w11 none := by rw [hw11]; exact gr_alloc (World.grownBy.refl _ _) _
      have hb11 : Box w11 (w3).heap.size 90 [.slice AN needs.length cN, .slice none 0 0, .slice (some ⟨gu, 0, none⟩) s.length s.length] := by rw [hw11]; exact Box.new _ _ _
      have hxs11 := hb11.lt
      rw [← hw11]
      clear hw11
      obtain ⟨x11, hx11⟩ : ∃ x, x = (w3).heap.size := ⟨_, rfl⟩
      rw [← hx11] at hb11 hxs11 ⊢
      have hxl11 : (w3).heap.size ≤ x11 := by omega
      clear hx11
      have hgs := hgr.size
      have hgs3 := hg3.size
      have hx11 : w.heap.size ≤ x11 := by omega
      have hoU := (hoS.pure hg11).lower hguw
      have hgz := hgr.t (hg3.t hg11)
      have hN0 := hide fun wx (h : w.grownBy wx none) => hn.out.pure h
      clear hrun hoS hg3 hg11 hgr hxl11 hxs11 hgs3
      go_wp2_with fail
      go_loopw [41] (fun i wr => ∃ (j : Nat) (AL : Option Addr) (cL : Nat), j ≤ s.length ∧ i = .int .i64 j ∧ Box wr x11 90 [.slice AN needs.length cN, .slice AL j cL, .slice (some ⟨gu, 0, none⟩) s.length s.length] ∧ Own wr w.heap.size 3 AL cL (LL.take j) ∧
        Own wr w.heap.size 4 (some ⟨gu, 0, none⟩) s.length (List.replicate s.length false) ∧ w.grownBy wr none) (fun i _ => s.length - (intOf i).toNat)
      case atStart => exact ⟨0, none, 0, Nat.zero_le _, rfl, hb11, Own.nil _ _ _, hoU, hgz⟩
      case round =>
        clear hb11 hoU hgz hgs
        obtain ⟨j, AL, cL, hj, rfl, hb, hO, hU, hgr⟩ := hrel
        have htl : Hid ((LL.take j).length = j) := by rw [Hid, List.length_take, hll.out]; omega
        by_cases hjs : j < s.length
        · obtain ⟨g, o, cx, rfl, -, -, rfl, hc⟩ := ((hs.out.pure hgr)).at_ (by decide) hjs
          have c0 : wr.cell? ⟨g, o + j * 3, none⟩ = some (.string s[j].key) := hc 0 _ rfl
          have c1 : wr.cell? ⟨g, o + j * 3 + 1, none⟩ = some (.string s[j].mat) := hc 1 _ rfl
          have c2 : wr.cell? ⟨g, o + j * 3 + 2, none⟩ = some (.int .i64 s[j].left) := hc 2 _ rfl
          clear hc
          have hnx := hlt.out j hjs
          generalize s[j] = y at *
          obtain ⟨z, hz⟩ : ∃ z, z = if y.mat = m then y.left else -1 := ⟨_, rfl⟩
          rw [← hz] at hnx
          have hl1 : Hid ((LL.take j ++ [z]).length = j + 1) := by rw [Hid, List.length_append, htl.out]; rfl
          replace hnx := hide hnx
          go_upto_region 15 with fail
          obtain ⟨w13, hw13⟩ : ∃ x, x = (wr).alloc (.cells [.string y.key, .string y.mat, .int .i64 y.left].toArray 38) := ⟨_, rfl⟩
          have hg13 : (wr).grownBy w13 none := by rw [hw13]; exact gr_alloc (World.grownBy.refl _ _) _
          have hb13 : Box w13 (wr).heap.size 38 [.string y.key, .string y.mat, .int .i64 y.left] := by rw [hw13]; exact Box.new _ _ _
          have hxs13 := hb13.lt
          rw [← hw13]
          clear hw13
          obtain ⟨x13, hx13⟩ : ∃ x, x = (wr).heap.size := ⟨_, rfl⟩
          rw [← hx13] at hb13 hxs13 ⊢
          have hxl13 : (wr).heap.size ≤ x13 := by omega
          clear hx13
          have hb2 := hb.pure hg13
          have hO2 := hO.pure hg13
          have hU2 := hU.pure hg13
          have hg2 := hgr.t hg13
          have hsz2 := hg2.size
          clear c0 c1 c2 hb hO hU hgr hg13
          obtain ⟨i0, hi, hz9, h1, h2⟩ := info_parts info_int
          by_cases hmt : y.mat = m
          · have hq : (y.mat.toList == m.toList) = true := by simp [hmt]
            rw [if_pos hmt] at hz
            replace hz := hide hz
            obtain ⟨p1, -⟩ := hb13.c 1 rfl
            go_upto_region 16 with fail
            clear p1 hq hmt
            replace hi := hide hi
            replace hz9 := hide hz9
            replace h1 := hide h1
            replace h2 := hide h2
            refine wp_region_tree (fun wx => Box wx x11 90 [.slice AN needs.length cN, .slice AL j cL, .slice (some ⟨gu, 0, none⟩) s.length s.length] ∧ Box wx x13 38 [.string y.key, .string y.mat, .int .i64 y.left]) [2, 2, 2, 2, 1, 2, 1, 0, 0, 2, 2, 0] (.bl 0 (.bl 1 (.bl 2 (.bl 3 (.bl 4 (.bl 5 (.bl 6 (.ef 7 (.ef 8 (.bl 9 (.bl 10 (.ef 11 .done)))))))))))) (by kernel_rfl) (by kernel_rfl) (⟨hb2.pure (gr_drew (World.grownBy.refl _ _)), hb13.pure (gr_drew (World.grownBy.refl _ _))⟩) ?_
            obtain ⟨u0, hu0⟩ : ∃ x, x = (w13).drew := ⟨_, rfl⟩
            rw [← hu0]
            have hgu0 : (w13).grownBy u0 none := by rw [hu0]; exact gr_drew (World.grownBy.refl _ _)
            clear hu0
            have p1 := hO2.pure hgu0
            have q1 := hb2.pure hgu0
            have r1 := hU2.pure hgu0
            have g1 := hg2.t hgu0
            clear hO2
            refine tree_p rfl rfl rfl rfl _ rfl (by simp) (fun K hK => ?_)
            apply Exists.intro
            refine ⟨fun wq K' hK' => ?_, ?_⟩
            · go_wp2_with fail
              exact hK'
            go_simp
            refine hK _ ?_
            clear hK K
            refine tree_p rfl rfl rfl rfl _ rfl (by simp) (fun K hK => ?_)
            apply Exists.intro
            refine ⟨fun wq K' hK' => ?_, ?_⟩
            · go_wp2_with fail
              exact hK'
            go_simp
            refine hK _ ?_
            clear hK K
            refine tree_n rfl rfl _ rfl _ rfl ?_
            try go_simp
            refine tree_p rfl rfl rfl rfl _ rfl (by simp) (fun K hK => ?_)
            apply Exists.intro
            refine ⟨fun wq K' hK' => ?_, ?_⟩
            · go_wp2_with fail
              exact hK'
            go_simp
            refine hK _ ?_
            clear hK K
            refine tree_b rfl rfl rfl rfl _ rfl (by simp) (fun K hK => ?_)
            apply Exists.intro
            refine ⟨fun wq hq K' hK' => ?_, ?_⟩
            · obtain ⟨d1, -⟩ := hq.1.c 1 rfl
              obtain ⟨d2, -⟩ := hq.2.c 2 rfl
              go_wp2_with fail
              exact hK'
            go_simp
            refine hK _ ?_
            clear hK K
            refine tree_p rfl rfl rfl rfl _ rfl (by simp) (fun K hK => ?_)
            apply Exists.intro
            refine ⟨fun wq K' hK' => ?_, ?_⟩
            · go_wp2_with fail
              exact hK'
            go_simp
            refine hK _ ?_
            clear hK K
            refine tree_b rfl rfl rfl rfl _ rfl (by simp) (fun K hK => ?_)
            apply Exists.intro
            refine ⟨fun wq hq K' hK' => ?_, ?_⟩
            · obtain ⟨d1, -⟩ := hq.1.c 1 rfl
              obtain ⟨d2, -⟩ := hq.2.c 2 rfl
              go_wp2_with fail
              exact hK'
            go_simp
            refine hK _ ?_
            clear hK K
            refine tree_e rfl rfl (fun K hK => ?_)
            go_wp2_with fail
            try go_simp
            refine hK _ _ (⟨q1.pure (gr_alloc (World.grownBy.refl _ _) _), (hb13.pure hgu0).pure (gr_alloc (World.grownBy.refl _ _) _)⟩) ?_
            clear hK K
            obtain ⟨u7, hu7⟩ : ∃ x, x = (u0).alloc (.cells #[.int .i64 y.left] 3) := ⟨_, rfl⟩
            have hg7 : (u0).grownBy u7 none := by rw [hu7]; exact gr_alloc (World.grownBy.refl _ _) _
            have hS7 : Sl u7 0 (some ⟨(u0).heap.size, 0, none⟩) [y.left] := by rw [hu7]; exact sl_int1 _ _ _ _ rfl
            rw [← hu7]
            clear hu7
            replace p1 := p1.pure hg7
            replace q1 := q1.pure hg7
            replace r1 := r1.pure hg7
            replace g1 := g1.t hg7
            clear hg7
            refine tree_e0 (by kernel_rfl) rfl rfl (fun K hK => ?_)
            refine wp_pushAt (α := Int) _ (.tmp 53) (.tmp 56) _ rfl w.heap.size 3 i0 _ 8 Tryz.underlying22 hi.out hz9.out h1.out h2.out rfl _ _ _ (LL.take j) rfl htl.out.symm (by exact p1) 0 ⟨_, 0, none⟩ 1 1 [y.left] rfl rfl (by exact hS7) ?c2 ?c3 ?c4 ?_
            case c2 => have h1 := htl.out; rw [h1]; simp; omega
            case c3 => have h1 := htl.out; rw [h1]; simp [maxLen]; omega
            case c4 => exact g1.size
            intro A5 c5 u8 hO5 hG5
            rw [← hz.out, hl1.out]
            rw [← hz.out] at hO5
            simp only [Act.put, List.setIfInBounds_toArray, List.set_cons_zero, List.set_cons_succ]
            try go_simp
            refine hK _ _ trivial ?_
            clear hK K
            have q2 := q1.gr hG5.1 (q1.ne_own p1 (by decide))
            have r2 := r1.ne hG5.1 (fun g e h => r1.ne_own p1 (by decide) e h)
            have g2 := gr_row g1 hG5.1 (fun x e => (p1.blk_lt e).1)
            clear p1 q1 r1 g1 hG5 hS7
            refine tree_n rfl rfl _ rfl _ rfl ?_
            try go_simp
            refine tree_p rfl rfl rfl rfl _ rfl (by simp) (fun K hK => ?_)
            apply Exists.intro
            refine ⟨fun wq K' hK' => ?_, ?_⟩
            · go_wp2_with fail
              exact hK'
            go_simp
            refine hK _ ?_
            clear hK K
            refine tree_e0 (by kernel_rfl) rfl rfl (fun K hK => ?_)
            obtain ⟨d1, e1⟩ := q2.c 1 rfl
            go_wp2_with fail
            try go_simp
            refine hK _ _ trivial ?_
            clear hK K
            refine tree_done ?_
            have hg9 : (u8).grownBy ((u8).setCell ⟨x11, 1, none⟩ (.slice A5 (j + 1) c5)) (some x11) := gr_set (World.grownBy.refl _ _) (.inl rfl) _
            have q9 := q2.set_ 1 (.slice A5 (j + 1) c5) (by simp)
            have o9 := hO5.ne hg9 (fun g e h => q2.ne_own hO5 (by decide) (by rw [e]; exact h.symm))
            have r9 := r2.ne hg9 (fun g e h => q2.ne_own r2 (by decide) (by rw [e]; exact h.symm))
            have g9 := gr_new g2 hg9 hx11
            rw [← hnx.out] at o9
            clear q2 r2 g2 hO5 hg9 d1 e1
            go_wp2_with fail
            (go_roundw; (case rel => exact ⟨j + 1, A5, c5, by omega, by go_num, q9, o9, r9, g9⟩); (case measure => simp [intOf]; omega))
          · have hq : (y.mat.toList == m.toList) = false := by
              rw [beq_eq_false_iff_ne]; intro e; rw [Lib.toList_data, Lib.toList_data] at e
              exact hmt (by cases hf : y.mat; cases m; rw [hf] at e; simp only [ByteArray.mk.injEq]; exact Array.toList_inj.1 e)
            rw [if_neg hmt] at hz
            replace hz := hide hz
            obtain ⟨p1, -⟩ := hb13.c 1 rfl
            obtain ⟨d1, -⟩ := hb2.c 1 rfl
            clear hmt
            go_upto_region 17 with fail
            clear p1 hq hb13
            go_wp2_with (at_builtin; refine wpList_pushAt (α := Int) _ rfl (.tmp 64) (.tmp 65) _ rfl w.heap.size 3 i0 _ 8 Tryz.underlying22 hi hz9 h1 h2 rfl _ _ _ (LL.take j) rfl ?c1 (by exact hO2.pure (gr_alloc (World.grownBy.refl _ _) _)) 0 ⟨_, 0, none⟩ 1 1 [(-1 : Int)] rfl rfl (by exact sl_int1 _ _ _ _ (by first | rfl | simp)) ?c2 ?c3 ?c4 ?_)
            case c1 => exact htl.out.symm
            case c2 => have h1 := htl.out; rw [h1]; simp; omega
            case c3 => have h1 := htl.out; rw [h1]; simp [maxLen]; omega
            case c4 => first | omega | (simp; omega)
            intro A5 c5 w5 hO5 hG5
            have hqa := gr_alloc (World.grownBy.refl w13 none) (.cells #[.int .i64 (-1)] 3)
            have hoq := hO2.pure hqa
            have q2 := (hb2.pure hqa).gr hG5.1 ((hb2.pure hqa).ne_own hoq (by decide))
            have r2 := (hU2.pure hqa).ne hG5.1 (fun g e h => (hU2.pure hqa).ne_own hoq (by decide) e h)
            have g2 := gr_row (gr_trans hg2 hqa) hG5.1 (fun x e => (hoq.blk_lt e).1)
            rw [← hz.out] at hO5
            have hlm : (LL.take j ++ [(-1 : Int)]).length = j + 1 := by rw [← hz.out]; exact hl1.out
            try rw [hlm]
            clear hlm
            have hmn : min j LL.length = j := by have := hll.out; omega
            obtain ⟨d1, e1⟩ := q2.c 1 rfl
            have hg9 : w5.grownBy (w5.setCell ⟨x11, 1, none⟩ (.slice A5 (j + 1) c5)) (some x11) := gr_set (World.grownBy.refl _ _) (.inl rfl) _
            have q9 := q2.set_ 1 (.slice A5 (j + 1) c5) (by simp)
            have o9 := hO5.ne hg9 (fun g e h => q2.ne_own hO5 (by decide) (by rw [e]; exact h.symm))
            have r9 := r2.ne hg9 (fun g e h => q2.ne_own r2 (by decide) (by rw [e]; exact h.symm))
            have g9 := gr_new g2 hg9 hx11
            rw [← hnx.out] at o9
            clear hqa hoq hG5 hO2 hb2 hU2 hg2 q2 r2 g2 hO5 hg9
            go_wp2_with fail
            (go_roundw; (case rel => exact ⟨j + 1, A5, c5, by omega, by go_num, q9, o9, r9, g9⟩); (case measure => simp [intOf]; omega))
        · have hj2 : j = s.length := by omega
          subst hj2
          have hOz : Own wr w.heap.size 3 AL cL LL := by rw [show LL.take s.length = LL by rw [← hll.out, List.take_length]] at hO; exact hO
          have hH : FitH wr x11 AN AL (some ⟨gu, 0, none⟩) cN cL s.length needs LL (List.replicate s.length false) :=
            ⟨by rw [List.length_replicate]; exact hb, hN0.out _ hgr, hOz.lower (Nat.zero_le _), hU.lower (Nat.zero_le _), by rw [List.length_replicate]; exact hll.out, fun g e e2 => by have h1 := (hOz.blk_lt e).1; have h2 := hAN.out g e2; omega⟩
          have hPu := hide (put_any x11 AN AL (some ⟨gu, 0, none⟩) cN cL s.length needs LL (List.replicate s.length false) k wr (by rw [List.length_replicate]; exact h50) h8 hnb.out hH hlb.out (fun g e => by have h2 := hAN.out g e; have := hgr.size; omega) (fun g e e2 => by have h1 := (hU.blk_lt e).1; have h2 := hAN.out g e2; omega) (by omega))
          have hpl := hide fun y (e : blk AL = some y ∨ blk (some ⟨gu, 0, none⟩ : Option Addr) = some y) => (show w.heap.size ≤ y from by
            rcases e with e | e
            · exact (hOz.blk_lt e).1
            · exact (hU.blk_lt e).1)
          generalize fitsF needs LL (List.replicate s.length false) [] k = V at *
          clear hH hOz hO hU hb htl
          go_wp2_with fail
          refine hPu.out.mono ?_
          rintro e w9 ⟨out, A9, c9, rfl, hO9, hV1, hV2, hG9⟩
          have hg9 := hG9.new hgr hpl.out
          replace hV1 := hide hV1
          replace hV2 := hide hV2
          clear hPu hpl hG9
          rcases V with _ | _
          · go_wp2_with fail
            (go_roundw; (case rel => exact ⟨k + 1, by omega, by go_num, hg9⟩); (case measure => simp [intOf]; omega))
          · go_wp2_with fail
            exact bodyPost_ret (v := .tuple #[.slice A9 out.length c9, .bool true, .int .i64 0]) (by simp [results, Tryz.results11, go_sem]) rfl ⟨out, A9, c9, true, rfl, hO9.sl.mono (Nat.zero_le _), (fun _ => by first | exact hV1.out rfl | exact hV1.out trivial), (fun h => by cases h), hg9⟩
    · have hk2 : k = needs.length + 1 := by omega
      subst hk2
      go_wp2_with fail
      exact bodyPost_ret (v := .tuple #[.slice none 0 0, .bool false, .int .i64 0]) (by simp [results, Tryz.results11, go_sem]) rfl ⟨[], none, 0, false, rfl, Sl.nil, (fun h => by cases h), fun _ => rfl, hgr⟩

end Go.Proofs.YtpdhbhlnopmifaaGreatDoor

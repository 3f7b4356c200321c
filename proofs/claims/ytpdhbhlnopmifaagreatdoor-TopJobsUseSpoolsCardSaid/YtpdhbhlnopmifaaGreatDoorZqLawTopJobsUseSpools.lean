/- Contracts of functions that this seat's laws reach, each: what one call returns and what it leaves in memory; no condition beyond each theorem's own hypotheses. -/
import Derived.Test.YtpdhbhlnopmifaaGreatDoorZqTspData
import Derived.Test.YtpdhbhlnopmifaaGreatDoorZqFitE
import Derived.Test.YtpdhbhlnopmifaaGreatDoorZqFitN
import Derived.Test.YtpdhbhlnopmifaaGreatDoorZqSpoolB
import Derived.Test.YtpdhbhlnopmifaaGreatDoorZqTopA
set_option linter.unusedVariables false
set_option linter.unusedSimpArgs false
namespace Go.Proofs.YtpdhbhlnopmifaaGreatDoor
open Go Go.RowKit Go.Bl Go.Maps Go.WideShapes

theorem info_drwT : (Tryz.prog.info? 40).map (fun i => (i.zero, i.size, i.bytes)) = some (some (.agg #[.int .i64 0, .string ⟨#[]⟩, .int .i64 0]), 3, 32) := by kernel_rfl

theorem info_jbT : (Tryz.prog.info? 42).map (fun i => (i.zero, i.size, i.bytes)) = some (some (.agg #[.string ⟨#[]⟩, .string ⟨#[]⟩, .int .i64 0, .int .i64 0]), 4, 48) := by kernel_rfl

theorem drwL_take (s : List Spl) (out nd : List Int) {k : Nat} (h : k < nd.length) : (drwL s out nd).take (k + 1) = (drwL s out nd).take k ++ [drwAt s out nd k] := by
  rw [List.take_succ_eq_append_getElem (by rw [drwL_len]; exact h)]
  simp [drwL]

theorem jbL_take (nd : List Int) {k : Nat} (h : k < nd.length) : (jbL nd).take (k + 1) = (jbL nd).take k ++ [jbAt nd k] := by
  rw [List.take_succ_eq_append_getElem (by rw [jbL_len]; exact h)]
  simp [jbL]

theorem ordL_take (nd : List Int) {k : Nat} (h : k < nd.length) : (ordL nd).take (k + 1) = (ordL nd).take k ++ [(k : Int)] := by
  rw [List.take_succ_eq_append_getElem (by rw [ordL_len]; exact h), ordL_at]

theorem enc_sz : ∀ i < 8, (Utf8.encode (97 + ((i : Nat) : Int))).size ≤ 4 := by decide +kernel

theorem wp_rune {o : Oper} {a : Act} {K : Act → World → Prop} {Q : Exit → Act → World → Prop} {w : World} {x : Operand} {n : Int} (rs : ByteArray) (hrs : rs = Utf8.encode n)
    (ho : o.op = .convert 21 9 x) (hx : a.eval x = .int .i32 n) (h : K (a.put o.dst (.string rs)) w) : o.wp Tryz.prog a w K Q := by
  have hR := run_convert_int_string (P := Tryz.prog) w 21 9 .i32 n (by kernel_rfl) (by kernel_rfl)
  unfold Oper.wp execOp
  simp only [ho, hx, hR, Sem.run_bind, Sem.run_pure, Result.andThen_ok]
  rw [← hrs]
  exact h

theorem wpList_rune {ops : Array Oper} {rest : List Oper} {o : Oper} {a : Act} {Q : Exit → Act → World → Prop} {w : World} {x : Operand} {n : Int} (rs : ByteArray) (hrs : rs = Utf8.encode n) (hgd : o.guard = none)
    (ho : o.op = .convert 21 9 x) (hx : a.eval x = .int .i32 n) (h : wpList Tryz.prog ops Q rest (a.put o.dst (.string rs)) w) : wpList Tryz.prog ops Q (o :: rest) a w :=
  wpList_plain hgd fun _ hK => wp_rune rs hrs ho hx (hK _ _ h)

set_option maxHeartbeats 8000000 in
set_option maxRecDepth 100000 in
theorem topJobs_law (A0 : Option Addr) (n c : Nat) (L : List Int) (w : World) (hL : Sl w 0 A0 L) (hn : L.length = n) :
    Calls Tryz.prog 3 #[.slice A0 n c] w fun e w' => e = .returned (.bool true) ∧ w.grownBy w' none := by
  have hs0 := strm_new (c := c) 25 hL hn
  have hg0 := gr_alloc (World.grownBy.refl w none) (.cells #[.slice A0 n c, .int .i64 0] 25)
  have hS0 := SOut.refl hs0
  go_enter Tryz.func3, Tryz.ntmps3
  go_wp2_with fail
  refine (spoolList_any _ 0 _ hs0 (by omega)).mono ?_
  rintro e w1 ⟨s, P, pc, rfl, hs, hs5, hpc, ho1⟩
  replace hS0 := hS0.trans ho1
  go_wp2_with fail
  refine (needList_any _ _ _ hS0.2 (by omega)).mono ?_
  rintro e w3 ⟨nd, AN, cN, rfl, hnO, hn9, ho2⟩
  replace hS0 := hS0.trans ho2
  replace hs := (hs.s ho2 (by simp)).mono (Nat.zero_le _)
  have hAN : Hid (∀ g, blk AN = some g → g < w3.heap.size) := fun g e => (hnO.blk_lt e).2
  have hnd := hnO.sl.mono (Nat.zero_le _)
  have hgw : w.grownBy w3 none := gr_new hg0 hS0.1 (Nat.le_refl _)
  have hSF := spoolsFault_any P pc s w3 hs
  clear ho1 ho2 hs0 hg0 hL hS0 hnO
  by_cases hF : splsF s = 0
  · rw [hF] at hSF
    replace hSF := hide hSF
    have hNF := hide fun wx (h : w3.grownBy wx none) => needsFault_any AN cN nd wx (hnd.pure h) (by omega)
    by_cases hF2 : ndsF nd = 0
    · rw [hF2] at hNF
      obtain ⟨h8, hnb⟩ := ndsF_zero hF2
      have hFt := hide fun wx (h : w3.grownBy wx none) => fitsTop_any P AN pc cN s plB nd wx (hs.pure h) hF plB_key (hnd.pure h) h8 hnb (fun g e => Nat.lt_of_lt_of_le (hAN.out g e) h.size)
      replace hnb := hide hnb
      replace hF := hide hF
      replace hs := hide hs
      replace hnd := hide hnd
      clear hF2 hAN
      go_wp2_with fail
      refine hSF.out.mono ?_
      rintro e w4 ⟨rfl, hg4⟩
      go_wp2_with fail
      refine (hNF.out w4 hg4).mono ?_
      rintro e w5 ⟨rfl, hg5⟩
      replace hg5 := hg4.t hg5
      clear hSF hNF hg4
      go_wp2_with fail
      refine (hFt.out w5 hg5).mono ?_
      rintro e w6 ⟨out, AF, cF, V, rfl, hl6, hV1, hV2, hg6⟩
      replace hg6 := hg5.t hg6
      replace hV1 := hide hV1
      clear hFt hg5 hV2
      rcases V with _ | _
      · go_wp2_with fail
        refine (h06facts_any _).mono ?_
        rintro e wr9 ⟨rfl, hr9⟩
        go_wp2_with fail
        go_ret
        exact ⟨rfl, hgw.t (hg6.t hr9)⟩
      · obtain ⟨left', hP⟩ := hV1.out rfl
        have hle := hP.len.1
        have hDF := hide (drwsF_put hF.out h8 hnb.out hP)
        have hFo := hide (foll_put hF.out hnb.out hP nd.length (Nat.le_refl _)).1
        have hat := hide fun i (hi : i < nd.length) => put_at hP i hi
        rw [leftL_len] at hat
        have hq : ((out.length : Int) != (nd.length : Int)) = false := by simp [hle]
        have hlh := hide hle
        clear hV1 hle hP
        obtain ⟨i1, hi1, hz1, hs1, hb1⟩ := info_parts info_drwT
        obtain ⟨i2, hi2, hz2, hs2, hb2⟩ := info_parts info_jbT
        obtain ⟨i3, hi3, hz3, hs3, hb3⟩ := info_parts info_int
        go_wp2_with fail
        obtain ⟨w7, hw7⟩ : ∃ x, x = w6.alloc (.cells #[] 3) := ⟨_, rfl⟩
        have hg7 : w6.grownBy w7 none := by rw [hw7]; exact gr_alloc (World.grownBy.refl _ _) _
        have ho7 : Own w7 w6.heap.size 3 (some ⟨w6.heap.size, 0, none⟩) 0 ([] : List Int) := by rw [hw7]; exact Own.empty w6 _ _ (Nat.le_refl _)
        rw [← hw7]
        clear hw7
        go_loopw [9, 10, 11, 12, 67] (fun d j o n i wr => ∃ (k : Nat) (A1 : Option Addr) (c1 : Nat) (A2 : Option Addr) (c2 : Nat) (A3 : Option Addr) (c3 : Nat), k ≤ nd.length ∧ i = .int .i64 k ∧ d = .slice A1 k c1 ∧ j = .slice A2 k c2 ∧ o = .slice A3 k c3 ∧ n = .int .i64 (sumJ nd k) ∧ Own wr w6.heap.size 40 A1 c1 ((drwL s out nd).take k) ∧ Own wr w6.heap.size 42 A2 c2 ((jbL nd).take k) ∧ Own wr w6.heap.size 3 A3 c3 ((ordL nd).take k) ∧ w6.grownBy wr none) (fun _ _ _ _ i _ => nd.length - (intOf i).toNat)
        case atStart => exact ⟨0, none, 0, none, 0, _, 0, Nat.zero_le _, rfl, rfl, rfl, rfl, rfl, Own.nil _ _ _, Own.nil _ _ _, ho7, hg7⟩
        case round =>
          clear ho7 hg7
          obtain ⟨k, A1, c1, A2, c2, A3, c3, hk, rfl, rfl, rfl, rfl, rfl, ho1, ho2, ho3, hgr⟩ := hrel
          by_cases hkn : k < nd.length
          · obtain ⟨q, hqe, hqs⟩ := hat.out k hkn
            have hko : k < out.length := by have := hlh.out; omega
            have e1 : out[k] = (q : Int) := by rw [← hqe]; simp [List.getD_eq_getElem?_getD, hko]
            obtain ⟨g1, o1, cx1, rfl, -, -, rfl, hc⟩ := ((hl6.pure hgr)).at_ (by decide) hko
            have d1 : wr.cell? ⟨g1, o1 + k, none⟩ = some (.int .i64 out[k]) := by
              have h1 := hc 0 _ rfl
              rwa [show Enc.sz Int = 1 from rfl, Nat.mul_one] at h1
            clear hc
            rw [e1] at d1
            obtain ⟨g2, o2, cx2, rfl, -, -, rfl, hc⟩ := ((hnd.out.pure (hg6.t hgr))).at_ (by decide) hkn
            have d2 : wr.cell? ⟨g2, o2 + k, none⟩ = some (.int .i64 nd[k]) := by
              have h1 := hc 0 _ rfl
              rwa [show Enc.sz Int = 1 from rfl, Nat.mul_one] at h1
            clear hc
            obtain ⟨g, o, cx, rfl, -, -, rfl, hc⟩ := (hs.out.pure (hg6.t hgr)).at_ (by decide) hqs
            have c0 : wr.cell? ⟨g, o + q * 3, none⟩ = some (.string s[q].key) := hc 0 _ rfl
            clear hc
            have hD1 := hide (drwL_take s out nd hkn)
            have hD2 := hide (jbL_take nd hkn)
            have hD3 := hide (ordL_take nd hkn)
            have hD4 := hide (sumJ_succ nd hkn)
            have hEd : Hid (drwAt s out nd k = ⟨(k : Int), s[q].key, nd[k]⟩) := by
              unfold Hid drwAt
              rw [hqe]
              simp [List.getD_eq_getElem?_getD, hqs, hkn]
            have hEj : Hid (jbAt nd k = ⟨jKey k, plB, 1 + nd[k] % 100, 0⟩) := by
              unfold Hid jbAt
              simp [List.getD_eq_getElem?_getD, hkn]
            have hnk := hnb.out _ (List.getElem_mem hkn)
            have hl1 : Hid (((drwL s out nd).take k).length = k) := by rw [Hid, List.length_take, drwL_len]; omega
            have hl2 : Hid (((jbL nd).take k).length = k) := by rw [Hid, List.length_take, jbL_len]; omega
            have hl3 : Hid (((ordL nd).take k).length = k) := by rw [Hid, List.length_take, ordL_len]; omega
            have hsj := sumJ_bd nd k hk
            have hsz := hgr.size
            generalize s[q].key = ky at *
            generalize nd[k] = v at *
            clear hqe e1 hat
            go_upto_region 15 with fail
            clear d2
            go_wp2_with (at_builtin; refine wpList_pushAt (α := Drw) _ rfl (.tmp 72) (.tmp 84) _ rfl w6.heap.size 40 i1 _ 32 Tryz.underlying35 hi1 hz1 hs1 hb1 rfl _ _ _ ((drwL s out nd).take k) rfl ?c1 (by exact ho1.pure (gr_alloc (World.grownBy.refl _ _) _)) 0 ⟨_, 0, none⟩ 1 1 [⟨(k : Int), ky, v⟩] rfl rfl (by exact sl_oneAt _ 0 _ _ _ _ (by first | rfl | simp) (Nat.zero_le _) rfl) ?c2 ?c3 ?c4 ?_)
            case c1 => exact hl1.out.symm
            case c2 => have h1 := hl1.out; rw [h1]; simp; omega
            case c3 => have h1 := hl1.out; rw [h1]; simp [maxLen]; omega
            case c4 => simp; omega
            intro A5 c5 w5 hO5 hG5
            have hqa := gr_alloc (World.grownBy.refl wr none) (.cells #[.int .i64 (k : Int), .string ky, .int .i64 v] 40)
            have p2 := (ho2.pure hqa).ne hG5.1 (fun x e => (ho2.pure hqa).ne_own (ho1.pure hqa) (by decide) e)
            have p3 := (ho3.pure hqa).ne hG5.1 (fun x e => (ho3.pure hqa).ne_own (ho1.pure hqa) (by decide) e)
            have hgr5 := gr_row (hgr.t hqa) hG5.1 (fun x e => ((ho1.pure hqa).blk_lt e).1)
            rw [← hEd.out, ← hD1.out] at hO5
            have hlm : min k (drwL s out nd).length + 1 = k + 1 := by rw [drwL_len]; omega
            rw [hlm]
            have hsz5 := hgr5.size
            clear hqa hG5 ho1 ho2 ho3 hgr hlm hD1 hEd hl1
            have hrem : 0 ≤ v % 100 ∧ v % 100 < 100 := by omega
            obtain ⟨rs, hrs⟩ : ∃ x, x = Utf8.encode (97 + (k : Int)) := ⟨_, rfl⟩
            have hrz : rs.size ≤ 4 := by rw [hrs]; exact enc_sz k (by omega)
            have hjk : Hid (jKey k = ⟨#[106]⟩ ++ rs) := by rw [hrs]; rfl
            replace hrs := hide hrs
            go_upto_region 16 with fail
            go_wp2_with (first | (refine wpList_rune rs hrs.out rfl rfl rfl ?_) | (at_builtin; refine wpList_pushAt (α := Jb) _ rfl (.tmp 86) (.tmp 96) _ rfl w6.heap.size 42 i2 _ 48 Tryz.underlying36 hi2 hz2 hs2 hb2 rfl _ _ _ ((jbL nd).take k) rfl ?c1 (by exact p2.pure (gr_alloc (World.grownBy.refl _ _) _)) 0 ⟨_, 0, none⟩ 1 1 [⟨⟨#[106]⟩ ++ rs, plB, 1 + v % 100, 0⟩] rfl rfl (by exact sl_oneAt _ 0 _ _ _ _ (by first | rfl | simp) (Nat.zero_le _) rfl) ?c2 ?c3 ?c4 ?_))
            case c1 => exact hl2.out.symm
            case c2 => have h1 := hl2.out; rw [h1]; simp; omega
            case c3 => have h1 := hl2.out; rw [h1]; simp [maxLen]; omega
            case c4 => simp; omega
            intro A6 c6 w8 hO6 hG6
            have hqa := gr_alloc (World.grownBy.refl w5 none) (.cells #[.string (⟨#[106]⟩ ++ rs), .string ⟨#[112, 108, 97]⟩, .int .i64 (1 + v % 100), .int .i64 0] 42)
            have q1 := (hO5.pure hqa).ne hG6.1 (fun x e => (hO5.pure hqa).ne_own (p2.pure hqa) (by decide) e)
            have q3 := (p3.pure hqa).ne hG6.1 (fun x e => (p3.pure hqa).ne_own (p2.pure hqa) (by decide) e)
            have hgr6 := gr_row (hgr5.t hqa) hG6.1 (fun x e => ((p2.pure hqa).blk_lt e).1)
            rw [← hjk.out, ← hEj.out, ← hD2.out] at hO6
            have hlm : min k (jbL nd).length + 1 = k + 1 := by rw [jbL_len]; omega
            rw [hlm]
            have hsz6 := hgr6.size
            clear hqa hG6 p2 p3 hgr5 hlm hD2 hEj hl2 hO5 hsz5 hjk hrs
            go_upto_region 17 with fail
            go_wp2_with (at_builtin; refine wpList_pushAt (α := Int) _ rfl (.tmp 98) (.tmp 100) _ rfl w6.heap.size 3 i3 _ 8 Tryz.underlying22 hi3 hz3 hs3 hb3 rfl _ _ _ ((ordL nd).take k) rfl ?c1 (by exact q3.pure (gr_alloc (World.grownBy.refl _ _) _)) 0 ⟨_, 0, none⟩ 1 1 [(k : Int)] rfl rfl (by exact sl_oneAt _ 0 _ _ _ _ (by first | rfl | simp) (Nat.zero_le _) rfl) ?c2 ?c3 ?c4 ?_)
            case c1 => exact hl3.out.symm
            case c2 => have h1 := hl3.out; rw [h1]; simp; omega
            case c3 => have h1 := hl3.out; rw [h1]; simp [maxLen]; omega
            case c4 => simp; omega
            intro A7 c7 w9 hO7 hG7
            have hqa := gr_alloc (World.grownBy.refl w8 none) (.cells #[.int .i64 (k : Int)] 3)
            have z1 := (q1.pure hqa).ne hG7.1 (fun x e => (q1.pure hqa).ne_own (q3.pure hqa) (by decide) e)
            have z2 := (hO6.pure hqa).ne hG7.1 (fun x e => (hO6.pure hqa).ne_own (q3.pure hqa) (by decide) e)
            have hgr7 := gr_row (hgr6.t hqa) hG7.1 (fun x e => ((q3.pure hqa).blk_lt e).1)
            rw [← hD3.out] at hO7
            have hlm : min k (ordL nd).length + 1 = k + 1 := by rw [ordL_len]; omega
            rw [hlm]
            clear hqa hG7 q1 q3 hgr6 hlm hD3 hl3 hO6 hsz6
            go_wp2_with fail
            (go_roundw; (case rel => exact ⟨k + 1, A5, c5, A6, c6, A7, c7, by omega, by go_num, rfl, rfl, rfl, by rw [hD4.out], z1, z2, hO7, hgr7⟩); (case measure => simp [intOf]; omega))
          · have hk2 : k = nd.length := by omega
            subst hk2
            have e1 : (drwL s out nd).take nd.length = drwL s out nd := by rw [← drwL_len s out nd, List.take_length]
            have e2 : (jbL nd).take nd.length = jbL nd := by rw [← jbL_len nd, List.take_length]
            have e3 : (ordL nd).take nd.length = ordL nd := by rw [← ordL_len nd, List.take_length]
            rw [e1] at ho1
            rw [e2] at ho2
            rw [e3] at ho3
            have hl1 := hide (drwL_len s out nd)
            have hl2 := hide (jbL_len nd)
            have hl3 := hide (ordL_len nd)
            have hRf := hide (refused_any P pc s A1 c1 (drwL s out nd) wr (hs.out.pure (hg6.t hgr)) (ho1.sl.mono (Nat.zero_le _)) hDF.out)
            rw [drwL_len, hFo.out] at hRf
            have hEF := hide fun (B C : Option Addr) (d e0 : Nat) (wx : World) (h1 : Sl wx 0 B prP) (h2 : Sl wx 0 A2 (jbL nd)) (h3 : Sl wx 0 C [ordL nd]) => endsTop_any B d prP A2 c2 (jbL nd) C e0 [ordL nd] 50 wx h1 h2 h3
            have hpl0 : plannedF prP (jbL nd) [ordL nd] 50 = 0 := by unfold plannedF; rw [if_pos (planF_ord nd h8)]; rfl
            have hen : endsN prP (jbL nd) [ordL nd] 50 = sumJ nd nd.length := by unfold endsN; rw [if_pos hpl0, endF_ord]
            rw [hpl0, hen, jbL_len] at hEF
            have ho2s := ho2.sl.mono (Nat.zero_le _)
            have ho3s := ho3.sl.mono (Nat.zero_le _)
            have hcp : Hid ((ordL nd).length ≤ c3) := ho3.cap
            have hsj := sumJ_bd nd nd.length (Nat.le_refl _)
            clear e1 e2 e3 hpl0 hen ho1 ho2 ho3 hDF hFo hat
            go_wp2_with fail
            refine hRf.out.mono ?_
            rintro e w8 ⟨A8, c8, rfl, hO8, hg8⟩
            clear hRf
            go_wp2_with fail
            obtain ⟨W9, hW9⟩ : ∃ x, x = w8.alloc (.cells #[.string ⟨#[112]⟩, .string ⟨#[112, 108, 97]⟩] 48) := ⟨_, rfl⟩
            have hpr : Sl W9 0 (some ⟨w8.heap.size, 0, none⟩) prP := by rw [hW9]; exact sl_one w8 0 [.string ⟨#[112]⟩, .string ⟨#[112, 108, 97]⟩] _ _ (Nat.zero_le _) rfl
            have hg9 : w8.grownBy W9 none := by rw [hW9]; exact gr_alloc (World.grownBy.refl _ _) _
            have hz9 : w8.heap.size + 1 = W9.heap.size := by rw [hW9]; simp
            rw [← hW9, hz9]
            clear hW9
            obtain ⟨W10, hW10⟩ : ∃ x, x = W9.alloc (.cells #[.slice A3 nd.length c3] 22) := ⟨_, rfl⟩
            have hg10 : W9.grownBy W10 none := by rw [hW10]; exact gr_alloc (World.grownBy.refl _ _) _
            have hpt : Sl W10 0 (some ⟨W9.heap.size, 0, none⟩) [ordL nd] := by
              rw [hW10]
              exact sl_lit W9 0 [.slice A3 nd.length c3] _ _ (Nat.zero_le _) (by simp [maxLen]) ⟨_, [], rfl, ⟨A3, c3, by rw [hl3.out], hcp.out, by rw [← hW10]; exact ho3s.pure ((hg8.t hg9).t hg10)⟩, rfl⟩
            rw [← hW10]
            clear hW10
            refine (hEF.out _ _ 1 1 _ (hpr.pure hg10) (ho2s.pure ((hg8.t hg9).t hg10)) hpt).mono ?_
            rintro e w11 ⟨A11, c11, rfl, -, hg11⟩
            replace hg11 := hgr.t (((hg8.t hg9).t hg10).t hg11)
            clear hEF hpt hpr ho2s ho3s hg8 hg9 hg10 hgr hz9 hO8
            go_wp2_with fail
            refine (h06facts_any _).mono ?_
            rintro e wr9 ⟨rfl, hr9⟩
            go_wp2_with fail
            go_ret
            exact ⟨rfl, hgw.t (hg6.t (hg11.t hr9))⟩
    · have hb : (ndsF nd != 0) = true := by simp [hF2]
      generalize ndsF nd = Z at *
      clear hF2
      go_wp2_with fail
      refine hSF.out.mono ?_
      rintro e w4 ⟨rfl, hg4⟩
      go_wp2_with fail
      refine (hNF.out w4 hg4).mono ?_
      rintro e w5 ⟨rfl, hg5⟩
      go_wp2_with fail
      refine (h06facts_any _).mono ?_
      rintro e wr9 ⟨rfl, hr9⟩
      go_wp2_with fail
      go_ret
      exact ⟨rfl, hgw.t (hg4.t (hg5.t hr9))⟩
  · have hb : (splsF s != 0) = true := by simp [hF]
    generalize splsF s = Z at *
    replace hSF := hide hSF
    clear hF
    go_wp2_with fail
    refine hSF.out.mono ?_
    rintro e w4 ⟨rfl, hg4⟩
    go_wp2_with fail
    refine (h06facts_any _).mono ?_
    rintro e wr9 ⟨rfl, hr9⟩
    go_wp2_with fail
    go_ret
    exact ⟨rfl, hgw.t (hg4.t hr9)⟩

end Go.Proofs.YtpdhbhlnopmifaaGreatDoor

/- Contracts of functions that this seat's laws reach, each: what one call returns and what it leaves in memory; no condition beyond each theorem's own hypotheses. -/
import Derived.Test.YtoldefommoiiiaaGreatDoorZqTextB
import Derived.Test.YtoldefommoiiiaaGreatDoorZqPathText
import Derived.Test.YtoldefommoiiiaaGreatDoorZqRowsP
import Derived.Test.YtoldefommoiiiaaGreatDoorZqNestCat
import Derived.Lib.ItoaLen
import Derived.Test.YtoldefommoiiiaaGreatDoorZqPathE
import Derived.Test.YtoldefommoiiiaaGreatDoorZqTree
set_option linter.unusedVariables false
set_option linter.unusedSimpArgs false
namespace Go.Proofs.YtoldefommoiiiaaGreatDoor
open Go Go.RowKit Go.Bl

theorem body_len2 (s : List UInt8) : s.length ≤ (bodyB s).length + 1 := by
  rcases body_cases s with ⟨_, h⟩ | ⟨_, h⟩
  · have := congrArg List.length h; simp at this; omega
  · have := congrArg List.length h; omega

set_option maxHeartbeats 1000000 in
theorem refNumber_any (s : ByteArray) (w : World) (hs : s.size ≤ 9223372036854775807) (hT : Tab w) :
    Calls Tryz.prog 115 #[.string s, .int .i64 15] w fun e w' => ∃ n, e = .returned (.tuple #[.int .i64 n, .bool (numK s.data.toList).isSome]) ∧ (-9223372036854775808 ≤ n ∧ n ≤ 9223372036854775807) ∧ (∀ k, numK s.data.toList = some k → n = k) ∧ w.grownBy w' none := by
  have hbl := body_len s.data.toList
  have hbl2 := body_len2 s.data.toList
  have hsl := Lib.size_eq s
  obtain ⟨d, hd⟩ : ∃ d, bodyB s.data.toList = d := ⟨_, rfl⟩
  have hcut := trimDash_any s w
  rw [hd] at hcut hbl hbl2
  have hsz := mkB_size d
  have no : digsOk s.data.toList = false → numK s.data.toList = none := by
    intro h; unfold numK; rw [h]; simp
  have hz64 : (-9223372036854775808 : Int) ≤ 0 ∧ (0 : Int) ≤ 9223372036854775807 := by omega
  by_cases hin : 1 ≤ d.length ∧ d.length ≤ 15
  · have hi : inB (d.length : Int) 1 15 = true := inB_of (by omega) (by omega)
    have htr := trimDigs_any (mkB d) w (by rw [mkB_size]; omega)
    rw [mkB_data] at htr
    by_cases hdg : d.all isDig = true
    · rw [hdg] at htr
      have hok : digsOk s.data.toList = true := by
        unfold digsOk; rw [hd, hdg]
        cases d with
        | nil => simp at hin
        | cons c t => simp only [List.isEmpty_cons]; simp at hin ⊢; omega
      have hat := Tryz.strconv_Atoi s (numV s.data.toList) (by omega) (atoi_whole hok)
      have hb := numV_bd hok
      have hnk := numK_ref hok
      obtain ⟨n, hn⟩ : ∃ n, numV s.data.toList = n := ⟨_, rfl⟩
      rw [hn] at hat hb hnk
      obtain ⟨z, hz⟩ : ∃ z, (mkB (Lib.itoa n)).toList = z := ⟨_, rfl⟩
      have hzs : ((mkB (Lib.itoa n)).toList == s.toList) = (numK s.data.toList).isSome := by
        rw [hnk, mkB_toList, Lib.toList_data]
        by_cases h : Lib.itoa n = s.data.toList
        · rw [if_pos h, h]; simp
        · rw [if_neg h, beq_eq_false_iff_ne.2 h]; rfl
      have hval : ∀ k, numK s.data.toList = some k → n = k := by
        intro k hk
        rw [hnk] at hk
        split at hk
        · injection hk
        · cases hk
      have hn64 : (-9223372036854775808 : Int) ≤ n ∧ n ≤ 9223372036854775807 := by omega
      generalize (numK s.data.toList).isSome = B at *
      replace hzs := hide hzs
      replace hval := hide hval
      clear hnk hz hn hok hdg no hd hb
      go_enter Tryz.func115, Tryz.ntmps115
      go_wp2_with fail
      refine hcut.mono ?_
      rintro e w1 ⟨rfl, rfl⟩
      clear hcut
      go_wp2_with (go_at_call 71; refine (in_any _ _ _ _).mono ?_; rintro _ _ ⟨rfl, rfl⟩; rw [hi])
      refine htr.mono ?_
      rintro e w2 ⟨T, rfl, hTe, hg⟩
      clear htr
      go_wp2_with fail
      refine (hat _).mono ?_
      rintro e w3 ⟨rfl, t, rfl⟩
      have hg3 := hg.t (gr_bytesWorld w2 5 t)
      clear hat
      go_wp2_with fail
      refine (itoa_any n _ hn64 (hT.gr hg3)).mono ?_
      rintro e w4 ⟨rfl, hg4⟩
      go_wp2_with fail
      go_ret2
      refine ⟨n, ?_, hn64, hval.out, hg3.t hg4⟩
      rw [← hzs.out]; rfl
    · have hdg2 : d.all isDig = false := by simpa using hdg
      have hk : numK s.data.toList = none := no (by unfold digsOk; rw [hd, hdg2]; simp)
      rw [hk]
      rw [hdg2] at htr
      clear no hdg
      replace hd := hide hd
      go_enter Tryz.func115, Tryz.ntmps115
      go_wp2_with fail
      refine hcut.mono ?_
      rintro e w1 ⟨rfl, rfl⟩
      clear hcut
      go_wp2_with (go_at_call 71; refine (in_any _ _ _ _).mono ?_; rintro _ _ ⟨rfl, rfl⟩; rw [hi])
      refine htr.mono ?_
      rintro e w2 ⟨T, rfl, hTe, hg⟩
      clear htr
      go_wp2_with fail
      all_goals (go_ret2; exact ⟨0, rfl, hz64, (fun k h => by cases h), hg⟩)
  · have hi : inB (d.length : Int) 1 15 = false := by unfold inB; rw [Bool.and_eq_false_iff]; simp; omega
    have hk : numK s.data.toList = none := no (by
      unfold digsOk; rw [hd]
      cases d with
      | nil => rfl
      | cons c t => simp at hin ⊢; intros; omega)
    rw [hk]
    clear no
    replace hd := hide hd
    replace hin := hide hin
    go_enter Tryz.func115, Tryz.ntmps115
    go_wp2_with fail
    refine hcut.mono ?_
    rintro e w1 ⟨rfl, rfl⟩
    clear hcut
    go_wp2_with (go_at_call 71; refine (in_any _ _ _ _).mono ?_; rintro _ _ ⟨rfl, rfl⟩; rw [hi])
    all_goals (go_ret2; exact ⟨0, rfl, hz64, (fun k h => by cases h), World.grownBy.refl _ _⟩)

/-- what a row of words is as numbers -/
def numsB (l : List ByteArray) : Option (List Int) := numsK (l.map (·.data.toList))

theorem numsB_take {l : List ByteArray} {k : Nat} (h : k < l.length) : numsB (l.take (k + 1)) = match numsB (l.take k), numK l[k].data.toList with
    | some r, some n => some (r ++ [n])
    | _, _ => none := by
  unfold numsB
  rw [take_snoc h, List.map_append]
  exact numsK_snoc _ _

theorem numsB_pre {l : List ByteArray} {k : Nat} (h : numsB (l.take k) = none) : numsB l = none := by
  have go : ∀ (a b : List (List UInt8)), numsK a = none → numsK (a ++ b) = none := by
    intro a
    induction a with
    | nil => intro b h; cases h
    | cons x a ih =>
      intro b h
      simp only [numsK] at h
      simp only [List.cons_append, numsK]
      cases hx : numK x with
      | none => rfl
      | some n =>
        rw [hx] at h
        cases ha : numsK a with
        | none => rw [ih b ha]
        | some r => rw [ha] at h; cases h
  unfold numsB at *
  have e : l.map (·.data.toList) = (l.take k).map (·.data.toList) ++ (l.drop k).map (·.data.toList) := by rw [← List.map_append, List.take_append_drop]
  rw [e]
  exact go _ _ h

set_option maxHeartbeats 1000000 in
theorem numbers_any (A : Option Addr) (c : Nat) (l : List ByteArray) (w : World) (hl : Sl w 0 A l) (hs : Hid (∀ x ∈ l, x.size ≤ 9223372036854775807)) (hlen : l.length ≤ 1000000) :
    Calls Tryz.prog 51 #[.slice A l.length c] w fun e w' => ∃ A' c', e = .returned (.tuple #[.slice A' ((numsB l).getD []).length c', .bool (numsB l).isSome]) ∧ Own w' w.heap.size 3 A' c' ((numsB l).getD []) ∧ w.grownBy w' none := by
  obtain ⟨i0, hi, hz, h1, h2⟩ := info_parts info_int
  go_enter Tryz.func51, Tryz.ntmps51
  go_wp2_with fail
  go_loopw [4, 11] (fun o i wr => ∃ (k : Nat) (r : List Int) (A2 : Option Addr) (c2 : Nat), k ≤ l.length ∧ i = .int .i64 k ∧ o = .slice A2 r.length c2 ∧ Hid (numsB (l.take k) = some r) ∧ Hid (r.length = k) ∧ Own wr w.heap.size 3 A2 c2 r ∧ w.grownBy wr none) (fun _ i _ => l.length - (intOf i).toNat)
  case atStart => exact ⟨0, [], none, 0, Nat.zero_le _, rfl, rfl, rfl, rfl, Own.nil _ _ _, World.grownBy.refl _ _⟩
  case round =>
    obtain ⟨k, r, A2, c2, hk, rfl, rfl, hr, hrl, hO, hg⟩ := hrel
    by_cases hlt : k < l.length
    · obtain ⟨g, o, cx, rfl, hb0, hb1, rfl, hc⟩ := (hl.pure hg).at_ (by decide) hlt
      have c0 : wr.cell? ⟨g, o + k, none⟩ = some (.string l[k]) := by have := hc 0 _ rfl; rwa [show Enc.sz ByteArray = 1 from rfl, Nat.mul_one] at this
      clear hc
      have hN := kitNumber_any l[k] wr (hs.out _ (List.getElem_mem hlt))
      have htk := numsB_take hlt
      rw [hr.out] at htk
      cases hv : numK l[k].data.toList with
      | none =>
        rw [hv] at htk hN
        have hall := hide (numsB_pre htk)
        clear htk hv hr
        go_wp2_with fail
        refine hN.mono ?_
        rintro e w2 ⟨rfl, hg2⟩
        clear hN
        go_wp2_with fail
        go_ret2
        rw [hall.out]
        exact ⟨none, 0, rfl, Own.nil _ _ _, hg.t hg2⟩
      | some n =>
        rw [hv] at htk hN
        replace htk := hide htk
        clear hv hr
        have hrl2 : r.length ≤ 1000000 := by have := hrl.out; omega
        go_wp2_with fail
        refine hN.mono ?_
        rintro e w2 ⟨rfl, hg2⟩
        clear hN
        have hg3 := hg.t hg2
        have hO3 := hO.pure hg2
        have hsz := hg3.size
        clear hO
        go_wp2_with (at_builtin; refine wpList_push (α := Int) _ rfl (.tmp 22) (.tmp 24) _ rfl w.heap.size 3 i0 _ 8 Tryz.underlying22 hi hz h1 h2 rfl _ _ _ r rfl ?c1 (by exact (hO3.pure (by repeat (first | exact World.grownBy.refl _ _ | assumption | refine gr_alloc ?_ _ | refine gr_drewN ?_ _ | refine gr_drew ?_)))) 0 ⟨_, 0, none⟩ 1 1 [n] rfl rfl (by exact sl_int1 _ _ _ _ (by first | rfl | simp)) ?c2 ?c3 ?c4 ?_)
        case c1 => rfl
        case c2 => simp; omega
        case c3 => simp [maxLen]; omega
        case c4 => simp; omega
        intro A3 c3 w3 hO4 hup3
        go_wp2
        (go_roundw; (case rel => exact ⟨k + 1, r ++ [n], A3, c3, by omega, by go_num, by simp, htk, by rw [Hid, List.length_append, hrl.out]; rfl, hO4, hup3.gr (Nat.le_refl _) (gr_alloc hg3 _)⟩); (case measure => simp [intOf]; omega))
    · obtain rfl : k = l.length := by omega
      have hr2 := hr.out
      rw [List.take_length] at hr2
      replace hr2 := hide hr2
      clear hr
      go_wp2_with fail
      go_ret2
      rw [hr2.out]
      exact ⟨A2, c2, rfl, hO, hg⟩

set_option maxHeartbeats 1000000 in
theorem numbersIn_any (A : Option Addr) (c : Nat) (l : List ByteArray) (w : World) (hl : Sl w 0 A l) (hs : Hid (∀ x ∈ l, x.size ≤ 9223372036854775807)) (hlen : l.length ≤ 1000000) (hT : Tab w) :
    Calls Tryz.prog 86 #[.slice A l.length c, .int .i64 15] w fun e w' => ∃ A' r c', e = .returned (.tuple #[.slice A' l.length c', .bool (numsB l).isSome]) ∧ r.length = l.length ∧ (∀ v, numsB l = some v → r = v) ∧ Own w' w.heap.size 3 A' c' r ∧ w.grownBy w' none := by
  obtain ⟨i0, hi, hz, h1, h2⟩ := info_parts info_int
  go_enter Tryz.func86, Tryz.ntmps86
  go_wp2_with fail
  go_loopw [6, 7, 14] (fun o b i wr => ∃ (k : Nat) (r : List Int) (A2 : Option Addr) (c2 : Nat), k ≤ l.length ∧ i = .int .i64 k ∧ o = .slice A2 k c2 ∧ b = .bool (numsB (l.take k)).isSome ∧ Hid (∀ v, numsB (l.take k) = some v → r = v) ∧ Hid (r.length = k) ∧ Own wr w.heap.size 3 A2 c2 r ∧ w.grownBy wr none) (fun _ _ i _ => l.length - (intOf i).toNat)
  case atStart => exact ⟨0, [], none, 0, Nat.zero_le _, rfl, rfl, rfl, (fun v h => by injection h), rfl, Own.nil _ _ _, World.grownBy.refl _ _⟩
  case round =>
    obtain ⟨k, r, A2, c2, hk, rfl, rfl, rfl, hr, hrl, hO, hg⟩ := hrel
    by_cases hlt : k < l.length
    · obtain ⟨g, o, cx, rfl, hb0, hb1, rfl, hc⟩ := (hl.pure hg).at_ (by decide) hlt
      have c0 : wr.cell? ⟨g, o + k, none⟩ = some (.string l[k]) := by have := hc 0 _ rfl; rwa [show Enc.sz ByteArray = 1 from rfl, Nat.mul_one] at this
      clear hc
      have hN := refNumber_any l[k] wr (hs.out _ (List.getElem_mem hlt)) (hT.gr hg)
      have htk := numsB_take hlt
      obtain ⟨b, hb⟩ : ∃ b, (numsB (l.take k)).isSome = b := ⟨_, rfl⟩
      obtain ⟨b2, hb2⟩ : ∃ b, (numK l[k].data.toList).isSome = b := ⟨_, rfl⟩
      have hb3 : Hid ((numsB (l.take (k + 1))).isSome = (b && b2)) := by
        rw [Hid, htk, ← hb, ← hb2]
        cases numsB (l.take k) <;> cases numK l[k].data.toList <;> rfl
      rw [hb2] at hN
      rw [hb]
      replace htk := hide htk
      replace hb := hide hb
      replace hb2 := hide hb2
      go_wp2_with fail
      refine hN.mono ?_
      rintro e w2 ⟨n, rfl, hn64, hn, hg2⟩
      clear hN
      have hr1 : Hid (∀ v, numsB (l.take (k + 1)) = some v → r ++ [n] = v) := by
        intro v hv
        rw [htk.out] at hv
        cases h1 : numsB (l.take k) with
        | none => rw [h1] at hv; cases hv
        | some r0 =>
          cases h2 : numK l[k].data.toList with
          | none => rw [h1, h2] at hv; cases hv
          | some n0 =>
            rw [h1, h2] at hv
            have hv2 : r0 ++ [n0] = v := Option.some.inj hv
            rw [← hv2, hr.out _ h1, hn _ h2]
      have hg3 := hg.t hg2
      have hO3 := hO.pure hg2
      have hsz := hg3.size
      clear hO hn htk hr
      go_wp2_with (at_builtin; refine wpList_push (α := Int) _ rfl (.tmp 24) (.tmp 26) _ rfl w.heap.size 3 i0 _ 8 Tryz.underlying22 hi hz h1 h2 rfl _ _ _ r rfl ?c1 (by exact (hO3.pure (by repeat (first | exact World.grownBy.refl _ _ | assumption | refine gr_alloc ?_ _ | refine gr_drewN ?_ _ | refine gr_drew ?_)))) 0 ⟨_, 0, none⟩ 1 1 [n] rfl rfl (by exact sl_int1 _ _ _ _ (by first | rfl | simp)) ?c2 ?c3 ?c4 ?_)
      case c1 => exact hrl.out.symm
      case c2 => simp; have := hrl.out; omega
      case c3 => simp [maxLen]; have := hrl.out; omega
      case c4 => simp; omega
      intro A3 c3 w3 hO4 hup3
      cases b <;> cases b2 <;> go_wp2_with fail
      all_goals (go_roundw; (case rel => exact ⟨k + 1, r ++ [n], A3, c3, by omega, by go_num, by rw [hrl.out], by rw [hb3.out]; rfl, hr1, by rw [Hid, List.length_append, hrl.out]; rfl, hO4, hup3.gr (Nat.le_refl _) (gr_alloc hg3 _)⟩); (case measure => simp [intOf]; omega))
    · obtain rfl : k = l.length := by omega
      have hr2 := hr.out
      rw [List.take_length] at hr2 ⊢
      replace hr2 := hide hr2
      clear hr
      go_wp2_with fail
      go_ret2
      exact ⟨A2, r, c2, rfl, hrl.out, hr2.out, hO, hg⟩

theorem mkB_append (a b : List UInt8) : mkB a ++ mkB b = mkB (a ++ b) := by
  apply ByteArray.ext
  apply Array.toList_inj.1
  simp [mkB]

set_option maxHeartbeats 1000000 in
set_option maxRecDepth 100000 in
theorem pointLine_any (q : Pt) (w : World) (hq : near q) (hT : Tab w) :
    Calls Tryz.prog 47 #[.agg #[.int .i64 q.x, .int .i64 q.y]] w fun e w' => e = .returned (.string (mkB (ptLine q ++ [10]))) ∧ w.grownBy w' none := by
  unfold near at hq
  have hx : -9223372036854775808 ≤ q.x ∧ q.x ≤ 9223372036854775807 := by omega
  have hy : -9223372036854775808 ≤ q.y ∧ q.y ≤ 9223372036854775807 := by omega
  clear hq
  have sx : (mkB (Lib.itoa q.x)).size ≤ 21 := by rw [mkB_size]; exact Lib.itoa_length_le _ hx.1 hx.2
  have sy : (mkB (Lib.itoa q.y)).size ≤ 21 := by rw [mkB_size]; exact Lib.itoa_length_le _ hy.1 hy.2
  go_enter Tryz.func47, Tryz.ntmps47
  go_upto_region 1 with fail
  obtain ⟨w1, hw1⟩ : ∃ x, x = (w).alloc (.cells [.int .i64 q.x, .int .i64 q.y].toArray 45) := ⟨_, rfl⟩
  have hg1 : (w).grownBy w1 none := by rw [hw1]; exact gr_alloc (World.grownBy.refl _ _) _
  have hb1 : Box w1 (w).heap.size 45 [.int .i64 q.x, .int .i64 q.y] := by rw [hw1]; exact Box.new _ _ _
  have hxs1 := hb1.lt
  rw [← hw1]
  clear hw1
  obtain ⟨x1, hx1⟩ : ∃ x, x = (w).heap.size := ⟨_, rfl⟩
  rw [← hx1] at hb1 hxs1 ⊢
  have hxl1 : (w).heap.size ≤ x1 := by omega
  clear hx1
  obtain ⟨b0, _⟩ := hb1.c 0 rfl
  obtain ⟨b1, _⟩ := hb1.c 1 rfl
  refine wp_region_tree (fun wx => w1.grownBy wx none) [2, 1, 0, 2, 2, 1, 0, 2, 2, 2] (.bl 0 (.bl 1 (.bl 4 (.bl 5 (.ef 2 (.bl 3 (.ef 6 (.bl 7 (.bl 8 (.bl 9 .done)))))))))) (by kernel_rfl) (by kernel_rfl) (gr_drew (World.grownBy.refl _ _)) ?_
  obtain ⟨W1, hW1⟩ : ∃ x, x = (w1).drew := ⟨_, rfl⟩
  rw [← hW1]
  have hgW1 : (w1).grownBy W1 none := by rw [hW1]; exact gr_drew (World.grownBy.refl _ _)
  clear hW1
  refine tree_p rfl rfl rfl rfl _ rfl (by simp) (fun K hK => ?_)
  apply Exists.intro
  refine ⟨fun wq K' hK' => ?_, ?_⟩
  · go_wp2_with fail
    exact hK'
  go_simp
  refine hK _ ?_
  clear hK K
  refine tree_b rfl rfl rfl rfl _ rfl (by simp) (fun K hK => ?_)
  apply Exists.intro
  refine ⟨fun wq hq K' hK' => ?_, ?_⟩
  · have y0 := hq.k b0
    have y1 := hq.k b1
    go_wp2_with fail
    exact hK'
  go_simp
  refine hK _ ?_
  clear hK K
  refine tree_p rfl rfl rfl rfl _ rfl (by simp) (fun K hK => ?_)
  apply Exists.intro
  refine ⟨fun wq K' hK' => ?_, ?_⟩
  · go_wp2_with fail
    exact hK'
  go_simp
  refine hK _ ?_
  clear hK K
  refine tree_b rfl rfl rfl rfl _ rfl (by simp) (fun K hK => ?_)
  apply Exists.intro
  refine ⟨fun wq hq K' hK' => ?_, ?_⟩
  · have y0 := hq.k b0
    have y1 := hq.k b1
    go_wp2_with fail
    exact hK'
  go_simp
  refine hK _ ?_
  clear hK K
  refine tree_e rfl rfl (fun K hK => ?_)
  go_wp2_with fail
  refine (itoa_any q.x W1 hx (hT.gr (hg1.t (gr_trans hgW1 (World.grownBy.refl _ _))))).mono ?_
  rintro e w3 ⟨rfl, hg3⟩
  have hW3 : w1.grownBy w3 none := gr_trans (gr_trans hgW1 (World.grownBy.refl _ _)) hg3
  go_wp2_with fail
  try go_simp
  refine hK _ _ (hW3) ?_
  clear hK K
  refine tree_p rfl rfl rfl rfl _ rfl (by simp) (fun K hK => ?_)
  apply Exists.intro
  refine ⟨fun wq K' hK' => ?_, ?_⟩
  · go_wp2_with fail
    exact hK'
  go_simp
  refine hK _ ?_
  clear hK K
  refine tree_e0 (by kernel_rfl) rfl rfl (fun K hK => ?_)
  go_wp2_with fail
  refine (itoa_any q.y w3 hy (hT.gr (hg1.t hW3))).mono ?_
  rintro e w4 ⟨rfl, hg4⟩
  go_wp2_with fail
  try go_simp
  refine hK _ _ trivial ?_
  clear hK K
  refine tree_p rfl rfl rfl rfl _ rfl (by simp) (fun K hK => ?_)
  apply Exists.intro
  refine ⟨fun wq K' hK' => ?_, ?_⟩
  · go_wp2_with fail
    exact hK'
  go_simp
  refine hK _ ?_
  clear hK K
  refine tree_p rfl rfl rfl rfl _ rfl (by simp) (fun K hK => ?_)
  apply Exists.intro
  refine ⟨fun wq K' hK' => ?_, ?_⟩
  · go_wp2_with fail
    exact hK'
  go_simp
  refine hK _ ?_
  clear hK K
  refine tree_p rfl rfl rfl rfl _ rfl (by simp) (fun K hK => ?_)
  apply Exists.intro
  refine ⟨fun wq K' hK' => ?_, ?_⟩
  · go_wp2_with fail
    exact hK'
  go_simp
  refine hK _ ?_
  clear hK K
  refine tree_done ?_
  go_wp2_with fail
  go_ret
  refine ⟨?_, hg1.t (hW3.t hg4)⟩
  show Ending.returned (.string (mkB (Lib.itoa q.x) ++ mkB [32] ++ mkB (Lib.itoa q.y) ++ mkB [10])) = _
  rw [mkB_append, mkB_append, mkB_append]
  simp [ptLine, joined]

end Go.Proofs.YtoldefommoiiiaaGreatDoor

namespace Go.Proofs.YtoldefommoiiiaaGreatDoor
open Go Go.RowKit Go.Bl

theorem Sl.cells {α : Type} [Enc α] {w : World} {lo : Nat} {A : Option Addr} {l : List α} (h : Sl w lo A l) (h0 : l ≠ []) (hs : 0 < Enc.sz α) : ∃ g o, A = some ⟨g, o, none⟩ ∧ lo ≤ g ∧ g < w.heap.size := by
  obtain ⟨g, o, c1, e, h1, h2, _⟩ := h.at_ hs (k := 0) (List.length_pos_iff.2 h0)
  exact ⟨g, o, e, h1, h2⟩

theorem strs_cells {w : World} {lo g o : Nat} {l : List ByteArray} (h : Sl w lo (some ⟨g, o, none⟩) l) : ∀ (j : Nat) x, l[j]? = some x → w.cell? ⟨g, o + j, none⟩ = some (.string x) := by
  intro j x hx
  obtain ⟨hj, rfl⟩ := List.getElem?_eq_some_iff.1 hx
  obtain ⟨g', o', cx, e, _, _, rfl, hc⟩ := h.at_ (by decide) hj
  injection e with e
  injection e with e1 e2
  subst e1 e2
  have := hc 0 _ rfl
  rwa [show Enc.sz ByteArray = 1 from rfl, Nat.mul_one] at this

set_option maxHeartbeats 1000000 in
theorem kitJoin_any (A : Option Addr) (c : Nat) (xs : List ByteArray) (w : World) (hl : Sl w 0 A xs) (h0 : xs ≠ []) (hc : xs.length ≤ c) (hn : xs.length ≤ 1000000) (hsz : (joined (xs.map (·.data.toList))).length ≤ 1000000) :
    Calls Tryz.prog 43 #[.slice A xs.length c] w fun e w' => e = .returned (.string (mkB (joined (xs.map (·.data.toList)) ++ [10]))) ∧ w.grownBy w' none := by
  obtain ⟨g, o, rfl, _, hb⟩ := Sl.cells hl h0 (by decide)
  have hJ := Tryz.strings_Join g o c xs ⟨#[32]⟩ w (strs_cells hl) hb (by omega) hc (by rw [show (⟨#[32]⟩ : ByteArray).data.toList = [32] from rfl, joined_lib]; omega)
  rw [show (⟨#[32]⟩ : ByteArray).data.toList = [32] from rfl, joined_lib] at hJ
  have hs2 : (mkB (joined (xs.map (·.data.toList)))).size ≤ 1000000 := by rw [mkB_size]; exact hsz
  go_enter Tryz.func43, Tryz.ntmps43
  go_wp2_with fail
  refine hJ.mono ?_
  rintro e w1 ⟨rfl, hb1⟩
  clear hJ
  obtain ⟨J, hJ⟩ : ∃ J, joined (xs.map (·.data.toList)) = J := ⟨_, rfl⟩
  rw [hJ] at hsz ⊢
  clear hs2
  go_wp2_with fail
  go_ret
  refine ⟨?_, gr_below hb1⟩
  rw [hJ]
  show Ending.returned (.string (mkB J ++ mkB [10])) = _
  rw [mkB_append]

theorem suffix_nl {s : List UInt8} (h0 : s ≠ []) : Lib.hasSuffix s [10] = decide (s.getLast? = some 10) ∧ (s.getLast? = some 10 → Lib.trimSuffix s [10] = s.dropLast) ∧ (s.getLast? ≠ some 10 → Lib.trimSuffix s [10] = s) := by
  obtain ⟨r, b, rfl⟩ : ∃ r b, s = r ++ [b] := ⟨s.dropLast, s.getLast h0, (List.dropLast_concat_getLast h0).symm⟩
  have e : Lib.hasSuffix (r ++ [b]) [10] = decide (b = 10) := by
    unfold Lib.hasSuffix
    rw [Bool.eq_iff_iff, List.isSuffixOf_iff_suffix]
    simp only [decide_eq_true_eq]
    constructor
    · rintro ⟨t, ht⟩
      have := congrArg List.getLast? ht
      simp at this
      exact this.symm
    · rintro rfl; exact ⟨r, rfl⟩
  have hl : (r ++ [b]).getLast? = some b := by simp
  refine ⟨by rw [e, hl]; simp, fun h => ?_, fun h => ?_⟩
  · rw [hl] at h
    injection h with h
    unfold Lib.trimSuffix
    rw [e, decide_eq_true h]
    simp
  · rw [hl] at h
    unfold Lib.trimSuffix
    rw [e, decide_eq_false (fun x => h (by rw [x]))]
    simp

theorem cutNl_any (s : ByteArray) (w : World) (h0 : s.data.toList ≠ []) (hs : s.size ≤ 9223372036854775807) :
    Calls Tryz.prog 82 #[.string s, .string ⟨#[10]⟩] w fun e w' => ∃ b : List UInt8, e = .returned (.tuple #[.string (mkB b), .bool (linesK s.data.toList).2]) ∧ pieces 10 b = (linesK s.data.toList).1 ∧ b.length ≤ s.size ∧ w' = w := by
  have h := Tryz.strings_CutSuffix s ⟨#[10]⟩ w hs
  rw [show (⟨#[10]⟩ : ByteArray).data.toList = [10] from rfl] at h
  obtain ⟨h1, h2, h3⟩ := suffix_nl h0
  refine h.mono ?_
  rintro e w' ⟨rfl, rfl⟩
  have hsz := Lib.size_eq s
  unfold linesK
  rw [if_neg h0, h1]
  by_cases hl : s.data.toList.getLast? = some 10
  · rw [if_pos hl, h2 hl, decide_eq_true hl]
    exact ⟨_, rfl, rfl, by rw [List.length_dropLast]; omega, rfl⟩
  · rw [if_neg hl, h3 hl, decide_eq_false hl]
    exact ⟨_, rfl, rfl, by omega, rfl⟩

def linesB (s : ByteArray) : List ByteArray := (linesK s.data.toList).1.map mkB

set_option maxHeartbeats 1000000 in
theorem kitLines_any (s : ByteArray) (w : World) (hs : s.size ≤ 200000) :
    Calls Tryz.prog 50 #[.string s] w fun e w' => ∃ A c, e = .returned (.tuple #[.slice A (linesB s).length c, .bool (linesK s.data.toList).2]) ∧ Sl w' 0 A (linesB s) ∧ w.grownBy w' none := by
  have hsz := Lib.size_eq s
  have hemp : s.toList.isEmpty = s.data.toList.isEmpty := by rw [Lib.toList_data]
  by_cases h0 : s.data.toList = []
  · have e1 : linesB s = [] := by unfold linesB; rw [h0]; rfl
    have e2 : (linesK s.data.toList).2 = true := by rw [h0]; rfl
    rw [e1, e2]
    rw [h0] at hemp
    simp only [List.isEmpty_nil] at hemp
    replace h0 := hide h0
    replace e2 := hide e2
    go_enter Tryz.func50, Tryz.ntmps50
    go_wp2_with fail
    all_goals (go_ret2; exact ⟨none, 0, rfl, Sl.nil, World.grownBy.refl _ _⟩)
  · have hne : s.data.toList.isEmpty = false := by cases h : s.data.toList with
      | nil => exact absurd h h0
      | cons => rfl
    rw [hne] at hemp
    have hc := cutNl_any s w h0 (by omega)
    obtain ⟨E, hE⟩ : ∃ E, (linesK s.data.toList).2 = E := ⟨_, rfl⟩
    rw [hE] at hc ⊢
    replace h0 := hide h0
    replace hE := hide hE
    go_enter Tryz.func50, Tryz.ntmps50
    go_wp2_with fail
    refine hc.mono ?_
    rintro e w1 ⟨b, rfl, hb, hbl, rfl⟩
    clear hc
    have hS := split_any (mkB b) 10 w1 (by rw [mkB_size]; omega)
    have hp : piecesB 10 (mkB b) = linesB s := by unfold piecesB linesB; rw [mkB_data, hb]
    rw [hp] at hS
    go_wp2_with fail
    refine hS.mono ?_
    rintro e w2 ⟨rfl, hsl, hg⟩
    clear hS
    go_wp2_with fail
    go_ret2
    exact ⟨_, _, rfl, hsl.mono (Nat.zero_le _), hg⟩

/-- the point that a line is -/
def ptOf (x : List UInt8) : Option Pt := match numsK (pieces 32 x) with
  | some [a, b] => some ⟨a, b⟩
  | _ => none

theorem piecesB_data (c : UInt8) (s : ByteArray) : (piecesB c s).map (·.data.toList) = pieces c s.data.toList := by
  unfold piecesB
  rw [List.map_map]
  have : ((fun (x : ByteArray) => x.data.toList) ∘ mkB) = id := by funext l; exact mkB_data l
  rw [this, List.map_id]

theorem piecesB_nums (c : UInt8) (s : ByteArray) : numsB (piecesB c s) = numsK (pieces c s.data.toList) := by unfold numsB; rw [piecesB_data]

theorem pieces_size (c : UInt8) : ∀ (l : List UInt8), (∀ x ∈ pieces c l, x.length ≤ l.length) ∧ (pieces c l).length ≤ l.length + 1
  | [] => by simp [pieces]
  | b :: l => by
    obtain ⟨h1, h2⟩ := pieces_size c l
    unfold pieces
    split
    · refine ⟨fun x hx => ?_, by simp; omega⟩
      rcases List.mem_cons.1 hx with rfl | hx
      · simp
      · have := h1 x hx; simp; omega
    · cases hp : pieces c l with
      | nil => exact absurd hp (pieces_ne _ _)
      | cons y r =>
        rw [hp] at h1 h2
        refine ⟨fun x hx => ?_, by simp at h2 ⊢; omega⟩
        rcases List.mem_cons.1 hx with rfl | hx
        · have := h1 y (by simp); simp; omega
        · have := h1 x (List.mem_cons_of_mem _ hx); simp; omega

theorem piecesB_small {s : ByteArray} (c : UInt8) (hs : s.size ≤ 200000) : (∀ x ∈ piecesB c s, x.size ≤ 9223372036854775807) ∧ (piecesB c s).length ≤ 200001 := by
  obtain ⟨h1, h2⟩ := pieces_size c s.data.toList
  have hsz := Lib.size_eq s
  constructor
  · intro x hx
    unfold piecesB at hx
    obtain ⟨y, hy, rfl⟩ := List.mem_map.1 hx
    rw [mkB_size]
    have := h1 y hy; omega
  · unfold piecesB; rw [List.length_map]; omega

set_option maxHeartbeats 1000000 in
theorem pointIn_any (s : ByteArray) (w : World) (hs : s.size ≤ 200000) (hT : Tab w) :
    Calls Tryz.prog 55 #[.string s] w fun e w' => ∃ q : Pt, e = .returned (.tuple #[.agg #[.int .i64 q.x, .int .i64 q.y], .bool (ptOf s.data.toList).isSome]) ∧ (∀ v, ptOf s.data.toList = some v → q = v) ∧ w.grownBy w' none := by
  have hS := fun wx => split_any s 32 wx (by omega)
  obtain ⟨hp1, hp2⟩ := piecesB_small 32 hs
  have hpt : ptOf s.data.toList = match numsB (piecesB 32 s) with
    | some [a, b] => some ⟨a, b⟩
    | _ => none := by rw [piecesB_nums]; rfl
  have hlen : ∀ r, numsB (piecesB 32 s) = some r → r.length = (piecesB 32 s).length := by
    intro r h
    have := numsK_len h
    rw [this, List.length_map]
  obtain ⟨ws, hws⟩ : ∃ ws, piecesB 32 s = ws := ⟨_, rfl⟩
  rw [hws] at hS hp1 hp2 hpt hlen
  obtain ⟨O, hO⟩ : ∃ O, ptOf s.data.toList = O := ⟨_, rfl⟩
  rw [hO] at hpt ⊢
  clear hws hO
  replace hp1 := hide hp1
  replace hlen := hide hlen
  go_enter Tryz.func55, Tryz.ntmps55
  go_upto_region 1 with fail
  obtain ⟨w2, hw2⟩ : ∃ x, x = (w).alloc (.cells [.int .i64 0, .int .i64 0].toArray 45) := ⟨_, rfl⟩
  have hg2 : (w).grownBy w2 none := by rw [hw2]; exact gr_alloc (World.grownBy.refl _ _) _
  have hb2 : Box w2 (w).heap.size 45 [.int .i64 0, .int .i64 0] := by rw [hw2]; exact Box.new _ _ _
  have hxs2 := hb2.lt
  rw [← hw2]
  clear hw2
  obtain ⟨x2, hx2⟩ : ∃ x, x = (w).heap.size := ⟨_, rfl⟩
  rw [← hx2] at hb2 hxs2 ⊢
  have hxl2 : (w).heap.size ≤ x2 := by omega
  clear hx2
  obtain ⟨b0, f0⟩ := hb2.c 0 rfl
  obtain ⟨b1, f1⟩ := hb2.c 1 rfl
  go_wp2_with fail
  refine (hS _).mono ?_
  rintro e w1 ⟨rfl, hsl, hg⟩
  clear hS
  have hg1 := hg2.t hg
  have hb1 := hb2.pure hg
  obtain ⟨c0, d0⟩ := hb1.c 0 rfl
  obtain ⟨c1, d1⟩ := hb1.c 1 rfl
  clear b0 f0 b1 f1
  by_cases h2 : ws.length = 2
  · have hd : ((ws.length : Int) != 2) = false := by rw [h2]; rfl
    have hN := numbersIn_any _ ws.length ws w1 (hsl.mono (Nat.zero_le _)) hp1 (by omega) (hT.gr hg1)
    obtain ⟨R, hR⟩ : ∃ R, numsB ws = R := ⟨_, rfl⟩
    rw [hR] at hN hpt
    have hRs : O.isSome = R.isSome := by
      rw [hpt]
      cases hc : R with
      | none => rfl
      | some r =>
        have := hlen.out r (by rw [hR, hc])
        rw [h2] at this
        match r, this with
        | [a, b], _ => rfl
    have hRv : ∀ a b v, O = some v → R = some [a, b] → (⟨a, b⟩ : Pt) = v := by
      intro a b v h1 h2
      rw [hpt, h2] at h1
      injection h1
    have hRl : ∀ v, O = some v → ∃ a b, R = some [a, b] := by
      intro v h
      rw [hpt] at h
      split at h
      · exact ⟨_, _, rfl⟩
      · cases h
    replace hRv := hide hRv
    replace hRl := hide hRl
    replace hRs := hide hRs
    replace h2 := hide h2
    clear hpt hR
    go_wp2_with fail
    refine hN.mono ?_
    rintro e w3 ⟨A3, r, c3, rfl, hrl, hrv, hO3, hg3⟩
    clear hN
    rw [h2.out] at hrl
    match r, hrl with
    | [a, b], _ =>
      obtain ⟨g5, rfl, hgl, hgr⟩ := hO3.shape (by simp)
      have v0 := hO3.cell_int (j := 0) (by simp)
      have v1 := hO3.cell_int (j := 1) (by simp)
      simp only [List.getElem_cons_zero, List.getElem_cons_succ] at v0 v1
      have hb3 := hb1.pure hg3
      obtain ⟨x0, y0⟩ := hb3.c 0 rfl
      obtain ⟨x1, y1⟩ := hb3.c 1 rfl
      clear c0 d0 c1 d1
      have hbS := (hb3.set_ 0 (.int .i64 a) (by simp)).set_ 1 (.int .i64 b) (by simp)
      obtain ⟨k0, l0⟩ := hbS.c 0 rfl
      obtain ⟨k1, l1⟩ := hbS.c 1 rfl
      have hgS := gr_set (gr_set (hg1.t hg3) (p := ⟨x2, 0, none⟩) (.inr hxl2) (.int .i64 a)) (p := ⟨x2, 1, none⟩) (.inr hxl2) (.int .i64 b)
      replace hgS := hide hgS
      clear hbS
      have hi1 : (1 : Int) < ws.length := by have := h2.out; omega
      go_wp2_with fail
      go_region
      go_wp2
      refine bodyPost_ret (v := .tuple #[.agg #[.int .i64 a, .int .i64 b], .bool R.isSome]) (by simp [results, Tryz.results55, go_sem, k0, k1, l0, l1]) rfl ⟨⟨a, b⟩, by rw [hRs.out], fun v hv => ?_, gr_drew hgS.out⟩
      obtain ⟨a', b', hR⟩ := hRl.out v hv
      have e := hrv _ hR
      simp only [List.cons.injEq, and_true] at e
      obtain ⟨rfl, rfl⟩ := e
      exact hRv.out _ _ v hv hR
  · have hd : ((ws.length : Int) != 2) = true := by simp; omega
    have hO : O = none := by
      rw [hpt]
      split
      · rename_i a b h
        exact absurd (hlen.out _ h).symm (by simpa using h2)
      · rfl
    replace hO := hide hO
    clear hpt
    have hbS := (hb1.set_ 0 (.int .i64 0) (by simp)).set_ 1 (.int .i64 0) (by simp)
    obtain ⟨k0, l0⟩ := hbS.c 0 rfl
    obtain ⟨k1, l1⟩ := hbS.c 1 rfl
    have hgS := gr_set (gr_set hg1 (p := ⟨x2, 0, none⟩) (.inr hxl2) (.int .i64 0)) (p := ⟨x2, 1, none⟩) (.inr hxl2) (.int .i64 0)
    replace hgS := hide hgS
    clear hbS
    go_wp2_with fail
    refine bodyPost_ret (v := .tuple #[.agg #[.int .i64 0, .int .i64 0], .bool false]) (by simp [results, Tryz.results55, go_sem, k0, k1, l0, l1]) rfl ⟨⟨0, 0⟩, by rw [hO.out]; rfl, (fun v h => by rw [hO.out] at h; cases h), hgS.out⟩

end Go.Proofs.YtoldefommoiiiaaGreatDoor

namespace Go.Proofs.YtoldefommoiiiaaGreatDoor
open Go Go.RowKit Go.Bl

theorem gr_bld {w w1 w2 : World} {B : Nat} (h : w.grownBy w1 none) (k : Below B w1 w2) (hB : B = w.heap.size) : w.grownBy w2 none := by
  subst hB
  exact gr_below ((below_gr h).trans k)

theorem ended_pre {a b : List (List UInt8)} (h : a <+: b) : (ended a).length ≤ (ended b).length := by
  obtain ⟨t, rfl⟩ := h
  rw [ended_append, List.length_append]; omega
/-- the lines up to a place -/
def partT (l : List PathV) (k j : Nat) : List (List UInt8) := allLines (l.take k) ++ (pathLines (l.getD k default)).take j

theorem partT_zero (l : List PathV) : partT l 0 0 = [] := by simp [partT, allLines]

theorem allLines_append (a b : List PathV) : allLines (a ++ b) = allLines a ++ allLines b := by simp [allLines]

theorem allLines_cons (p : PathV) (b : List PathV) : allLines (p :: b) = pathLines p ++ allLines b := by simp [allLines]

theorem partT_pre {l : List PathV} {k j : Nat} (h : k < l.length) : partT l k j <+: allLines l := by
  have e : allLines l = allLines (l.take k) ++ (pathLines l[k] ++ allLines (l.drop (k + 1))) := by
    conv => lhs; rw [← List.take_append_drop k l, List.drop_eq_getElem_cons h]
    rw [allLines_append, allLines_cons]
  have e2 : l.getD k default = l[k] := by simp [List.getD, h]
  unfold partT
  rw [e, e2]
  refine List.prefix_append_right_inj _ |>.2 ?_
  exact (List.take_prefix _ _).trans (List.prefix_append _ _)

theorem partT_head {l : List PathV} {k : Nat} (h : k < l.length) : partT l k 1 = partT l k 0 ++ [headT l[k].cl] := by
  have e2 : l.getD k default = l[k] := by simp [List.getD, h]
  unfold partT
  rw [e2]
  simp [pathLines]

theorem partT_pt {l : List PathV} {k j : Nat} (h : k < l.length) (hj : j < l[k].pts.length) : partT l k (j + 2) = partT l k (j + 1) ++ [ptLine l[k].pts[j]] := by
  have e2 : l.getD k default = l[k] := by simp [List.getD, h]
  unfold partT
  rw [e2]
  have hl : j + 1 < (pathLines l[k]).length := by simp [pathLines]; omega
  rw [take_snoc hl, ← List.append_assoc]
  simp [pathLines]

theorem partT_next {l : List PathV} {k : Nat} (h : k < l.length) : partT l k (l[k].pts.length + 1) = partT l (k + 1) 0 := by
  have e2 : l.getD k default = l[k] := by simp [List.getD, h]
  unfold partT
  rw [e2, take_snoc h, allLines_snoc]
  have : (pathLines l[k]).length = l[k].pts.length + 1 := by simp [pathLines]
  rw [List.take_of_length_le (Nat.le_of_eq this)]
  simp

theorem partT_all (l : List PathV) : ended (partT l l.length 0) = pathText l := by unfold partT pathText; simp

theorem ended_one (a : List (List UInt8)) (x : List UInt8) : ended (a ++ [x]) = ended a ++ (x ++ [10]) := by simp [ended]

theorem ptLine_len {q : Pt} (h : near q) : (ptLine q).length ≤ 50 := by
  unfold near at h
  have h1 := Lib.itoa_length_le q.x (by omega) (by omega)
  have h2 := Lib.itoa_length_le q.y (by omega) (by omega)
  simp only [ptLine, joined, List.length_append, List.length_cons]; omega

theorem joinOne_any (W : ByteArray) (w : World) (hW : W.size ≤ 1000000) :
    Calls Tryz.prog 43 #[.slice (some ⟨w.heap.size, 0, none⟩) 1 1] (w.alloc (.cells #[.string W] 9)) fun e w' => ∃ J, e = .returned (.string J) ∧ Hid (J.data.toList = W.data.toList ++ [10]) ∧ J.size = W.size + 1 ∧ w.grownBy w' none := by
  have hs := Lib.size_eq W
  refine (kitJoin_any (some ⟨w.heap.size, 0, none⟩) 1 [W] _ (sl_oneAt w 0 [.string W] _ W _ rfl (Nat.zero_le _) rfl) (by simp) (by simp) (by simp) ?_).mono ?_
  · show W.data.toList.length ≤ _
    omega
  · rintro e w' ⟨rfl, hg⟩
    exact ⟨_, rfl, rfl, by rw [mkB_size, List.length_append]; show W.data.toList.length + 1 = _; omega, gr_trans (gr_alloc (World.grownBy.refl w none) _) hg⟩

theorem joinTwo_any (W V : ByteArray) (w : World) (hW : W.size ≤ 100000) (hV : V.size ≤ 100000) :
    Calls Tryz.prog 43 #[.slice (some ⟨w.heap.size, 0, none⟩) 2 2] (w.alloc (.cells #[.string W, .string V] 9)) fun e w' => ∃ J, e = .returned (.string J) ∧ Hid (J.data.toList = joined [W.data.toList, V.data.toList] ++ [10]) ∧ J.size = W.size + V.size + 2 ∧ w.grownBy w' none := by
  have hs := Lib.size_eq W
  have hs2 := Lib.size_eq V
  refine (kitJoin_any (some ⟨w.heap.size, 0, none⟩) 2 [W, V] _ (sl_lit w 0 [.string W, .string V] _ [W, V] (Nat.zero_le _) (by simp [maxLen]) (row_strT _ _ _)) (by simp) (by simp) (by simp) ?_).mono ?_
  · show (joined [W.data.toList, V.data.toList]).length ≤ _
    simp only [joined, List.length_append, List.length_cons]
    omega
  · rintro e w' ⟨rfl, hg⟩
    exact ⟨_, rfl, rfl, by rw [mkB_size, List.length_append]; show (joined [W.data.toList, V.data.toList]).length + 1 = _; simp only [joined, List.length_append, List.length_cons]; omega, gr_trans (gr_alloc (World.grownBy.refl w none) _) hg⟩

end Go.Proofs.YtoldefommoiiiaaGreatDoor

namespace Go.Proofs.YtoldefommoiiiaaGreatDoor
open Go Go.RowKit Go.Bl

end Go.Proofs.YtoldefommoiiiaaGreatDoor

namespace Go.Proofs.YtoldefommoiiiaaGreatDoor
open Go Go.RowKit Go.Bl

theorem mkB_ext {s : ByteArray} {l : List UInt8} (h : s.data.toList = l) : s = mkB l := by subst h; exact (data_mkB s).symm

set_option maxHeartbeats 1000000 in
theorem slCut_hit (x r : List UInt8) (c : UInt8) (w : World) (h : c ∉ x) (hs : x.length + r.length ≤ 1000000) :
    Calls Tryz.prog 114 #[.string (mkB (x ++ c :: r)), .string ⟨#[c]⟩] w fun e w' => e = .returned (.tuple #[.string (mkB x), .string (mkB r), .bool true]) ∧ w.grownBy w' none := by
  have hI := Tryz.stringslite_Index_one (mkB (x ++ c :: r)) c w
  rw [mkB_data, ← Lib.index_one, index_at r h] at hI
  have e1 : (mkB (x ++ c :: r)).extract 0 x.length = mkB x := by
    apply mkB_ext
    rw [Lib.extract_from_zero, mkB_data]; simp
  have e2 : (mkB (x ++ c :: r)).extract (x.length + 1) (mkB (x ++ c :: r)).size = mkB r := by
    apply mkB_ext
    rw [Lib.extract_to_end, mkB_data]; simp
  have hsz : (mkB (x ++ c :: r)).size = x.length + r.length + 1 := by rw [mkB_size]; simp; omega
  obtain ⟨S, hS⟩ : ∃ S, mkB (x ++ c :: r) = S := ⟨_, rfl⟩
  rw [hS] at hI e1 e2 hsz ⊢
  clear hS
  have hx1 : x.length ≤ S.size := by omega
  have hx2 : x.length + 1 ≤ S.size := by omega
  have hx3 : S.size ≤ 1000001 := by omega
  clear hsz
  go_enter Tryz.func114, Tryz.ntmps114
  go_wp2_with fail
  refine hI.mono ?_
  rintro e w1 ⟨rfl, rfl⟩
  clear hI
  go_wp2_with fail
  go_quiet (fail)
  go_wp2
  exact bodyPost_ret (v := .tuple #[.string (mkB x), .string (mkB r), .bool true]) (by simp [results, Tryz.results114, go_sem]) rfl ⟨rfl, gr_drewN (World.grownBy.refl _ _) _⟩

set_option maxHeartbeats 1000000 in
theorem slCut_miss (s : ByteArray) (c : UInt8) (w : World) (h : c ∉ s.data.toList) :
    Calls Tryz.prog 114 #[.string s, .string ⟨#[c]⟩] w fun e w' => e = .returned (.tuple #[.string s, .string ⟨#[]⟩, .bool false]) ∧ w.grownBy w' none := by
  have hI := Tryz.stringslite_Index_one s c w
  rw [← Lib.index_one, index_none' h] at hI
  replace h := hide h
  go_enter Tryz.func114, Tryz.ntmps114
  go_wp2_with fail
  refine hI.mono ?_
  rintro e w1 ⟨rfl, rfl⟩
  clear hI
  go_wp2_with fail
  exact bodyPost_ret (v := .tuple #[.string s, .string ⟨#[]⟩, .bool false]) (by simp [results, Tryz.results114, go_sem]) rfl ⟨rfl, World.grownBy.refl _ _⟩

theorem cut_hit (x r : List UInt8) (c : UInt8) (w : World) (h : c ∉ x) (hs : x.length + r.length ≤ 1000000) :
    Calls Tryz.prog 85 #[.string (mkB (x ++ c :: r)), .string ⟨#[c]⟩] w fun e w' => e = .returned (.tuple #[.string (mkB x), .string (mkB r), .bool true]) ∧ w.grownBy w' none := by
  have hC := slCut_hit x r c w h hs
  generalize mkB (x ++ c :: r) = S at *
  generalize mkB x = X at *
  generalize mkB r = R at *
  replace h := hide h
  go_enter Tryz.func85, Tryz.ntmps85
  go_wp2_with fail
  refine (hC).mono ?_
  rintro e w1 ⟨rfl, hg⟩
  go_wp2_with fail
  exact bodyPost_ret (v := .tuple #[.string X, .string R, .bool true]) (by simp [results, Tryz.results85, go_sem]) rfl ⟨rfl, hg⟩

theorem cut_miss (s : ByteArray) (c : UInt8) (w : World) (h : c ∉ s.data.toList) :
    Calls Tryz.prog 85 #[.string s, .string ⟨#[c]⟩] w fun e w' => e = .returned (.tuple #[.string s, .string ⟨#[]⟩, .bool false]) ∧ w.grownBy w' none := by
  have hC := slCut_miss s c w h
  replace h := hide h
  go_enter Tryz.func85, Tryz.ntmps85
  go_wp2_with fail
  refine (hC).mono ?_
  rintro e w1 ⟨rfl, hg⟩
  go_wp2_with fail
  exact bodyPost_ret (v := .tuple #[.string s, .string ⟨#[]⟩, .bool false]) (by simp [results, Tryz.results85, go_sem]) rfl ⟨rfl, hg⟩

end Go.Proofs.YtoldefommoiiiaaGreatDoor

namespace Go.Proofs.YtoldefommoiiiaaGreatDoor
open Go Go.RowKit Go.Bl

theorem linesK_rest (r : List UInt8) : (linesK r).1 ≠ [] ∨ (linesK r).2 = true := by
  unfold linesK
  split
  · right; rfl
  · left
    split
    · exact pieces_ne _ _
    · exact pieces_ne _ _

end Go.Proofs.YtoldefommoiiiaaGreatDoor

namespace Go.Proofs.YtoldefommoiiiaaGreatDoor
open Go Go.RowKit Go.Bl

theorem emp_size (s : ByteArray) : s.toList.isEmpty = decide (s.size = 0) := empty_of

theorem enc_size (r : Int) : (Utf8.encode r).size ≤ 4 := by
  unfold Utf8.encode
  generalize (if Utf8.valid r then r.toNat else Utf8.runeError) = c
  show ByteArray.size (if c < 128 then _ else _) ≤ 4
  split
  · show 1 ≤ 4
    omega
  · split
    · show 2 ≤ 4
      omega
    · split
      · show 3 ≤ 4
        omega
      · show 4 ≤ 4
        omega

set_option maxHeartbeats 4000000 in
theorem changed_any (b : Nat) (N : Int) (t wi : ByteArray) (w : World) (hs : Strm w b N) (hN : N ≤ 1000000) (ht : t.size ≤ 1000000) (hw : wi.size ≤ 100) :
    Calls Tryz.prog 49 #[.pointer (some ⟨b, 0, none⟩), .string t, .string wi] w fun e w' => ∃ r : ByteArray, e = .returned (.string r) ∧ r.size ≤ t.size + 104 ∧ SOut b (N + 3) w w' := by
  have he1 := emp_size t
  have he2 := emp_size wi
  by_cases h0 : t.size = 0 ∨ wi.size = 0
  · have hor : (t.toList.isEmpty || wi.toList.isEmpty) = true := by rw [he1, he2]; rcases h0 with h | h <;> simp [h]
    rcases h0 with h | h
    · simp only [h, decide_true] at he1
      clear hor he2
      replace h := hide h
      go_enter Tryz.func49, Tryz.ntmps49
      go_wp2_with fail
      go_ret
      exact ⟨wi, rfl, by omega, (SOut.refl hs).mono (by omega)⟩
    · simp only [h, decide_true] at he2
      clear hor
      replace h := hide h
      go_enter Tryz.func49, Tryz.ntmps49
      go_wp2_with fail
      all_goals (go_ret; exact ⟨wi, rfl, by omega, (SOut.refl hs).mono (by omega)⟩)
  · have h1 : 1 ≤ t.size := by omega
    have h2 : 1 ≤ wi.size := by omega
    have e1 : t.toList.isEmpty = false := by rw [he1, decide_eq_false]; omega
    have e2 : wi.toList.isEmpty = false := by rw [he2, decide_eq_false]; omega
    clear he1 he2 h0
    have hn1 := fun wx (h : Strm wx b N) => next_any b N t.size wx h (by omega) (by omega)
    have hn2 := fun wx (h : Strm wx b (N + 1)) => next_any b (N + 1) wi.size wx h (by omega) (by omega)
    have hn3 := fun wx (h : Strm wx b (N + 1 + 1)) => next_any b (N + 1 + 1) 3 wx h (by omega) (by omega)
    go_enter Tryz.func49, Tryz.ntmps49
    go_wp2_with fail
    refine (hn1 _ hs).mono ?_
    rintro e w1 ⟨r1, rfl, ⟨hr0, hr1⟩, ho1⟩
    obtain ⟨i, rfl⟩ := Int.eq_ofNat_of_zero_le hr0
    go_wp2_with fail
    refine (hn2 _ ho1.2).mono ?_
    rintro e w2 ⟨r2, rfl, ⟨hs0, hs1⟩, ho2⟩
    obtain ⟨j, rfl⟩ := Int.eq_ofNat_of_zero_le hs0
    go_wp2_with fail
    refine (hn3 _ ho2.2).mono ?_
    rintro e w3 ⟨r3, rfl, ⟨hq0, hq1⟩, ho3⟩
    clear hn1 hn2 hn3
    have hof := (ho1.trans ho2).trans ho3
    have hen := enc_size (wrap32 (wi[j].toNat : Int))
    have hil : i < t.size := by omega
    rcases (by omega : r3 = 0 ∨ r3 = 1 ∨ r3 = 2) with rfl | rfl | rfl
    all_goals (go_wp2_with fail; go_quiet (fail); go_wp2; go_ret)
    all_goals refine ⟨_, rfl, ?_, (hof.mono (by omega)).pure (gr_drewN (World.grownBy.refl _ _) _)⟩
    all_goals (simp only [ByteArray.size_append, ByteArray.size_extract]; omega)

end Go.Proofs.YtoldefommoiiiaaGreatDoor

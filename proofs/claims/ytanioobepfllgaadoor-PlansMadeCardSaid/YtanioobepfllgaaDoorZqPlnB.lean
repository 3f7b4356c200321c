/- Contracts of functions that this seat's laws reach, each: what one call returns and what it leaves in memory; no condition beyond each theorem's own hypotheses. -/
import Derived.Test.YtanioobepfllgaaDoorZqPlnI
import Derived.Test.YtanioobepfllgaaDoorZqCmpL
import Derived.Test.YtanioobepfllgaaDoorZqFlowB
import Derived.Test.YtanioobepfllgaaDoorZqTree
import Derived.Lib.SliceRun
set_option linter.unusedVariables false
set_option linter.unusedSimpArgs false
namespace Go.Proofs.YtanioobepfllgaaDoor
open Go Go.RowKit Go.Bl

theorem run_neq_slice_nilP {P : Program} (w : World) (t e : TypeId) (a : Option Addr) (n c n' c' : Nat) (h : P.underlying t = some (.slice e)) :
    (binOp .neq t (.slice a n c) (.slice none n' c')).run P w = .ok (.bool (!a.isNone)) w := by
  simp only [binOp]
  simp [Op.equal, Op.maxDepth, Lib.run_equalIn_slice_nil w 9999 t e a n c n' c' h]

set_option maxHeartbeats 400000 in
theorem orI_any (A : Option Addr) (n c : Nat) (l : List Int) (w : World) (hl : Sl w 0 A l) (hn : n = l.length) :
    Calls Tryd.prog 34 #[.slice A n c] w fun e w' => e = .returned (.int .i64 (orL l)) ∧ w' = w := by
  have hm := hl.1
  unfold maxLen at hm
  subst hn
  go_enter Tryd.func34, Tryd.ntmps34
  go_wp2
  go_loop [8] (fun i => ∃ k : Nat, k ≤ l.length ∧ i = .int .i64 k ∧ Hid (orL (l.drop k) = orL l)) (fun i => l.length - (intOf i).toNat)
  case atStart => exact ⟨0, Nat.zero_le _, rfl, rfl⟩
  case round =>
    obtain ⟨k, hk, rfl, hd⟩ := hrel
    by_cases hlt : k < l.length
    · obtain ⟨g, o, cx, rfl, hb0, hb1, rfl, hc⟩ := hl.at_ (by decide) hlt
      have c0 : w.cell? ⟨g, o + k, none⟩ = some (.int .i64 l[k]) := by have := hc 0 _ rfl; rwa [show Enc.sz Int = 1 from rfl, Nat.mul_one] at this
      clear hc
      by_cases hz : l[k] = 0
      · have HS : Hid (orL (l.drop (k + 1)) = orL l) := by have := hd.out; rw [orL_drop hlt, if_neg (by simp [hz])] at this; exact this
        have hb : (l[k] != 0) = false := by simp [hz]
        clear hz
        go_wp2
        go_round
        case rel => exact ⟨k + 1, by omega, by go_num, HS⟩
        case measure => simp [intOf]; omega
      · have HS : Hid (l[k] = orL l) := by have := hd.out; rw [orL_drop hlt, if_pos hz] at this; exact this
        have hb : (l[k] != 0) = true := by simp [hz]
        clear hz
        go_wp2
        go_ret
        exact ⟨ret_int HS.out, rfl⟩
    · have HS : Hid ((0 : Int) = orL l) := by have := hd.out; rw [List.drop_of_length_le (by omega)] at this; exact this
      go_wp2
      go_ret
      exact ⟨ret_int HS.out, rfl⟩

theorem bet_or {last sum l s : Int} {P R X : List (List Int)} : (orL [Lib.compareInt last l, Lib.compareInt sum s] ≠ 0 → decide (orL [Lib.compareInt last l, Lib.compareInt sum s] < 0) = betS last sum P (some (R, l, s))) ∧
    (orL [Lib.compareInt last l, Lib.compareInt sum s] = 0 → decide (cmpLL P R < 0) = betS last sum P (some (R, l, s))) := by
  have e : orL [Lib.compareInt last l, Lib.compareInt sum s] = if Lib.compareInt last l = 0 then Lib.compareInt sum s else Lib.compareInt last l := or2 _ _
  rw [e]
  unfold betS Lib.compareInt
  simp only
  rcases Int.lt_trichotomy last l with h | h | h
  · rw [if_pos h]
    simp [show ¬ last = l by omega, h]
  · subst h
    simp only [Int.lt_irrefl, if_false, if_true, gt_iff_lt]
    rcases Int.lt_trichotomy sum s with h | h | h
    · simp [h, show ¬ sum = s by omega]
    · subst h; simp
    · simp [h, show ¬ sum < s by omega, show ¬ sum = s by omega]
  · rw [if_neg (by omega), if_pos h]
    simp [show ¬ last = l by omega, show ¬ last < l by omega]

set_option maxHeartbeats 2000000 in
set_option maxRecDepth 100000 in
theorem better_any {E : PEnv} {wr : World} {Q : List (List Int)} {T : List Int} {raws : List RawS} {B : Option Addr} {d : Nat} {rB : List RawS} {R : List (List Int)} {l s : Int} {bo : Option (List (List Int))} (last sum : Int)
    (hI : InvP E wr Q T raws B d rB R (.slice B R.length d) l s) (hS : StP E bo B R l s) (hQ : Q.length = E.p.length) :
    Calls Tryd.prog 56 #[.pointer (some ⟨E.gb, 0, none⟩), .int .i64 last, .int .i64 sum] wr fun e w' => e = .returned (.bool (betS last sum Q (bo.map fun X => (X, l, s)))) ∧ wr.grownBy w' none := by
  have hN := fun W => Lib.run_eql_slice_nil (P := Tryd.prog) W 36 22 B R.length d 0 0 Tryd.underlying36
  obtain ⟨b5, -⟩ := hI.bx.c 5 rfl
  cases bo with
  | none =>
    obtain ⟨rfl, rfl, -, -⟩ := hS
    simp only [List.length_nil] at hN b5
    clear hI hQ
    go_enter Tryd.func56, Tryd.ntmps56
    go_wp2_with fail
    go_ret
    exact ⟨rfl, World.grownBy.refl _ _⟩
  | some X =>
    obtain ⟨rfl, -, ⟨ad, rfl⟩, -, -⟩ := hS
    obtain ⟨h1, h2⟩ := @bet_or last sum l s Q R R
    have hC1 := hide fun W => Tryd.cmp_Compare_int last l W
    have hC2 := hide fun W => Tryd.cmp_Compare_int sum s W
    have hcs : Sl wr 0 (some ⟨E.gp, 0, none⟩) Q := hI.rw.sl.mono (Nat.zero_le _)
    have hcb : Sl wr 0 (some ad) R := hI.bs.sl.mono (Nat.zero_le _)
    have hCR := hide fun W (hg : wr.grownBy W none) => compareRows_any _ E.p.length Q _ d R W (hcs.pure hg) (hcb.pure hg)
    rw [hQ] at hCR
    have hbx := hI.bx
    clear hI hcs hcb hQ
    show Calls Tryd.prog 56 #[.pointer (some ⟨E.gb, 0, none⟩), .int .i64 last, .int .i64 sum] wr fun e w' => e = .returned (.bool (betS last sum Q (some (R, l, s)))) ∧ wr.grownBy w' none
    obtain ⟨V, hV⟩ : ∃ V, betS last sum Q (some (R, l, s)) = V := ⟨_, rfl⟩
    rw [hV] at h1 h2 ⊢
    clear hV
    obtain ⟨c1, hc1⟩ : ∃ q, q = Lib.compareInt last l := ⟨_, rfl⟩
    obtain ⟨c2, hc2⟩ : ∃ q, q = Lib.compareInt sum s := ⟨_, rfl⟩
    rw [← hc1] at hC1 h1 h2
    rw [← hc2] at hC2 h1 h2
    clear hc1 hc2
    replace h1 := hide h1
    replace h2 := hide h2
    go_enter Tryd.func56, Tryd.ntmps56
    go_upto_region 3 with fail
    clear hN b5
    refine wp_region_tree (fun wx => wr.grownBy wx none) [2, 2, 2, 2, 1, 0, 2, 2, 2, 2, 1, 0, 0, 0, 2] (.bl 0 (.bl 1 (.bl 2 (.bl 3 (.bl 4 (.bl 6 (.bl 7 (.bl 8 (.bl 9 (.bl 10 (.ef 5 (.ef 11 (.ef 12 (.ef 13 (.bl 14 .done))))))))))))))) (by kernel_rfl) (by kernel_rfl) (gr_drew (World.grownBy.refl _ _)) ?_
    obtain ⟨u0, hu0⟩ : ∃ x, x = (wr).drew := ⟨_, rfl⟩
    rw [← hu0]
    have hgu0 : (wr).grownBy u0 none := by rw [hu0]; exact gr_drew (World.grownBy.refl _ _)
    clear hu0
    refine tree_p rfl rfl rfl rfl _ rfl (by simp) (fun K hK => ?_)
    apply Exists.intro
    refine ⟨fun wq K' hK' => ?_, ?_⟩
    · go_wp2_with fail
      exact hK'
    go_simp
    refine hK _ ?_
    clear hK K
    refine tree_p rfl rfl rfl rfl _ rfl (by simp) (fun K hK => ?_)
    apply Exists.intro
    refine ⟨fun wq K' hK' => ?_, ?_⟩
    · go_wp2_with fail
      exact hK'
    go_simp
    refine hK _ ?_
    clear hK K
    refine tree_n rfl rfl _ rfl _ rfl ?_
    try go_simp
    refine tree_p rfl rfl rfl rfl _ rfl (by simp) (fun K hK => ?_)
    apply Exists.intro
    refine ⟨fun wq K' hK' => ?_, ?_⟩
    · go_wp2_with fail
      exact hK'
    go_simp
    refine hK _ ?_
    clear hK K
    refine tree_b rfl rfl rfl rfl _ rfl (by simp) (fun K hK => ?_)
    apply Exists.intro
    refine ⟨fun wq hq K' hK' => ?_, ?_⟩
    · obtain ⟨d6, -⟩ := (hbx.pure hq).c 6 rfl
      obtain ⟨d7, -⟩ := (hbx.pure hq).c 7 rfl
      go_wp2_with fail
      exact hK'
    go_simp
    refine hK _ ?_
    clear hK K
    refine tree_p rfl rfl rfl rfl _ rfl (by simp) (fun K hK => ?_)
    apply Exists.intro
    refine ⟨fun wq K' hK' => ?_, ?_⟩
    · go_wp2_with fail
      exact hK'
    go_simp
    refine hK _ ?_
    clear hK K
    refine tree_p rfl rfl rfl rfl _ rfl (by simp) (fun K hK => ?_)
    apply Exists.intro
    refine ⟨fun wq K' hK' => ?_, ?_⟩
    · go_wp2_with fail
      exact hK'
    go_simp
    refine hK _ ?_
    clear hK K
    refine tree_n rfl rfl _ rfl _ rfl ?_
    try go_simp
    refine tree_p rfl rfl rfl rfl _ rfl (by simp) (fun K hK => ?_)
    apply Exists.intro
    refine ⟨fun wq K' hK' => ?_, ?_⟩
    · go_wp2_with fail
      exact hK'
    go_simp
    refine hK _ ?_
    clear hK K
    refine tree_b rfl rfl rfl rfl _ rfl (by simp) (fun K hK => ?_)
    apply Exists.intro
    refine ⟨fun wq hq K' hK' => ?_, ?_⟩
    · obtain ⟨d6, -⟩ := (hbx.pure hq).c 6 rfl
      obtain ⟨d7, -⟩ := (hbx.pure hq).c 7 rfl
      go_wp2_with fail
      exact hK'
    go_simp
    refine hK _ ?_
    clear hK K
    refine tree_e rfl rfl (fun K hK => ?_)
    go_wp2_with fail
    refine (hC1.out u0).mono ?_
    rintro e wq ⟨rfl, hwq⟩
    rw [hwq]
    clear hwq wq
    go_wp2_with fail
    try go_simp
    refine hK _ _ (hgu0) ?_
    clear hK K
    refine tree_e0 (by kernel_rfl) rfl rfl (fun K hK => ?_)
    go_wp2_with fail
    refine (hC2.out u0).mono ?_
    rintro e wq ⟨rfl, hwq⟩
    rw [hwq]
    clear hwq wq
    go_wp2_with fail
    try go_simp
    refine hK _ _ trivial ?_
    clear hK K
    refine tree_e0 (by kernel_rfl) rfl rfl (fun K hK => ?_)
    go_wp2_with fail
    try go_simp
    refine hK _ _ trivial ?_
    clear hK K
    refine tree_e0 (by kernel_rfl) rfl rfl (fun K hK => ?_)
    go_wp2_with fail
    refine (orI_any (some ⟨u0.heap.size, 0, none⟩) 2 2 [c1, c2] (u0.alloc (.cells #[.int .i64 c1, .int .i64 c2] 3)) (sl_intsAt _ _ _ _ _ rfl (Nat.zero_le _) (by simp [maxLen])) rfl).mono ?_
    rintro e wq ⟨rfl, hwq⟩
    rw [hwq]
    clear hwq wq
    go_wp2_with fail
    try go_simp
    refine hK _ _ trivial ?_
    clear hK K
    refine tree_p rfl rfl rfl rfl _ rfl (by simp) (fun K hK => ?_)
    apply Exists.intro
    refine ⟨fun wq K' hK' => ?_, ?_⟩
    · go_wp2_with fail
      exact hK'
    go_simp
    refine hK _ ?_
    clear hK K
    refine tree_done ?_
    obtain ⟨u1, hu1⟩ : ∃ x, x = u0.alloc (.cells #[.int .i64 c1, .int .i64 c2] 3) := ⟨_, rfl⟩
    have hg1 : wr.grownBy u1 none := by rw [hu1]; exact gr_alloc hgu0 _
    rw [← hu1]
    clear hu1 hgu0
    obtain ⟨v, hv⟩ : ∃ v, v = orL [c1, c2] := ⟨_, rfl⟩
    rw [← hv] at h1 h2 ⊢
    clear hv
    by_cases hz : v = 0
    · have h3 := hide (h2.out hz)
      clear h1 h2 hC1 hC2
      subst hz
      go_upto_region 6 with fail
      refine wp_region_tree (fun wx => wr.grownBy wx none) [2, 2, 2, 1, 2, 2, 2, 1, 0, 2, 2] (.bl 0 (.bl 1 (.bl 2 (.bl 3 (.bl 4 (.bl 5 (.bl 6 (.bl 7 (.ef 8 (.bl 9 (.bl 10 .done))))))))))) (by kernel_rfl) (by kernel_rfl) (gr_drew hg1) ?_
      obtain ⟨u2, hu2⟩ : ∃ x, x = (u1).drew := ⟨_, rfl⟩
      rw [← hu2]
      have hgu2 : (u1).grownBy u2 none := by rw [hu2]; exact gr_drew (World.grownBy.refl _ _)
      clear hu2
      refine tree_p rfl rfl rfl rfl _ rfl (by simp) (fun K hK => ?_)
      apply Exists.intro
      refine ⟨fun wq K' hK' => ?_, ?_⟩
      · go_wp2_with fail
        exact hK'
      go_simp
      refine hK _ ?_
      clear hK K
      refine tree_n rfl rfl _ rfl _ rfl ?_
      try go_simp
      refine tree_p rfl rfl rfl rfl _ rfl (by simp) (fun K hK => ?_)
      apply Exists.intro
      refine ⟨fun wq K' hK' => ?_, ?_⟩
      · go_wp2_with fail
        exact hK'
      go_simp
      refine hK _ ?_
      clear hK K
      refine tree_b rfl rfl rfl rfl _ rfl (by simp) (fun K hK => ?_)
      apply Exists.intro
      refine ⟨fun wq hq K' hK' => ?_, ?_⟩
      · obtain ⟨d3, -⟩ := (hbx.pure hq).c 3 rfl
        obtain ⟨d5, -⟩ := (hbx.pure hq).c 5 rfl
        go_wp2_with fail
        exact hK'
      go_simp
      refine hK _ ?_
      clear hK K
      refine tree_p rfl rfl rfl rfl _ rfl (by simp) (fun K hK => ?_)
      apply Exists.intro
      refine ⟨fun wq K' hK' => ?_, ?_⟩
      · go_wp2_with fail
        exact hK'
      go_simp
      refine hK _ ?_
      clear hK K
      refine tree_n rfl rfl _ rfl _ rfl ?_
      try go_simp
      refine tree_p rfl rfl rfl rfl _ rfl (by simp) (fun K hK => ?_)
      apply Exists.intro
      refine ⟨fun wq K' hK' => ?_, ?_⟩
      · go_wp2_with fail
        exact hK'
      go_simp
      refine hK _ ?_
      clear hK K
      refine tree_b rfl rfl rfl rfl _ rfl (by simp) (fun K hK => ?_)
      apply Exists.intro
      refine ⟨fun wq hq K' hK' => ?_, ?_⟩
      · obtain ⟨d3, -⟩ := (hbx.pure hq).c 3 rfl
        obtain ⟨d5, -⟩ := (hbx.pure hq).c 5 rfl
        go_wp2_with fail
        exact hK'
      go_simp
      refine hK _ ?_
      clear hK K
      refine tree_e0 (by kernel_rfl) rfl rfl (fun K hK => ?_)
      go_wp2_with fail
      refine (hCR.out u2 (hg1.t hgu2)).mono ?_
      rintro e wq ⟨rfl, hwq⟩
      rw [hwq]
      clear hwq wq
      go_wp2_with fail
      try go_simp
      refine hK _ _ trivial ?_
      clear hK K
      refine tree_p rfl rfl rfl rfl _ rfl (by simp) (fun K hK => ?_)
      apply Exists.intro
      refine ⟨fun wq K' hK' => ?_, ?_⟩
      · go_wp2_with fail
        exact hK'
      go_simp
      refine hK _ ?_
      clear hK K
      refine tree_p rfl rfl rfl rfl _ rfl (by simp) (fun K hK => ?_)
      apply Exists.intro
      refine ⟨fun wq K' hK' => ?_, ?_⟩
      · go_wp2_with fail
        exact hK'
      go_simp
      refine hK _ ?_
      clear hK K
      refine tree_done ?_
      go_wp2_with fail
      go_ret
      exact ⟨ret_bool h3.out, hg1.t hgu2⟩
    · have h3 := hide (h1.out hz)
      clear h1 h2 hC1 hC2
      have hb : (v != 0) = true := by simp [hz]
      clear hz
      go_wp2_with fail
      go_ret
      exact ⟨ret_bool h3.out, hg1⟩

end Go.Proofs.YtanioobepfllgaaDoor

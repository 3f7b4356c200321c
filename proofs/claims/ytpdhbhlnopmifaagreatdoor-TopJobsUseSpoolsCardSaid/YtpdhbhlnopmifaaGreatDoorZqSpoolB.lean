/- Contracts of functions that this seat's laws reach, each: what one call returns and what it leaves in memory; no condition beyond each theorem's own hypotheses. -/
import Derived.Test.YtpdhbhlnopmifaaGreatDoorZqWords
import Derived.Test.YtpdhbhlnopmifaaGreatDoorZqSpoolData
import Derived.Test.YtpdhbhlnopmifaaGreatDoorZqMostData
import Derived.Test.YtpdhbhlnopmifaaGreatDoorZqGrS
import Derived.Test.YtpdhbhlnopmifaaGreatDoorZqPathE
import Derived.Deep.DeepCutAuto
set_option linter.unusedVariables false
set_option linter.unusedSimpArgs false
namespace Go.Proofs.YtpdhbhlnopmifaaGreatDoor
open Go Go.RowKit Go.Bl

theorem info_spl : (Tryz.prog.info? 38).map (fun i => (i.zero, i.size, i.bytes)) = some (some (.agg #[.string ⟨#[]⟩, .string ⟨#[]⟩, .int .i64 0]), 3, 40) := by kernel_rfl

theorem Own.set_spl0 {w : World} {lo : Nat} {e : TypeId} {g c : Nat} {l : List Spl} (h : Own w lo e (some ⟨g, 0, none⟩) c l) {i : Nat} (hi : i < l.length) (s : ByteArray) : Own (w.setCell ⟨g, i * 3, none⟩ (.string s)) lo e (some ⟨g, 0, none⟩) c (l.set i ⟨s, l[i].mat, l[i].left⟩) :=
  h.put hi (j := 0) (x := ⟨s, l[i].mat, l[i].left⟩) (u := .string s) (by decide) (by rintro c1 rfl; rfl)

theorem Own.set_spl1 {w : World} {lo : Nat} {e : TypeId} {g c : Nat} {l : List Spl} (h : Own w lo e (some ⟨g, 0, none⟩) c l) {i : Nat} (hi : i < l.length) (s : ByteArray) : Own (w.setCell ⟨g, i * 3 + 1, none⟩ (.string s)) lo e (some ⟨g, 0, none⟩) c (l.set i ⟨l[i].key, s, l[i].left⟩) :=
  h.put hi (j := 1) (x := ⟨l[i].key, s, l[i].left⟩) (u := .string s) (by decide) (by rintro c1 rfl; rfl)

theorem Own.set_spl2 {w : World} {lo : Nat} {e : TypeId} {g c : Nat} {l : List Spl} (h : Own w lo e (some ⟨g, 0, none⟩) c l) {i : Nat} (hi : i < l.length) (s : Int) : Own (w.setCell ⟨g, i * 3 + 2, none⟩ (.int .i64 s)) lo e (some ⟨g, 0, none⟩) c (l.set i ⟨l[i].key, l[i].mat, s⟩) :=
  h.put hi (j := 2) (x := ⟨l[i].key, l[i].mat, s⟩) (u := .int .i64 s) (by decide) (by rintro c1 rfl; rfl)

def sWords : List ByteArray := [⟨#[115, 49]⟩, ⟨#[115, 50]⟩, ⟨#[115, 51]⟩, ⟨#[115, 52]⟩]

set_option maxHeartbeats 4000000 in
set_option maxRecDepth 100000 in
theorem spoolList_any (b : Nat) (N : Int) (w : World) (hs : Strm w b N) (hN : N ≤ 1000000000) :
    Calls Tryz.prog 6 #[.pointer (some ⟨b, 0, none⟩)] w (SLst (α := Spl) b (N + 40) 5 w) := by
  have hbw := hs.lt
  go_enter Tryz.func6, Tryz.ntmps6
  go_wp2_with fail
  refine (range_any b N _ _ _ (hs.pure (gr_alloc (World.grownBy.refl _ _) _)) (by omega) (by omega) (by omega) (by omega)).mono ?_
  rintro e w1 ⟨r, rfl, hr, ho1⟩
  obtain ⟨r, rfl⟩ := Int.eq_ofNat_of_zero_le (show 0 ≤ r by omega)
  have hL0 := KWs.new sWords w 9
  have hL := hL0.gr ho1.1 (fun e => by injection e; omega)
  have ho := (SOut.refl hs).al (.cells (sWords.map Value.string).toArray 9) |>.trans ho1
  have hr3 : (r : Int) ≤ 4 := by omega
  have hgs := ho1.size
  simp at hgs
  have hb1 : b < w1.heap.size := by omega
  have hsL : w.heap.size < w1.heap.size := by omega
  clear ho1 hL0
  go_wp2_with fail
  go_loopw [3, 12] (fun o i wr => ∃ (k : Nat) (l : List Spl) (A' : Option Addr) (c' : Nat), k ≤ r ∧ i = .int .i64 k ∧ o = .slice A' l.length c' ∧ Hid (l.length = k) ∧ Own wr w1.heap.size 38 A' c' l ∧ KWs sWords wr w.heap.size ∧ SOut b (N + 1 + 2 * k) w wr ∧ w1.heap.size ≤ wr.heap.size) (fun _ i _ => r - (intOf i).toNat)
  case atStart => exact ⟨0, [], none, 0, Nat.zero_le _, rfl, rfl, rfl, Own.nil _ _ _, hL, ho.mono (by omega), Nat.le_refl _⟩
  case round =>
    clear hL ho
    obtain ⟨k, l, A', c', hk, rfl, rfl, hlk, hown, hL, ho, hsz0⟩ := hrel
    by_cases hlt : k < r
    · have hk3 : k < sWords.length := by simp [sWords]; omega
      have c0 := hL.2 k hk3
      generalize sWords[k] = ky at *
      go_wp2_with fail
      refine (some_any b (N + 1 + 2 * k) _ _ _ [⟨#[112, 108, 97]⟩, ⟨#[112, 108, 97]⟩, ⟨#[112, 101, 116]⟩] _ (ho.2.pure (gr_alloc (World.grownBy.refl _ _) _)) (by omega) (sl_strsAt _ _ _ _ _ (by first | rfl | simp) (by have := ho.2.lt; omega) (by simp [maxLen])) rfl (by simp)).mono ?_
      rintro e w2 ⟨s1, rfl, ho2⟩
      have hg0 := gr_alloc (World.grownBy.refl wr none) (.cells #[.string ⟨#[112, 108, 97]⟩, .string ⟨#[112, 108, 97]⟩, .string ⟨#[112, 101, 116]⟩] 9)
      replace ho := (ho.pure hg0).trans ho2
      replace hown := (hown.pure hg0).s ho2 hb1
      replace hL := (hL.gr hg0 (by simp)).gr ho2.1 (fun e => by injection e; omega)
      have hsz := ho2.size
      simp at hsz
      clear ho2 hg0 c0
      go_wp2_with fail
      refine (pick_any b (N + 1 + 2 * k + 1) _ _ _ [0, 10, 50, 100, 1000000000] _ (ho.2.pure (gr_alloc (World.grownBy.refl _ _) _)) (by omega) (sl_intsAt _ _ _ _ _ (by first | rfl | simp) (by have := ho.2.lt; omega) (by simp [maxLen])) rfl (by simp)).mono ?_
      rintro e w4 ⟨s2, rfl, _, ho2⟩
      have hg0 := gr_alloc (World.grownBy.refl w2 none) (.cells #[.int .i64 0, .int .i64 10, .int .i64 50, .int .i64 100, .int .i64 1000000000] 3)
      replace ho := (ho.pure hg0).trans ho2
      replace hown := (hown.pure hg0).s ho2 hb1
      replace hL := (hL.gr hg0 (by simp)).gr ho2.1 (fun e => by injection e; omega)
      have hsz4 := ho2.size
      simp at hsz4
      clear ho2 hg0
      have hll : l.length ≤ 5 := by have := hlk.out; omega
      have hlW := hL.lt
      go_wp2_with (at_builtin; obtain ⟨i0, hi, hz, hi1, hi2⟩ := info_parts info_spl; refine wpList_push (α := Spl) _ rfl (.tmp 16) (.tmp 25) _ rfl w1.heap.size 38 i0 _ 40 Tryz.underlying26 hi hz hi1 hi2 rfl _ _ _ l rfl ?c1 (by exact hown.pure (gr_alloc (World.grownBy.refl _ _) _)) 0 ⟨_, 0, none⟩ 1 1 [⟨ky, s1, s2⟩] rfl rfl (by exact sl_oneAt _ 0 _ _ _ _ (by first | rfl | simp) (Nat.zero_le _) rfl) ?c2 ?c3 ?c4 ?_)
      case c1 => rfl
      case c2 => first | omega | (simp; omega)
      case c3 => first | (simp [maxLen]; omega) | (unfold maxLen; omega)
      case c4 => first | omega | (simp; omega)
      intro A5 c5 w5 hown5 hup5
      have hg1 := gr_alloc (World.grownBy.refl w4 none) (.cells #[.string ky, .string s1, .int .i64 s2] 38)
      have ho5 := (ho.pure hg1).upd (lo := w1.heap.size) (by omega) hb1 hup5
      have hL5 := (hL.gr hg1 (by simp)).upd hup5 hsL
      have hsz5 := hup5.size
      simp at hsz5
      go_wp2
      (go_roundw; (case rel => exact ⟨k + 1, l ++ [⟨ky, s1, s2⟩], A5, c5, by omega, by go_num, by simp, by simp [Hid, hlk.out], hown5, hL5, ho5.mono (by omega), by omega⟩); (case measure => simp [intOf]; omega))
    · have hl1 : l.length ≤ 5 := by have := hlk.out; omega
      have hoB : SOut b (N + 16) w wr := ho.mono (by omega)
      clear hL ho hlk hr
      by_cases h0 : 0 < l.length
      · have hb0 : decide (((l.length : Nat) : Int) > 0) = true := by simp; omega
        go_wp2_with fail
        refine (flip_any b (N + 16) _ _ hoB.2 (by omega) (by omega)).mono ?_
        rintro e w2 ⟨f, rfl, ho2⟩
        replace hoB := hoB.trans ho2
        replace hown := hown.s ho2 hb1
        have hsz2 := ho2.size
        clear ho2
        cases f with
        | false =>
          go_wp2_with fail
          go_ret
          exact ⟨l, _, _, rfl, hown.sl.mono (by omega), hl1, hown.cap, hoB.mono (by omega)⟩
        | true =>
          go_wp2_with fail
          refine (next_any b (N + 16 + 1) _ _ hoB.2 (by omega) (by omega)).mono ?_
          rintro e w3 ⟨q, rfl, ⟨hq0, hq1⟩, ho3⟩
          obtain ⟨q, rfl⟩ := Int.eq_ofNat_of_zero_le hq0
          replace hoB := hoB.trans ho3
          replace hown := hown.s ho3 hb1
          have hql : q < l.length := by omega
          obtain ⟨g, rfl, hgl, -⟩ := hown.shape (by omega)
          clear ho3
          go_upto_region 9 with fail
          refine wp_region_tree (fun wx => Own wx w1.heap.size 38 (some ⟨g, 0, none⟩) c' l) [2, 2, 2, 2, 2, 2, 2, 1, 0, 0, 2, 2, 2, 2, 1, 0, 0, 2, 0, 2, 2, 0, 2, 2, 0, 2, 2, 0] (.bl 0 (.bl 1 (.bl 2 (.bl 3 (.bl 4 (.bl 5 (.bl 6 (.bl 7 (.bl 10 (.bl 11 (.bl 12 (.bl 13 (.bl 14 (.bl 17 (.alt (.ef 8 (.alt (.ef 9 (.ef 15 (.ef 16 (.ef 18 (.bl 19 (.bl 20 (.ef 21 (.bl 22 (.bl 23 (.ef 24 (.bl 25 (.bl 26 (.ef 27 .done))))))))))))) (.ef 15 (.ef 9 (.ef 16 (.ef 18 (.bl 19 (.bl 20 (.ef 21 (.bl 22 (.bl 23 (.ef 24 (.bl 25 (.bl 26 (.ef 27 .done))))))))))))))) (.ef 15 (.ef 8 (.ef 9 (.ef 16 (.ef 18 (.bl 19 (.bl 20 (.ef 21 (.bl 22 (.bl 23 (.ef 24 (.bl 25 (.bl 26 (.ef 27 .done))))))))))))))))))))))))))))) (by kernel_rfl) (by kernel_rfl) (hown.pure (gr_drew (World.grownBy.refl _ _))) ?_
          obtain ⟨W1, hW1⟩ : ∃ x, x = (w3).drew := ⟨_, rfl⟩
          rw [← hW1]
          have hgW1 : (w3).grownBy W1 none := by rw [hW1]; exact gr_drew (World.grownBy.refl _ _)
          clear hW1
          replace hoB := hoB.pure hgW1
          replace hown := hown.pure hgW1
          refine tree_p rfl rfl rfl rfl _ rfl (by simp) (fun K hK => ?_)
          apply Exists.intro
          refine ⟨fun wq K' hK' => ?_, ?_⟩
          · go_wp2_with fail
            exact hK'
          go_simp
          refine hK _ ?_
          clear hK K
          refine tree_p rfl rfl rfl rfl _ rfl (by simp) (fun K hK => ?_)
          apply Exists.intro
          refine ⟨fun wq K' hK' => ?_, ?_⟩
          · go_wp2_with fail
            exact hK'
          go_simp
          refine hK _ ?_
          clear hK K
          refine tree_p rfl rfl rfl rfl _ rfl (by simp) (fun K hK => ?_)
          apply Exists.intro
          refine ⟨fun wq K' hK' => ?_, ?_⟩
          · go_wp2_with fail
            exact hK'
          go_simp
          refine hK _ ?_
          clear hK K
          refine tree_p rfl rfl rfl rfl _ rfl (by simp) (fun K hK => ?_)
          apply Exists.intro
          refine ⟨fun wq K' hK' => ?_, ?_⟩
          · go_wp2_with fail
            exact hK'
          go_simp
          refine hK _ ?_
          clear hK K
          refine tree_p rfl rfl rfl rfl _ rfl (by simp) (fun K hK => ?_)
          apply Exists.intro
          refine ⟨fun wq K' hK' => ?_, ?_⟩
          · go_wp2_with fail
            exact hK'
          go_simp
          refine hK _ ?_
          clear hK K
          refine tree_n rfl rfl _ rfl _ rfl ?_
          try go_simp
          refine tree_p rfl rfl rfl rfl _ rfl (by simp) (fun K hK => ?_)
          apply Exists.intro
          refine ⟨fun wq K' hK' => ?_, ?_⟩
          · go_wp2_with fail
            exact hK'
          go_simp
          refine hK _ ?_
          clear hK K
          refine tree_b rfl rfl rfl rfl _ rfl (by simp) (fun K hK => ?_)
          apply Exists.intro
          refine ⟨fun wq hq K' hK' => ?_, ?_⟩
          · obtain ⟨cq, rfl, hc⟩ := hq.cell_at (by decide) hql
            have c0 : wq.cell? ⟨g, q * 3, none⟩ = some (.string l[q].key) := hc 0 _ rfl
            have c1 : wq.cell? ⟨g, q * 3 + 1, none⟩ = some (.string l[q].mat) := hc 1 _ rfl
            clear hc
            go_wp2_with fail
            exact hK'
          go_simp
          refine hK _ ?_
          clear hK K
          refine tree_p rfl rfl rfl rfl _ rfl (by simp) (fun K hK => ?_)
          apply Exists.intro
          refine ⟨fun wq K' hK' => ?_, ?_⟩
          · go_wp2_with fail
            exact hK'
          go_simp
          refine hK _ ?_
          clear hK K
          refine tree_p rfl rfl rfl rfl _ rfl (by simp) (fun K hK => ?_)
          apply Exists.intro
          refine ⟨fun wq K' hK' => ?_, ?_⟩
          · go_wp2_with fail
            exact hK'
          go_simp
          refine hK _ ?_
          clear hK K
          refine tree_n rfl rfl _ rfl _ rfl ?_
          try go_simp
          refine tree_p rfl rfl rfl rfl _ rfl (by simp) (fun K hK => ?_)
          apply Exists.intro
          refine ⟨fun wq K' hK' => ?_, ?_⟩
          · go_wp2_with fail
            exact hK'
          go_simp
          refine hK _ ?_
          clear hK K
          refine tree_b rfl rfl rfl rfl _ rfl (by simp) (fun K hK => ?_)
          apply Exists.intro
          refine ⟨fun wq hq K' hK' => ?_, ?_⟩
          · obtain ⟨cq, rfl, hc⟩ := hq.cell_at (by decide) hql
            have c0 : wq.cell? ⟨g, q * 3, none⟩ = some (.string l[q].key) := hc 0 _ rfl
            have c1 : wq.cell? ⟨g, q * 3 + 1, none⟩ = some (.string l[q].mat) := hc 1 _ rfl
            clear hc
            go_wp2_with fail
            exact hK'
          go_simp
          refine hK _ ?_
          clear hK K
          refine tree_p rfl rfl rfl rfl _ rfl (by simp) (fun K hK => ?_)
          apply Exists.intro
          refine ⟨fun wq K' hK' => ?_, ?_⟩
          · go_wp2_with fail
            exact hK'
          go_simp
          refine hK _ ?_
          clear hK K
          refine tree_alt ?_ ?_
          · refine tree_e rfl rfl (fun K hK => ?_)
            go_wp2_with fail
            try go_simp
            refine hK _ _ ((hown.pure (gr_alloc (World.grownBy.refl _ _) _))) ?_
            clear hK K
            obtain ⟨w8, hw8⟩ : ∃ x, x = (W1).alloc (.cells [.string l[q].key, .string ⟨#[]⟩, .string ⟨#[115, 49]⟩].toArray 9) := ⟨_, rfl⟩
            have hg8 : (W1).grownBy w8 none := by rw [hw8]; exact gr_alloc (World.grownBy.refl _ _) _
            have hb8 : Box w8 (W1).heap.size 9 [.string l[q].key, .string ⟨#[]⟩, .string ⟨#[115, 49]⟩] := by rw [hw8]; exact Box.new _ _ _
            rw [← hw8]
            clear hw8
            obtain ⟨x8, hx8⟩ : ∃ x, x = (W1).heap.size := ⟨_, rfl⟩
            rw [← hx8] at hb8 ⊢
            have hxl8 : (W1).heap.size ≤ x8 := by omega
            clear hx8
            have hbx8 : b < x8 := by have := hoB.lt; omega
            replace hoB := hoB.pure hg8
            replace hown := hown.pure hg8
            refine tree_alt ?_ ?_
            · refine tree_e rfl rfl (fun K hK => ?_)
              go_wp2_with fail
              refine (some_any b _ _ _ _ [l[q].key, ⟨#[]⟩, ⟨#[115, 49]⟩] w8 hoB.2 (by omega) (hb8.sl (row_strs _ _ _) (by omega) (by simp [maxLen])) rfl (by simp)).mono ?_
              rintro e w9 ⟨s9, rfl, ho9⟩
              go_wp2_with fail
              try go_simp
              refine hK _ _ ((hown.s ho9 hb1)) ?_
              clear hK K
              replace hoB := hoB.trans ho9
              replace hown := hown.s ho9 hb1
              refine tree_e rfl rfl (fun K hK => ?_)
              go_wp2_with fail
              try go_simp
              refine hK _ _ ((hown.pure (gr_alloc (World.grownBy.refl _ _) _))) ?_
              clear hK K
              obtain ⟨w15, hw15⟩ : ∃ x, x = (w9).alloc (.cells [.string l[q].mat, .string ⟨#[]⟩].toArray 9) := ⟨_, rfl⟩
              have hg15 : (w9).grownBy w15 none := by rw [hw15]; exact gr_alloc (World.grownBy.refl _ _) _
              have hb15 : Box w15 (w9).heap.size 9 [.string l[q].mat, .string ⟨#[]⟩] := by rw [hw15]; exact Box.new _ _ _
              rw [← hw15]
              clear hw15
              obtain ⟨x15, hx15⟩ : ∃ x, x = (w9).heap.size := ⟨_, rfl⟩
              rw [← hx15] at hb15 ⊢
              have hxl15 : (w9).heap.size ≤ x15 := by omega
              clear hx15
              have hbx15 : b < x15 := by have := hoB.lt; omega
              replace hoB := hoB.pure hg15
              replace hown := hown.pure hg15
              refine tree_e0 (by kernel_rfl) rfl rfl (fun K hK => ?_)
              go_wp2_with fail
              refine (some_any b _ _ _ _ [l[q].mat, ⟨#[]⟩] w15 hoB.2 (by omega) (hb15.sl (row_strs _ _ _) (by omega) (by simp [maxLen])) rfl (by simp)).mono ?_
              rintro e w16 ⟨s16, rfl, ho16⟩
              go_wp2_with fail
              try go_simp
              refine hK _ _ trivial ?_
              clear hK K
              replace hoB := hoB.trans ho16
              replace hown := hown.s ho16 hb1
              refine tree_e0 (by kernel_rfl) rfl rfl (fun K hK => ?_)
              go_wp2_with fail
              refine (odd_any b _ _ _ w16 hoB.2 (by omega) (by omega) (by omega) (by omega)).mono ?_
              rintro e w18 ⟨s18, rfl, _, ho18⟩
              go_wp2_with fail
              try go_simp
              refine hK _ _ trivial ?_
              clear hK K
              replace hoB := hoB.trans ho18
              replace hown := hown.s ho18 hb1
              refine tree_n rfl rfl _ rfl _ rfl ?_
              try go_simp
              refine tree_p rfl rfl rfl rfl _ rfl (by simp) (fun K hK => ?_)
              apply Exists.intro
              refine ⟨fun wq K' hK' => ?_, ?_⟩
              · go_wp2_with fail
                exact hK'
              go_simp
              refine hK _ ?_
              clear hK K
              refine tree_e0 (by kernel_rfl) rfl rfl (fun K hK => ?_)
              have f0 := hown.frozen (q * 3)
              obtain ⟨cq, rfl, hc⟩ := hown.cell_at (by decide) hql
              have c0 : w18.cell? ⟨g, q * 3, none⟩ = some (.string l[q].key) := hc 0 _ rfl
              clear hc
              go_wp2_with fail
              try go_simp
              refine hK _ _ trivial ?_
              clear hK K
              obtain ⟨l2, hown2, hlen2⟩ : ∃ x : List Spl, Own ((w18).setCell ⟨g, q * 3, none⟩ (.string s9)) w1.heap.size 38 (some ⟨g, 0, none⟩) c' x ∧ x.length = l.length := ⟨_, Own.set_spl0 hown hql s9, by rw [List.length_set]; skip⟩
              have hoB2 := hoB.set hbw (p := ⟨g, q * 3, none⟩) (by simp only; omega) (.string s9)
              have hql2 : q < l2.length := by omega
              replace hlen2 := hide hlen2
              obtain ⟨w21, hwn⟩ : ∃ x, x = (w18).setCell ⟨g, q * 3, none⟩ (.string s9) := ⟨_, rfl⟩
              rw [← hwn] at hown2 hoB2 ⊢
              clear hwn
              refine tree_n rfl rfl _ rfl _ rfl ?_
              try go_simp
              refine tree_p rfl rfl rfl rfl _ rfl (by simp) (fun K hK => ?_)
              apply Exists.intro
              refine ⟨fun wq K' hK' => ?_, ?_⟩
              · go_wp2_with fail
                exact hK'
              go_simp
              refine hK _ ?_
              clear hK K
              refine tree_e0 (by kernel_rfl) rfl rfl (fun K hK => ?_)
              have f1 := hown2.frozen (q * 3 + 1)
              obtain ⟨cq, rfl, hc⟩ := hown2.cell_at (by decide) hql2
              have c1 : w21.cell? ⟨g, q * 3 + 1, none⟩ = some (.string l2[q].mat) := hc 1 _ rfl
              clear hc
              go_wp2_with fail
              try go_simp
              refine hK _ _ trivial ?_
              clear hK K
              obtain ⟨l3, hown3, hlen3⟩ : ∃ x : List Spl, Own ((w21).setCell ⟨g, q * 3+ 1, none⟩ (.string s16)) w1.heap.size 38 (some ⟨g, 0, none⟩) c' x ∧ x.length = l.length := ⟨_, Own.set_spl1 hown2 hql2 s16, by rw [List.length_set]; exact hlen2.out⟩
              have hoB3 := hoB2.set hbw (p := ⟨g, q * 3+ 1, none⟩) (by simp only; omega) (.string s16)
              have hql3 : q < l3.length := by omega
              replace hlen3 := hide hlen3
              obtain ⟨w24, hwn⟩ : ∃ x, x = (w21).setCell ⟨g, q * 3+ 1, none⟩ (.string s16) := ⟨_, rfl⟩
              rw [← hwn] at hown3 hoB3 ⊢
              clear hwn
              refine tree_n rfl rfl _ rfl _ rfl ?_
              try go_simp
              refine tree_p rfl rfl rfl rfl _ rfl (by simp) (fun K hK => ?_)
              apply Exists.intro
              refine ⟨fun wq K' hK' => ?_, ?_⟩
              · go_wp2_with fail
                exact hK'
              go_simp
              refine hK _ ?_
              clear hK K
              refine tree_e0 (by kernel_rfl) rfl rfl (fun K hK => ?_)
              have f2 := hown3.frozen (q * 3 + 2)
              obtain ⟨cq, rfl, hc⟩ := hown3.cell_at (by decide) hql3
              have c2 : w24.cell? ⟨g, q * 3 + 2, none⟩ = some (.int .i64 l3[q].left) := hc 2 _ rfl
              clear hc
              go_wp2_with fail
              try go_simp
              refine hK _ _ trivial ?_
              clear hK K
              refine tree_done ?_
              obtain ⟨l4, hown4, hlen4⟩ : ∃ x : List Spl, Own ((w24).setCell ⟨g, q * 3+ 2, none⟩ (.int .i64 s18)) w1.heap.size 38 (some ⟨g, 0, none⟩) c' x ∧ x.length = l.length := ⟨_, Own.set_spl2 hown3 hql3 s18, by rw [List.length_set]; exact hlen3.out⟩
              have hoB4 := hoB3.set hbw (p := ⟨g, q * 3+ 2, none⟩) (by simp only; omega) (.int .i64 s18)
              have hql4 : q < l4.length := by omega
              replace hlen4 := hide hlen4
              obtain ⟨w27, hwn⟩ : ∃ x, x = (w24).setCell ⟨g, q * 3+ 2, none⟩ (.int .i64 s18) := ⟨_, rfl⟩
              rw [← hwn] at hown4 hoB4 ⊢
              clear hwn
              rw [← hlen4.out]
              have hl4 : l4.length ≤ 5 := by have := hlen4.out; omega
              clear hlen4 hlen3 hlen2 hown hown2 hown3 hoB hoB2 hoB3
              go_wp2_with fail
              go_ret
              exact ⟨l4, _, _, rfl, hown4.sl.mono (by omega), hl4, hown4.cap, hoB4.mono (by omega)⟩
            · refine tree_e rfl rfl (fun K hK => ?_)
              go_wp2_with fail
              try go_simp
              refine hK _ _ ((hown.pure (gr_alloc (World.grownBy.refl _ _) _))) ?_
              clear hK K
              obtain ⟨w15, hw15⟩ : ∃ x, x = (w8).alloc (.cells [.string l[q].mat, .string ⟨#[]⟩].toArray 9) := ⟨_, rfl⟩
              have hg15 : (w8).grownBy w15 none := by rw [hw15]; exact gr_alloc (World.grownBy.refl _ _) _
              have hb15 : Box w15 (w8).heap.size 9 [.string l[q].mat, .string ⟨#[]⟩] := by rw [hw15]; exact Box.new _ _ _
              rw [← hw15]
              clear hw15
              obtain ⟨x15, hx15⟩ : ∃ x, x = (w8).heap.size := ⟨_, rfl⟩
              rw [← hx15] at hb15 ⊢
              have hxl15 : (w8).heap.size ≤ x15 := by omega
              clear hx15
              have hbx15 : b < x15 := by have := hoB.lt; omega
              replace hoB := hoB.pure hg15
              replace hown := hown.pure hg15
              replace hb8 := hb8.pure hg15
              refine tree_e rfl rfl (fun K hK => ?_)
              go_wp2_with fail
              refine (some_any b _ _ _ _ [l[q].key, ⟨#[]⟩, ⟨#[115, 49]⟩] w15 hoB.2 (by omega) (hb8.sl (row_strs _ _ _) (by omega) (by simp [maxLen])) rfl (by simp)).mono ?_
              rintro e w9 ⟨s9, rfl, ho9⟩
              go_wp2_with fail
              try go_simp
              refine hK _ _ ((hown.s ho9 hb1)) ?_
              clear hK K
              replace hoB := hoB.trans ho9
              replace hown := hown.s ho9 hb1
              replace hb15 := hb15.gr ho9.1 (fun e => by injection e; omega)
              refine tree_e0 (by kernel_rfl) rfl rfl (fun K hK => ?_)
              go_wp2_with fail
              refine (some_any b _ _ _ _ [l[q].mat, ⟨#[]⟩] w9 hoB.2 (by omega) (hb15.sl (row_strs _ _ _) (by omega) (by simp [maxLen])) rfl (by simp)).mono ?_
              rintro e w16 ⟨s16, rfl, ho16⟩
              go_wp2_with fail
              try go_simp
              refine hK _ _ trivial ?_
              clear hK K
              replace hoB := hoB.trans ho16
              replace hown := hown.s ho16 hb1
              refine tree_e0 (by kernel_rfl) rfl rfl (fun K hK => ?_)
              go_wp2_with fail
              refine (odd_any b _ _ _ w16 hoB.2 (by omega) (by omega) (by omega) (by omega)).mono ?_
              rintro e w18 ⟨s18, rfl, _, ho18⟩
              go_wp2_with fail
              try go_simp
              refine hK _ _ trivial ?_
              clear hK K
              replace hoB := hoB.trans ho18
              replace hown := hown.s ho18 hb1
              refine tree_n rfl rfl _ rfl _ rfl ?_
              try go_simp
              refine tree_p rfl rfl rfl rfl _ rfl (by simp) (fun K hK => ?_)
              apply Exists.intro
              refine ⟨fun wq K' hK' => ?_, ?_⟩
              · go_wp2_with fail
                exact hK'
              go_simp
              refine hK _ ?_
              clear hK K
              refine tree_e0 (by kernel_rfl) rfl rfl (fun K hK => ?_)
              have f0 := hown.frozen (q * 3)
              obtain ⟨cq, rfl, hc⟩ := hown.cell_at (by decide) hql
              have c0 : w18.cell? ⟨g, q * 3, none⟩ = some (.string l[q].key) := hc 0 _ rfl
              clear hc
              go_wp2_with fail
              try go_simp
              refine hK _ _ trivial ?_
              clear hK K
              obtain ⟨l2, hown2, hlen2⟩ : ∃ x : List Spl, Own ((w18).setCell ⟨g, q * 3, none⟩ (.string s9)) w1.heap.size 38 (some ⟨g, 0, none⟩) c' x ∧ x.length = l.length := ⟨_, Own.set_spl0 hown hql s9, by rw [List.length_set]; skip⟩
              have hoB2 := hoB.set hbw (p := ⟨g, q * 3, none⟩) (by simp only; omega) (.string s9)
              have hql2 : q < l2.length := by omega
              replace hlen2 := hide hlen2
              obtain ⟨w21, hwn⟩ : ∃ x, x = (w18).setCell ⟨g, q * 3, none⟩ (.string s9) := ⟨_, rfl⟩
              rw [← hwn] at hown2 hoB2 ⊢
              clear hwn
              refine tree_n rfl rfl _ rfl _ rfl ?_
              try go_simp
              refine tree_p rfl rfl rfl rfl _ rfl (by simp) (fun K hK => ?_)
              apply Exists.intro
              refine ⟨fun wq K' hK' => ?_, ?_⟩
              · go_wp2_with fail
                exact hK'
              go_simp
              refine hK _ ?_
              clear hK K
              refine tree_e0 (by kernel_rfl) rfl rfl (fun K hK => ?_)
              have f1 := hown2.frozen (q * 3 + 1)
              obtain ⟨cq, rfl, hc⟩ := hown2.cell_at (by decide) hql2
              have c1 : w21.cell? ⟨g, q * 3 + 1, none⟩ = some (.string l2[q].mat) := hc 1 _ rfl
              clear hc
              go_wp2_with fail
              try go_simp
              refine hK _ _ trivial ?_
              clear hK K
              obtain ⟨l3, hown3, hlen3⟩ : ∃ x : List Spl, Own ((w21).setCell ⟨g, q * 3+ 1, none⟩ (.string s16)) w1.heap.size 38 (some ⟨g, 0, none⟩) c' x ∧ x.length = l.length := ⟨_, Own.set_spl1 hown2 hql2 s16, by rw [List.length_set]; exact hlen2.out⟩
              have hoB3 := hoB2.set hbw (p := ⟨g, q * 3+ 1, none⟩) (by simp only; omega) (.string s16)
              have hql3 : q < l3.length := by omega
              replace hlen3 := hide hlen3
              obtain ⟨w24, hwn⟩ : ∃ x, x = (w21).setCell ⟨g, q * 3+ 1, none⟩ (.string s16) := ⟨_, rfl⟩
              rw [← hwn] at hown3 hoB3 ⊢
              clear hwn
              refine tree_n rfl rfl _ rfl _ rfl ?_
              try go_simp
              refine tree_p rfl rfl rfl rfl _ rfl (by simp) (fun K hK => ?_)
              apply Exists.intro
              refine ⟨fun wq K' hK' => ?_, ?_⟩
              · go_wp2_with fail
                exact hK'
              go_simp
              refine hK _ ?_
              clear hK K
              refine tree_e0 (by kernel_rfl) rfl rfl (fun K hK => ?_)
              have f2 := hown3.frozen (q * 3 + 2)
              obtain ⟨cq, rfl, hc⟩ := hown3.cell_at (by decide) hql3
              have c2 : w24.cell? ⟨g, q * 3 + 2, none⟩ = some (.int .i64 l3[q].left) := hc 2 _ rfl
              clear hc
              go_wp2_with fail
              try go_simp
              refine hK _ _ trivial ?_
              clear hK K
              refine tree_done ?_
              obtain ⟨l4, hown4, hlen4⟩ : ∃ x : List Spl, Own ((w24).setCell ⟨g, q * 3+ 2, none⟩ (.int .i64 s18)) w1.heap.size 38 (some ⟨g, 0, none⟩) c' x ∧ x.length = l.length := ⟨_, Own.set_spl2 hown3 hql3 s18, by rw [List.length_set]; exact hlen3.out⟩
              have hoB4 := hoB3.set hbw (p := ⟨g, q * 3+ 2, none⟩) (by simp only; omega) (.int .i64 s18)
              have hql4 : q < l4.length := by omega
              replace hlen4 := hide hlen4
              obtain ⟨w27, hwn⟩ : ∃ x, x = (w24).setCell ⟨g, q * 3+ 2, none⟩ (.int .i64 s18) := ⟨_, rfl⟩
              rw [← hwn] at hown4 hoB4 ⊢
              clear hwn
              rw [← hlen4.out]
              have hl4 : l4.length ≤ 5 := by have := hlen4.out; omega
              clear hlen4 hlen3 hlen2 hown hown2 hown3 hoB hoB2 hoB3
              go_wp2_with fail
              go_ret
              exact ⟨l4, _, _, rfl, hown4.sl.mono (by omega), hl4, hown4.cap, hoB4.mono (by omega)⟩
          · refine tree_e rfl rfl (fun K hK => ?_)
            go_wp2_with fail
            try go_simp
            refine hK _ _ ((hown.pure (gr_alloc (World.grownBy.refl _ _) _))) ?_
            clear hK K
            obtain ⟨w15, hw15⟩ : ∃ x, x = (W1).alloc (.cells [.string l[q].mat, .string ⟨#[]⟩].toArray 9) := ⟨_, rfl⟩
            have hg15 : (W1).grownBy w15 none := by rw [hw15]; exact gr_alloc (World.grownBy.refl _ _) _
            have hb15 : Box w15 (W1).heap.size 9 [.string l[q].mat, .string ⟨#[]⟩] := by rw [hw15]; exact Box.new _ _ _
            rw [← hw15]
            clear hw15
            obtain ⟨x15, hx15⟩ : ∃ x, x = (W1).heap.size := ⟨_, rfl⟩
            rw [← hx15] at hb15 ⊢
            have hxl15 : (W1).heap.size ≤ x15 := by omega
            clear hx15
            have hbx15 : b < x15 := by have := hoB.lt; omega
            replace hoB := hoB.pure hg15
            replace hown := hown.pure hg15
            refine tree_e rfl rfl (fun K hK => ?_)
            go_wp2_with fail
            try go_simp
            refine hK _ _ ((hown.pure (gr_alloc (World.grownBy.refl _ _) _))) ?_
            clear hK K
            obtain ⟨w8, hw8⟩ : ∃ x, x = (w15).alloc (.cells [.string l[q].key, .string ⟨#[]⟩, .string ⟨#[115, 49]⟩].toArray 9) := ⟨_, rfl⟩
            have hg8 : (w15).grownBy w8 none := by rw [hw8]; exact gr_alloc (World.grownBy.refl _ _) _
            have hb8 : Box w8 (w15).heap.size 9 [.string l[q].key, .string ⟨#[]⟩, .string ⟨#[115, 49]⟩] := by rw [hw8]; exact Box.new _ _ _
            rw [← hw8]
            clear hw8
            obtain ⟨x8, hx8⟩ : ∃ x, x = (w15).heap.size := ⟨_, rfl⟩
            rw [← hx8] at hb8 ⊢
            have hxl8 : (w15).heap.size ≤ x8 := by omega
            clear hx8
            have hbx8 : b < x8 := by have := hoB.lt; omega
            replace hoB := hoB.pure hg8
            replace hown := hown.pure hg8
            replace hb15 := hb15.pure hg8
            refine tree_e rfl rfl (fun K hK => ?_)
            go_wp2_with fail
            refine (some_any b _ _ _ _ [l[q].key, ⟨#[]⟩, ⟨#[115, 49]⟩] w8 hoB.2 (by omega) (hb8.sl (row_strs _ _ _) (by omega) (by simp [maxLen])) rfl (by simp)).mono ?_
            rintro e w9 ⟨s9, rfl, ho9⟩
            go_wp2_with fail
            try go_simp
            refine hK _ _ ((hown.s ho9 hb1)) ?_
            clear hK K
            replace hoB := hoB.trans ho9
            replace hown := hown.s ho9 hb1
            replace hb15 := hb15.gr ho9.1 (fun e => by injection e; omega)
            refine tree_e0 (by kernel_rfl) rfl rfl (fun K hK => ?_)
            go_wp2_with fail
            refine (some_any b _ _ _ _ [l[q].mat, ⟨#[]⟩] w9 hoB.2 (by omega) (hb15.sl (row_strs _ _ _) (by omega) (by simp [maxLen])) rfl (by simp)).mono ?_
            rintro e w16 ⟨s16, rfl, ho16⟩
            go_wp2_with fail
            try go_simp
            refine hK _ _ trivial ?_
            clear hK K
            replace hoB := hoB.trans ho16
            replace hown := hown.s ho16 hb1
            refine tree_e0 (by kernel_rfl) rfl rfl (fun K hK => ?_)
            go_wp2_with fail
            refine (odd_any b _ _ _ w16 hoB.2 (by omega) (by omega) (by omega) (by omega)).mono ?_
            rintro e w18 ⟨s18, rfl, _, ho18⟩
            go_wp2_with fail
            try go_simp
            refine hK _ _ trivial ?_
            clear hK K
            replace hoB := hoB.trans ho18
            replace hown := hown.s ho18 hb1
            refine tree_n rfl rfl _ rfl _ rfl ?_
            try go_simp
            refine tree_p rfl rfl rfl rfl _ rfl (by simp) (fun K hK => ?_)
            apply Exists.intro
            refine ⟨fun wq K' hK' => ?_, ?_⟩
            · go_wp2_with fail
              exact hK'
            go_simp
            refine hK _ ?_
            clear hK K
            refine tree_e0 (by kernel_rfl) rfl rfl (fun K hK => ?_)
            have f0 := hown.frozen (q * 3)
            obtain ⟨cq, rfl, hc⟩ := hown.cell_at (by decide) hql
            have c0 : w18.cell? ⟨g, q * 3, none⟩ = some (.string l[q].key) := hc 0 _ rfl
            clear hc
            go_wp2_with fail
            try go_simp
            refine hK _ _ trivial ?_
            clear hK K
            obtain ⟨l2, hown2, hlen2⟩ : ∃ x : List Spl, Own ((w18).setCell ⟨g, q * 3, none⟩ (.string s9)) w1.heap.size 38 (some ⟨g, 0, none⟩) c' x ∧ x.length = l.length := ⟨_, Own.set_spl0 hown hql s9, by rw [List.length_set]; skip⟩
            have hoB2 := hoB.set hbw (p := ⟨g, q * 3, none⟩) (by simp only; omega) (.string s9)
            have hql2 : q < l2.length := by omega
            replace hlen2 := hide hlen2
            obtain ⟨w21, hwn⟩ : ∃ x, x = (w18).setCell ⟨g, q * 3, none⟩ (.string s9) := ⟨_, rfl⟩
            rw [← hwn] at hown2 hoB2 ⊢
            clear hwn
            refine tree_n rfl rfl _ rfl _ rfl ?_
            try go_simp
            refine tree_p rfl rfl rfl rfl _ rfl (by simp) (fun K hK => ?_)
            apply Exists.intro
            refine ⟨fun wq K' hK' => ?_, ?_⟩
            · go_wp2_with fail
              exact hK'
            go_simp
            refine hK _ ?_
            clear hK K
            refine tree_e0 (by kernel_rfl) rfl rfl (fun K hK => ?_)
            have f1 := hown2.frozen (q * 3 + 1)
            obtain ⟨cq, rfl, hc⟩ := hown2.cell_at (by decide) hql2
            have c1 : w21.cell? ⟨g, q * 3 + 1, none⟩ = some (.string l2[q].mat) := hc 1 _ rfl
            clear hc
            go_wp2_with fail
            try go_simp
            refine hK _ _ trivial ?_
            clear hK K
            obtain ⟨l3, hown3, hlen3⟩ : ∃ x : List Spl, Own ((w21).setCell ⟨g, q * 3+ 1, none⟩ (.string s16)) w1.heap.size 38 (some ⟨g, 0, none⟩) c' x ∧ x.length = l.length := ⟨_, Own.set_spl1 hown2 hql2 s16, by rw [List.length_set]; exact hlen2.out⟩
            have hoB3 := hoB2.set hbw (p := ⟨g, q * 3+ 1, none⟩) (by simp only; omega) (.string s16)
            have hql3 : q < l3.length := by omega
            replace hlen3 := hide hlen3
            obtain ⟨w24, hwn⟩ : ∃ x, x = (w21).setCell ⟨g, q * 3+ 1, none⟩ (.string s16) := ⟨_, rfl⟩
            rw [← hwn] at hown3 hoB3 ⊢
            clear hwn
            refine tree_n rfl rfl _ rfl _ rfl ?_
            try go_simp
            refine tree_p rfl rfl rfl rfl _ rfl (by simp) (fun K hK => ?_)
            apply Exists.intro
            refine ⟨fun wq K' hK' => ?_, ?_⟩
            · go_wp2_with fail
              exact hK'
            go_simp
            refine hK _ ?_
            clear hK K
            refine tree_e0 (by kernel_rfl) rfl rfl (fun K hK => ?_)
            have f2 := hown3.frozen (q * 3 + 2)
            obtain ⟨cq, rfl, hc⟩ := hown3.cell_at (by decide) hql3
            have c2 : w24.cell? ⟨g, q * 3 + 2, none⟩ = some (.int .i64 l3[q].left) := hc 2 _ rfl
            clear hc
            go_wp2_with fail
            try go_simp
            refine hK _ _ trivial ?_
            clear hK K
            refine tree_done ?_
            obtain ⟨l4, hown4, hlen4⟩ : ∃ x : List Spl, Own ((w24).setCell ⟨g, q * 3+ 2, none⟩ (.int .i64 s18)) w1.heap.size 38 (some ⟨g, 0, none⟩) c' x ∧ x.length = l.length := ⟨_, Own.set_spl2 hown3 hql3 s18, by rw [List.length_set]; exact hlen3.out⟩
            have hoB4 := hoB3.set hbw (p := ⟨g, q * 3+ 2, none⟩) (by simp only; omega) (.int .i64 s18)
            have hql4 : q < l4.length := by omega
            replace hlen4 := hide hlen4
            obtain ⟨w27, hwn⟩ : ∃ x, x = (w24).setCell ⟨g, q * 3+ 2, none⟩ (.int .i64 s18) := ⟨_, rfl⟩
            rw [← hwn] at hown4 hoB4 ⊢
            clear hwn
            rw [← hlen4.out]
            have hl4 : l4.length ≤ 5 := by have := hlen4.out; omega
            clear hlen4 hlen3 hlen2 hown hown2 hown3 hoB hoB2 hoB3
            go_wp2_with fail
            go_ret
            exact ⟨l4, _, _, rfl, hown4.sl.mono (by omega), hl4, hown4.cap, hoB4.mono (by omega)⟩
      · have hl0 : l = [] := List.eq_nil_of_length_eq_zero (by omega)
        subst hl0
        go_wp2_with fail
        go_ret
        exact ⟨[], _, _, rfl, hown.sl.mono (by omega), by simp, hown.cap, hoB.mono (by omega)⟩

end Go.Proofs.YtpdhbhlnopmifaaGreatDoor

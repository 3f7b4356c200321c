/- Contracts of functions that this seat's laws reach, each: what one call returns and what it leaves in memory; no condition beyond each theorem's own hypotheses. -/
import Derived.Test.YtanioobepfllgaaDoorZqEqStr
import Derived.Test.YtanioobepfllgaaDoorZqWords
set_option linter.unusedVariables false
set_option linter.unusedSimpArgs false
namespace Go.Proofs.YtanioobepfllgaaDoor
open Go Go.RowKit Go.Bl

theorem Own.set_prn0 {w : World} {lo : Nat} {e : TypeId} {g c : Nat} {l : List Prn} (h : Own w lo e (some ⟨g, 0, none⟩) c l) {i : Nat} (hi : i < l.length) (s : ByteArray) : Own (w.setCell ⟨g, i * 2, none⟩ (.string s)) lo e (some ⟨g, 0, none⟩) c (l.set i ⟨s, l[i].mat⟩) :=
  h.put hi (j := 0) (x := ⟨s, l[i].mat⟩) (u := .string s) (by decide) (by rintro c1 rfl; rfl)

theorem Own.set_prn1 {w : World} {lo : Nat} {e : TypeId} {g c : Nat} {l : List Prn} (h : Own w lo e (some ⟨g, 0, none⟩) c l) {i : Nat} (hi : i < l.length) (s : ByteArray) : Own (w.setCell ⟨g, i * 2 + 1, none⟩ (.string s)) lo e (some ⟨g, 0, none⟩) c (l.set i ⟨l[i].key, s⟩) :=
  h.put hi (j := 1) (x := ⟨l[i].key, s⟩) (u := .string s) (by decide) (by rintro c1 rfl; rfl)

def kWords : List ByteArray := [⟨#[112, 49]⟩, ⟨#[112, 50]⟩, ⟨#[112, 51]⟩]

set_option maxHeartbeats 4000000 in
set_option maxRecDepth 100000 in
theorem printerList_any (b : Nat) (N : Int) (n : Nat) (w : World) (hs : Strm w b N) (hN : N ≤ 1000000000) (hn : 1 ≤ n ∧ n ≤ 3) :
    Calls Tryd.prog 4 #[.pointer (some ⟨b, 0, none⟩), .int .i64 n] w (SLst (α := Prn) b (N + 20) 3 w) := by
  have hbw := hs.lt
  go_enter Tryd.func4, Tryd.ntmps4
  go_wp2_with fail
  refine (range_any b N _ _ _ (hs.pure (gr_alloc (World.grownBy.refl _ _) _)) (by omega) (by omega) (by omega) (by omega)).mono ?_
  rintro e w1 ⟨r, rfl, hr, ho1⟩
  obtain ⟨r, rfl⟩ := Int.eq_ofNat_of_zero_le (show 0 ≤ r by omega)
  have hL0 := KWs.new kWords w 9
  have hL := hL0.gr ho1.1 (fun e => by injection e; omega)
  have ho := (SOut.refl hs).al (.cells (kWords.map Value.string).toArray 9) |>.trans ho1
  have hr3 : (r : Int) ≤ 3 := by omega
  have hgs := ho1.size
  simp at hgs
  have hb1 : b < w1.heap.size := by omega
  have hsL : w.heap.size < w1.heap.size := by omega
  clear ho1 hL0
  go_wp2_with fail
  go_loopw [5, 15] (fun o i wr => ∃ (k : Nat) (l : List Prn) (A' : Option Addr) (c' : Nat), k ≤ r ∧ i = .int .i64 k ∧ o = .slice A' l.length c' ∧ Hid (l.length = k) ∧ Own wr w1.heap.size 47 A' c' l ∧ KWs kWords wr w.heap.size ∧ SOut b (N + 1 + k) w wr ∧ w1.heap.size ≤ wr.heap.size) (fun _ i _ => r - (intOf i).toNat)
  case atStart => exact ⟨0, [], none, 0, Nat.zero_le _, rfl, rfl, rfl, Own.nil _ _ _, hL, ho.mono (by omega), Nat.le_refl _⟩
  case round =>
    clear hL ho
    obtain ⟨k, l, A', c', hk, rfl, rfl, hlk, hown, hL, ho, hsz0⟩ := hrel
    by_cases hlt : k < r
    · have hk3 : k < kWords.length := by simp [kWords]; omega
      have c0 := hL.2 k hk3
      generalize kWords[k] = ky at *
      go_wp2_with fail
      refine (some_any b (N + 1 + k) _ _ _ [⟨#[112, 108, 97]⟩, ⟨#[112, 108, 97]⟩, ⟨#[112, 101, 116]⟩] _ (ho.2.pure (gr_alloc (World.grownBy.refl _ _) _)) (by omega) (sl_strsAt _ _ _ _ _ (by first | rfl | simp) (by have := ho.2.lt; omega) (by simp [maxLen])) rfl (by simp)).mono ?_
      rintro e w2 ⟨s1, rfl, ho2⟩
      have hg0 := gr_alloc (World.grownBy.refl wr none) (.cells #[.string ⟨#[112, 108, 97]⟩, .string ⟨#[112, 108, 97]⟩, .string ⟨#[112, 101, 116]⟩] 9)
      replace ho := (ho.pure hg0).trans ho2
      replace hown := (hown.pure hg0).s ho2 hb1
      replace hL := (hL.gr hg0 (by simp)).gr ho2.1 (fun e => by injection e; omega)
      have hsz := ho2.size
      simp at hsz
      clear ho2 hg0 c0
      have hll : l.length ≤ 3 := by have := hlk.out; omega
      have hlW := hL.lt
      go_wp2_with (at_builtin; obtain ⟨i0, hi, hz, hi1, hi2⟩ := info_parts info_prn; refine wpList_push (α := Prn) _ rfl (.tmp 19) (.tmp 25) _ rfl w1.heap.size 47 i0 _ 32 Tryd.underlying26 hi hz hi1 hi2 rfl _ _ _ l rfl ?c1 (by exact hown.pure (gr_alloc (World.grownBy.refl _ _) _)) 0 ⟨_, 0, none⟩ 1 1 [⟨ky, s1⟩] rfl rfl (by exact sl_oneAt _ 0 _ _ _ _ (by first | rfl | simp) (Nat.zero_le _) rfl) ?c2 ?c3 ?c4 ?_)
      case c1 => rfl
      case c2 => first | omega | (simp; omega)
      case c3 => first | (simp [maxLen]; omega) | (unfold maxLen; omega)
      case c4 => first | omega | (simp; omega)
      intro A5 c5 w5 hown5 hup5
      have hg1 := gr_alloc (World.grownBy.refl w2 none) (.cells #[.string ky, .string s1] 47)
      have ho5 := (ho.pure hg1).upd (lo := w1.heap.size) (by omega) hb1 hup5
      have hL5 := (hL.gr hg1 (by simp)).upd hup5 hsL
      have hsz5 := hup5.size
      simp at hsz5
      go_wp2
      (go_roundw; (case rel => exact ⟨k + 1, l ++ [⟨ky, s1⟩], A5, c5, by omega, by go_num, by simp, by simp [Hid, hlk.out], hown5, hL5, ho5.mono (by omega), by omega⟩); (case measure => simp [intOf]; omega))
    · have hl1 : 1 ≤ l.length ∧ l.length ≤ 3 := by have := hlk.out; omega
      have hoB : SOut b (N + 4) w wr := ho.mono (by omega)
      clear hL ho hlk hr
      go_wp2_with fail
      refine (flip_any b (N + 4) _ _ hoB.2 (by omega) (by omega)).mono ?_
      rintro e w2 ⟨f, rfl, ho2⟩
      replace hoB := hoB.trans ho2
      replace hown := hown.s ho2 hb1
      have hsz2 := ho2.size
      clear ho2
      cases f with
      | false =>
        go_wp2_with fail
        refine (flip_any b _ _ _ hoB.2 (by omega) (by omega)).mono ?_
        rintro e wt ⟨ft, rfl, hot⟩
        replace hoB := hoB.trans hot
        replace hown := hown.s hot hb1
        cases ft with
        | false =>
          go_wp2_with fail
          go_ret
          exact ⟨l, _, _, rfl, hown.sl.mono (by omega), hl1.2, hown.cap, hoB.mono (by omega)⟩
        | true =>
          go_wp2_with fail
          go_ret
          exact ⟨[], _, _, rfl, Sl.nil, by simp, by simp, hoB.mono (by omega)⟩
      | true =>
        go_wp2_with fail
        refine (next_any b (N + 4 + 1) _ _ hoB.2 (by omega) (by omega)).mono ?_
        rintro e w3 ⟨q, rfl, ⟨hq0, hq1⟩, ho3⟩
        obtain ⟨q, rfl⟩ := Int.eq_ofNat_of_zero_le hq0
        replace hoB := hoB.trans ho3
        replace hown := hown.s ho3 hb1
        have hql : q < l.length := by omega
        obtain ⟨g, rfl, hgl, -⟩ := hown.shape (by omega)
        clear ho3
        go_upto_region 9 with fail
        refine wp_region_tree (fun wx => Own wx w1.heap.size 47 (some ⟨g, 0, none⟩) c' l) [2, 2, 2, 2, 2, 2, 1, 0, 0, 2, 2, 2, 2, 1, 0, 0, 2, 2, 0, 2, 2, 0] (.bl 0 (.bl 1 (.bl 2 (.bl 3 (.bl 4 (.bl 5 (.bl 6 (.bl 9 (.bl 10 (.bl 11 (.bl 12 (.bl 13 (.alt (.ef 7 (.alt (.ef 8 (.ef 14 (.ef 15 (.bl 16 (.bl 17 (.ef 18 (.bl 19 (.bl 20 (.ef 21 .done))))))))) (.ef 14 (.ef 8 (.ef 15 (.bl 16 (.bl 17 (.ef 18 (.bl 19 (.bl 20 (.ef 21 .done))))))))))) (.ef 14 (.ef 7 (.ef 8 (.ef 15 (.bl 16 (.bl 17 (.ef 18 (.bl 19 (.bl 20 (.ef 21 .done))))))))))))))))))))))) (by kernel_rfl) (by kernel_rfl) (hown.pure (gr_drew (World.grownBy.refl _ _))) ?_
        obtain ⟨W1, hW1⟩ : ∃ x, x = (w3).drew := ⟨_, rfl⟩
        rw [← hW1]
        have hgW1 : (w3).grownBy W1 none := by rw [hW1]; exact gr_drew (World.grownBy.refl _ _)
        clear hW1
        replace hoB := hoB.pure hgW1
        replace hown := hown.pure hgW1
        refine tree_p rfl rfl rfl rfl _ rfl (by simp) (fun K hK => ?_)
        apply Exists.intro
        refine ⟨fun wq K' hK' => ?_, ?_⟩
        · go_wp2_with fail
          exact hK'
        go_simp
        refine hK _ ?_
        clear hK K
        refine tree_p rfl rfl rfl rfl _ rfl (by simp) (fun K hK => ?_)
        apply Exists.intro
        refine ⟨fun wq K' hK' => ?_, ?_⟩
        · go_wp2_with fail
          exact hK'
        go_simp
        refine hK _ ?_
        clear hK K
        refine tree_p rfl rfl rfl rfl _ rfl (by simp) (fun K hK => ?_)
        apply Exists.intro
        refine ⟨fun wq K' hK' => ?_, ?_⟩
        · go_wp2_with fail
          exact hK'
        go_simp
        refine hK _ ?_
        clear hK K
        refine tree_p rfl rfl rfl rfl _ rfl (by simp) (fun K hK => ?_)
        apply Exists.intro
        refine ⟨fun wq K' hK' => ?_, ?_⟩
        · go_wp2_with fail
          exact hK'
        go_simp
        refine hK _ ?_
        clear hK K
        refine tree_n rfl rfl _ rfl _ rfl ?_
        try go_simp
        refine tree_p rfl rfl rfl rfl _ rfl (by simp) (fun K hK => ?_)
        apply Exists.intro
        refine ⟨fun wq K' hK' => ?_, ?_⟩
        · go_wp2_with fail
          exact hK'
        go_simp
        refine hK _ ?_
        clear hK K
        refine tree_b rfl rfl rfl rfl _ rfl (by simp) (fun K hK => ?_)
        apply Exists.intro
        refine ⟨fun wq hq K' hK' => ?_, ?_⟩
        · obtain ⟨cq, rfl, hc⟩ := hq.cell_at (by decide) hql
          have c0 : wq.cell? ⟨g, q * 2, none⟩ = some (.string l[q].key) := hc 0 _ rfl
          have c1 : wq.cell? ⟨g, q * 2 + 1, none⟩ = some (.string l[q].mat) := hc 1 _ rfl
          clear hc
          go_wp2_with fail
          exact hK'
        go_simp
        refine hK _ ?_
        clear hK K
        refine tree_p rfl rfl rfl rfl _ rfl (by simp) (fun K hK => ?_)
        apply Exists.intro
        refine ⟨fun wq K' hK' => ?_, ?_⟩
        · go_wp2_with fail
          exact hK'
        go_simp
        refine hK _ ?_
        clear hK K
        refine tree_p rfl rfl rfl rfl _ rfl (by simp) (fun K hK => ?_)
        apply Exists.intro
        refine ⟨fun wq K' hK' => ?_, ?_⟩
        · go_wp2_with fail
          exact hK'
        go_simp
        refine hK _ ?_
        clear hK K
        refine tree_n rfl rfl _ rfl _ rfl ?_
        try go_simp
        refine tree_p rfl rfl rfl rfl _ rfl (by simp) (fun K hK => ?_)
        apply Exists.intro
        refine ⟨fun wq K' hK' => ?_, ?_⟩
        · go_wp2_with fail
          exact hK'
        go_simp
        refine hK _ ?_
        clear hK K
        refine tree_b rfl rfl rfl rfl _ rfl (by simp) (fun K hK => ?_)
        apply Exists.intro
        refine ⟨fun wq hq K' hK' => ?_, ?_⟩
        · obtain ⟨cq, rfl, hc⟩ := hq.cell_at (by decide) hql
          have c0 : wq.cell? ⟨g, q * 2, none⟩ = some (.string l[q].key) := hc 0 _ rfl
          have c1 : wq.cell? ⟨g, q * 2 + 1, none⟩ = some (.string l[q].mat) := hc 1 _ rfl
          clear hc
          go_wp2_with fail
          exact hK'
        go_simp
        refine hK _ ?_
        clear hK K
        refine tree_alt ?_ ?_
        · refine tree_e rfl rfl (fun K hK => ?_)
          go_wp2_with fail
          try go_simp
          refine hK _ _ ((hown.pure (gr_alloc (World.grownBy.refl _ _) _))) ?_
          clear hK K
          obtain ⟨w7, hw7⟩ : ∃ x, x = (W1).alloc (.cells [.string l[q].key, .string ⟨#[]⟩, .string ⟨#[112, 49]⟩].toArray 9) := ⟨_, rfl⟩
          have hg7 : (W1).grownBy w7 none := by rw [hw7]; exact gr_alloc (World.grownBy.refl _ _) _
          have hb7 : Box w7 (W1).heap.size 9 [.string l[q].key, .string ⟨#[]⟩, .string ⟨#[112, 49]⟩] := by rw [hw7]; exact Box.new _ _ _
          rw [← hw7]
          clear hw7
          obtain ⟨x7, hx7⟩ : ∃ x, x = (W1).heap.size := ⟨_, rfl⟩
          rw [← hx7] at hb7 ⊢
          have hxl7 : (W1).heap.size ≤ x7 := by omega
          clear hx7
          have hbx7 : b < x7 := by have := hoB.lt; omega
          replace hoB := hoB.pure hg7
          replace hown := hown.pure hg7
          refine tree_alt ?_ ?_
          · refine tree_e rfl rfl (fun K hK => ?_)
            go_wp2_with fail
            refine (some_any b _ _ _ _ [l[q].key, ⟨#[]⟩, ⟨#[112, 49]⟩] w7 hoB.2 (by omega) (hb7.sl (row_strs _ _ _) (by omega) (by simp [maxLen])) rfl (by simp)).mono ?_
            rintro e w8 ⟨s8, rfl, ho8⟩
            go_wp2_with fail
            try go_simp
            refine hK _ _ ((hown.s ho8 hb1)) ?_
            clear hK K
            replace hoB := hoB.trans ho8
            replace hown := hown.s ho8 hb1
            refine tree_e rfl rfl (fun K hK => ?_)
            go_wp2_with fail
            try go_simp
            refine hK _ _ ((hown.pure (gr_alloc (World.grownBy.refl _ _) _))) ?_
            clear hK K
            obtain ⟨w14, hw14⟩ : ∃ x, x = (w8).alloc (.cells [.string l[q].mat, .string ⟨#[]⟩].toArray 9) := ⟨_, rfl⟩
            have hg14 : (w8).grownBy w14 none := by rw [hw14]; exact gr_alloc (World.grownBy.refl _ _) _
            have hb14 : Box w14 (w8).heap.size 9 [.string l[q].mat, .string ⟨#[]⟩] := by rw [hw14]; exact Box.new _ _ _
            rw [← hw14]
            clear hw14
            obtain ⟨x14, hx14⟩ : ∃ x, x = (w8).heap.size := ⟨_, rfl⟩
            rw [← hx14] at hb14 ⊢
            have hxl14 : (w8).heap.size ≤ x14 := by omega
            clear hx14
            have hbx14 : b < x14 := by have := hoB.lt; omega
            replace hoB := hoB.pure hg14
            replace hown := hown.pure hg14
            refine tree_e0 (by kernel_rfl) rfl rfl (fun K hK => ?_)
            go_wp2_with fail
            refine (some_any b _ _ _ _ [l[q].mat, ⟨#[]⟩] w14 hoB.2 (by omega) (hb14.sl (row_strs _ _ _) (by omega) (by simp [maxLen])) rfl (by simp)).mono ?_
            rintro e w15 ⟨s15, rfl, ho15⟩
            go_wp2_with fail
            try go_simp
            refine hK _ _ trivial ?_
            clear hK K
            replace hoB := hoB.trans ho15
            replace hown := hown.s ho15 hb1
            refine tree_n rfl rfl _ rfl _ rfl ?_
            try go_simp
            refine tree_p rfl rfl rfl rfl _ rfl (by simp) (fun K hK => ?_)
            apply Exists.intro
            refine ⟨fun wq K' hK' => ?_, ?_⟩
            · go_wp2_with fail
              exact hK'
            go_simp
            refine hK _ ?_
            clear hK K
            refine tree_e0 (by kernel_rfl) rfl rfl (fun K hK => ?_)
            have f0 := hown.frozen (q * 2)
            obtain ⟨cq, rfl, hc⟩ := hown.cell_at (by decide) hql
            have c0 : w15.cell? ⟨g, q * 2, none⟩ = some (.string l[q].key) := hc 0 _ rfl
            clear hc
            go_wp2_with fail
            try go_simp
            refine hK _ _ trivial ?_
            clear hK K
            have hown2 := Own.set_prn0 hown hql s8
            have hoB2 := hoB.set hbw (p := ⟨g, q * 2, none⟩) (by simp only; omega) (.string s8)
            have hlen2 : (l.set q ⟨s8, l[q].mat⟩).length = l.length := by simp
            obtain ⟨l2, hl2⟩ : ∃ l2, l2 = l.set q ⟨s8, l[q].mat⟩ := ⟨_, rfl⟩
            rw [← hl2] at hown2 hlen2
            have hql2 : q < l2.length := by omega
            replace hlen2 := hide hlen2
            clear hl2
            obtain ⟨w18, hw18⟩ : ∃ x, x = w15.setCell ⟨g, q * 2, none⟩ (.string s8) := ⟨_, rfl⟩
            rw [← hw18] at hown2 hoB2 ⊢
            clear hw18
            refine tree_n rfl rfl _ rfl _ rfl ?_
            try go_simp
            refine tree_p rfl rfl rfl rfl _ rfl (by simp) (fun K hK => ?_)
            apply Exists.intro
            refine ⟨fun wq K' hK' => ?_, ?_⟩
            · go_wp2_with fail
              exact hK'
            go_simp
            refine hK _ ?_
            clear hK K
            refine tree_e0 (by kernel_rfl) rfl rfl (fun K hK => ?_)
            have f1 := hown2.frozen (q * 2 + 1)
            obtain ⟨cq, rfl, hc⟩ := hown2.cell_at (by decide) hql2
            have c1 : w18.cell? ⟨g, q * 2 + 1, none⟩ = some (.string l2[q].mat) := hc 1 _ rfl
            clear hc
            go_wp2_with fail
            try go_simp
            refine hK _ _ trivial ?_
            clear hK K
            refine tree_done ?_
            have hown3 := Own.set_prn1 hown2 hql2 s15
            have hoB3 := hoB2.set hbw (p := ⟨g, q * 2 + 1, none⟩) (by simp only; omega) (.string s15)
            have hlen3 : (l2.set q ⟨l2[q].key, s15⟩).length = l.length := by simp [hlen2.out]
            obtain ⟨l3, hl3⟩ : ∃ l3, l3 = l2.set q ⟨l2[q].key, s15⟩ := ⟨_, rfl⟩
            rw [← hl3] at hown3 hlen3
            replace hlen3 := hide hlen3
            clear hl3
            obtain ⟨w21, hw21⟩ : ∃ x, x = w18.setCell ⟨g, q * 2 + 1, none⟩ (.string s15) := ⟨_, rfl⟩
            rw [← hw21] at hown3 hoB3 ⊢
            clear hw21
            rw [← hlen3.out] at hl1 ⊢
            clear c1 f1 hlen3 hown hown2 hoB hoB2 hlen2
            go_wp2_with fail
            refine (flip_any b _ _ _ hoB3.2 (by omega) (by omega)).mono ?_
            rintro e wt ⟨ft, rfl, hot⟩
            replace hoB3 := hoB3.trans hot
            replace hown3 := hown3.s hot hb1
            cases ft with
            | false =>
              go_wp2_with fail
              go_ret
              exact ⟨l3, _, _, rfl, hown3.sl.mono (by omega), hl1.2, hown3.cap, hoB3.mono (by omega)⟩
            | true =>
              go_wp2_with fail
              go_ret
              exact ⟨[], _, _, rfl, Sl.nil, by simp, by simp, hoB3.mono (by omega)⟩
          · refine tree_e rfl rfl (fun K hK => ?_)
            go_wp2_with fail
            try go_simp
            refine hK _ _ ((hown.pure (gr_alloc (World.grownBy.refl _ _) _))) ?_
            clear hK K
            obtain ⟨w14, hw14⟩ : ∃ x, x = (w7).alloc (.cells [.string l[q].mat, .string ⟨#[]⟩].toArray 9) := ⟨_, rfl⟩
            have hg14 : (w7).grownBy w14 none := by rw [hw14]; exact gr_alloc (World.grownBy.refl _ _) _
            have hb14 : Box w14 (w7).heap.size 9 [.string l[q].mat, .string ⟨#[]⟩] := by rw [hw14]; exact Box.new _ _ _
            rw [← hw14]
            clear hw14
            obtain ⟨x14, hx14⟩ : ∃ x, x = (w7).heap.size := ⟨_, rfl⟩
            rw [← hx14] at hb14 ⊢
            have hxl14 : (w7).heap.size ≤ x14 := by omega
            clear hx14
            have hbx14 : b < x14 := by have := hoB.lt; omega
            replace hoB := hoB.pure hg14
            replace hown := hown.pure hg14
            replace hb7 := hb7.pure hg14
            refine tree_e rfl rfl (fun K hK => ?_)
            go_wp2_with fail
            refine (some_any b _ _ _ _ [l[q].key, ⟨#[]⟩, ⟨#[112, 49]⟩] w14 hoB.2 (by omega) (hb7.sl (row_strs _ _ _) (by omega) (by simp [maxLen])) rfl (by simp)).mono ?_
            rintro e w8 ⟨s8, rfl, ho8⟩
            go_wp2_with fail
            try go_simp
            refine hK _ _ ((hown.s ho8 hb1)) ?_
            clear hK K
            replace hoB := hoB.trans ho8
            replace hown := hown.s ho8 hb1
            replace hb14 := hb14.gr ho8.1 (fun e => by injection e; omega)
            refine tree_e0 (by kernel_rfl) rfl rfl (fun K hK => ?_)
            go_wp2_with fail
            refine (some_any b _ _ _ _ [l[q].mat, ⟨#[]⟩] w8 hoB.2 (by omega) (hb14.sl (row_strs _ _ _) (by omega) (by simp [maxLen])) rfl (by simp)).mono ?_
            rintro e w15 ⟨s15, rfl, ho15⟩
            go_wp2_with fail
            try go_simp
            refine hK _ _ trivial ?_
            clear hK K
            replace hoB := hoB.trans ho15
            replace hown := hown.s ho15 hb1
            refine tree_n rfl rfl _ rfl _ rfl ?_
            try go_simp
            refine tree_p rfl rfl rfl rfl _ rfl (by simp) (fun K hK => ?_)
            apply Exists.intro
            refine ⟨fun wq K' hK' => ?_, ?_⟩
            · go_wp2_with fail
              exact hK'
            go_simp
            refine hK _ ?_
            clear hK K
            refine tree_e0 (by kernel_rfl) rfl rfl (fun K hK => ?_)
            have f0 := hown.frozen (q * 2)
            obtain ⟨cq, rfl, hc⟩ := hown.cell_at (by decide) hql
            have c0 : w15.cell? ⟨g, q * 2, none⟩ = some (.string l[q].key) := hc 0 _ rfl
            clear hc
            go_wp2_with fail
            try go_simp
            refine hK _ _ trivial ?_
            clear hK K
            have hown2 := Own.set_prn0 hown hql s8
            have hoB2 := hoB.set hbw (p := ⟨g, q * 2, none⟩) (by simp only; omega) (.string s8)
            have hlen2 : (l.set q ⟨s8, l[q].mat⟩).length = l.length := by simp
            obtain ⟨l2, hl2⟩ : ∃ l2, l2 = l.set q ⟨s8, l[q].mat⟩ := ⟨_, rfl⟩
            rw [← hl2] at hown2 hlen2
            have hql2 : q < l2.length := by omega
            replace hlen2 := hide hlen2
            clear hl2
            obtain ⟨w18, hw18⟩ : ∃ x, x = w15.setCell ⟨g, q * 2, none⟩ (.string s8) := ⟨_, rfl⟩
            rw [← hw18] at hown2 hoB2 ⊢
            clear hw18
            refine tree_n rfl rfl _ rfl _ rfl ?_
            try go_simp
            refine tree_p rfl rfl rfl rfl _ rfl (by simp) (fun K hK => ?_)
            apply Exists.intro
            refine ⟨fun wq K' hK' => ?_, ?_⟩
            · go_wp2_with fail
              exact hK'
            go_simp
            refine hK _ ?_
            clear hK K
            refine tree_e0 (by kernel_rfl) rfl rfl (fun K hK => ?_)
            have f1 := hown2.frozen (q * 2 + 1)
            obtain ⟨cq, rfl, hc⟩ := hown2.cell_at (by decide) hql2
            have c1 : w18.cell? ⟨g, q * 2 + 1, none⟩ = some (.string l2[q].mat) := hc 1 _ rfl
            clear hc
            go_wp2_with fail
            try go_simp
            refine hK _ _ trivial ?_
            clear hK K
            refine tree_done ?_
            have hown3 := Own.set_prn1 hown2 hql2 s15
            have hoB3 := hoB2.set hbw (p := ⟨g, q * 2 + 1, none⟩) (by simp only; omega) (.string s15)
            have hlen3 : (l2.set q ⟨l2[q].key, s15⟩).length = l.length := by simp [hlen2.out]
            obtain ⟨l3, hl3⟩ : ∃ l3, l3 = l2.set q ⟨l2[q].key, s15⟩ := ⟨_, rfl⟩
            rw [← hl3] at hown3 hlen3
            replace hlen3 := hide hlen3
            clear hl3
            obtain ⟨w21, hw21⟩ : ∃ x, x = w18.setCell ⟨g, q * 2 + 1, none⟩ (.string s15) := ⟨_, rfl⟩
            rw [← hw21] at hown3 hoB3 ⊢
            clear hw21
            rw [← hlen3.out] at hl1 ⊢
            clear c1 f1 hlen3 hown hown2 hoB hoB2 hlen2
            go_wp2_with fail
            refine (flip_any b _ _ _ hoB3.2 (by omega) (by omega)).mono ?_
            rintro e wt ⟨ft, rfl, hot⟩
            replace hoB3 := hoB3.trans hot
            replace hown3 := hown3.s hot hb1
            cases ft with
            | false =>
              go_wp2_with fail
              go_ret
              exact ⟨l3, _, _, rfl, hown3.sl.mono (by omega), hl1.2, hown3.cap, hoB3.mono (by omega)⟩
            | true =>
              go_wp2_with fail
              go_ret
              exact ⟨[], _, _, rfl, Sl.nil, by simp, by simp, hoB3.mono (by omega)⟩
        · refine tree_e rfl rfl (fun K hK => ?_)
          go_wp2_with fail
          try go_simp
          refine hK _ _ ((hown.pure (gr_alloc (World.grownBy.refl _ _) _))) ?_
          clear hK K
          obtain ⟨w14, hw14⟩ : ∃ x, x = (W1).alloc (.cells [.string l[q].mat, .string ⟨#[]⟩].toArray 9) := ⟨_, rfl⟩
          have hg14 : (W1).grownBy w14 none := by rw [hw14]; exact gr_alloc (World.grownBy.refl _ _) _
          have hb14 : Box w14 (W1).heap.size 9 [.string l[q].mat, .string ⟨#[]⟩] := by rw [hw14]; exact Box.new _ _ _
          rw [← hw14]
          clear hw14
          obtain ⟨x14, hx14⟩ : ∃ x, x = (W1).heap.size := ⟨_, rfl⟩
          rw [← hx14] at hb14 ⊢
          have hxl14 : (W1).heap.size ≤ x14 := by omega
          clear hx14
          have hbx14 : b < x14 := by have := hoB.lt; omega
          replace hoB := hoB.pure hg14
          replace hown := hown.pure hg14
          refine tree_e rfl rfl (fun K hK => ?_)
          go_wp2_with fail
          try go_simp
          refine hK _ _ ((hown.pure (gr_alloc (World.grownBy.refl _ _) _))) ?_
          clear hK K
          obtain ⟨w7, hw7⟩ : ∃ x, x = (w14).alloc (.cells [.string l[q].key, .string ⟨#[]⟩, .string ⟨#[112, 49]⟩].toArray 9) := ⟨_, rfl⟩
          have hg7 : (w14).grownBy w7 none := by rw [hw7]; exact gr_alloc (World.grownBy.refl _ _) _
          have hb7 : Box w7 (w14).heap.size 9 [.string l[q].key, .string ⟨#[]⟩, .string ⟨#[112, 49]⟩] := by rw [hw7]; exact Box.new _ _ _
          rw [← hw7]
          clear hw7
          obtain ⟨x7, hx7⟩ : ∃ x, x = (w14).heap.size := ⟨_, rfl⟩
          rw [← hx7] at hb7 ⊢
          have hxl7 : (w14).heap.size ≤ x7 := by omega
          clear hx7
          have hbx7 : b < x7 := by have := hoB.lt; omega
          replace hoB := hoB.pure hg7
          replace hown := hown.pure hg7
          replace hb14 := hb14.pure hg7
          refine tree_e rfl rfl (fun K hK => ?_)
          go_wp2_with fail
          refine (some_any b _ _ _ _ [l[q].key, ⟨#[]⟩, ⟨#[112, 49]⟩] w7 hoB.2 (by omega) (hb7.sl (row_strs _ _ _) (by omega) (by simp [maxLen])) rfl (by simp)).mono ?_
          rintro e w8 ⟨s8, rfl, ho8⟩
          go_wp2_with fail
          try go_simp
          refine hK _ _ ((hown.s ho8 hb1)) ?_
          clear hK K
          replace hoB := hoB.trans ho8
          replace hown := hown.s ho8 hb1
          replace hb14 := hb14.gr ho8.1 (fun e => by injection e; omega)
          refine tree_e0 (by kernel_rfl) rfl rfl (fun K hK => ?_)
          go_wp2_with fail
          refine (some_any b _ _ _ _ [l[q].mat, ⟨#[]⟩] w8 hoB.2 (by omega) (hb14.sl (row_strs _ _ _) (by omega) (by simp [maxLen])) rfl (by simp)).mono ?_
          rintro e w15 ⟨s15, rfl, ho15⟩
          go_wp2_with fail
          try go_simp
          refine hK _ _ trivial ?_
          clear hK K
          replace hoB := hoB.trans ho15
          replace hown := hown.s ho15 hb1
          refine tree_n rfl rfl _ rfl _ rfl ?_
          try go_simp
          refine tree_p rfl rfl rfl rfl _ rfl (by simp) (fun K hK => ?_)
          apply Exists.intro
          refine ⟨fun wq K' hK' => ?_, ?_⟩
          · go_wp2_with fail
            exact hK'
          go_simp
          refine hK _ ?_
          clear hK K
          refine tree_e0 (by kernel_rfl) rfl rfl (fun K hK => ?_)
          have f0 := hown.frozen (q * 2)
          obtain ⟨cq, rfl, hc⟩ := hown.cell_at (by decide) hql
          have c0 : w15.cell? ⟨g, q * 2, none⟩ = some (.string l[q].key) := hc 0 _ rfl
          clear hc
          go_wp2_with fail
          try go_simp
          refine hK _ _ trivial ?_
          clear hK K
          have hown2 := Own.set_prn0 hown hql s8
          have hoB2 := hoB.set hbw (p := ⟨g, q * 2, none⟩) (by simp only; omega) (.string s8)
          have hlen2 : (l.set q ⟨s8, l[q].mat⟩).length = l.length := by simp
          obtain ⟨l2, hl2⟩ : ∃ l2, l2 = l.set q ⟨s8, l[q].mat⟩ := ⟨_, rfl⟩
          rw [← hl2] at hown2 hlen2
          have hql2 : q < l2.length := by omega
          replace hlen2 := hide hlen2
          clear hl2
          obtain ⟨w18, hw18⟩ : ∃ x, x = w15.setCell ⟨g, q * 2, none⟩ (.string s8) := ⟨_, rfl⟩
          rw [← hw18] at hown2 hoB2 ⊢
          clear hw18
          refine tree_n rfl rfl _ rfl _ rfl ?_
          try go_simp
          refine tree_p rfl rfl rfl rfl _ rfl (by simp) (fun K hK => ?_)
          apply Exists.intro
          refine ⟨fun wq K' hK' => ?_, ?_⟩
          · go_wp2_with fail
            exact hK'
          go_simp
          refine hK _ ?_
          clear hK K
          refine tree_e0 (by kernel_rfl) rfl rfl (fun K hK => ?_)
          have f1 := hown2.frozen (q * 2 + 1)
          obtain ⟨cq, rfl, hc⟩ := hown2.cell_at (by decide) hql2
          have c1 : w18.cell? ⟨g, q * 2 + 1, none⟩ = some (.string l2[q].mat) := hc 1 _ rfl
          clear hc
          go_wp2_with fail
          try go_simp
          refine hK _ _ trivial ?_
          clear hK K
          refine tree_done ?_
          have hown3 := Own.set_prn1 hown2 hql2 s15
          have hoB3 := hoB2.set hbw (p := ⟨g, q * 2 + 1, none⟩) (by simp only; omega) (.string s15)
          have hlen3 : (l2.set q ⟨l2[q].key, s15⟩).length = l.length := by simp [hlen2.out]
          obtain ⟨l3, hl3⟩ : ∃ l3, l3 = l2.set q ⟨l2[q].key, s15⟩ := ⟨_, rfl⟩
          rw [← hl3] at hown3 hlen3
          replace hlen3 := hide hlen3
          clear hl3
          obtain ⟨w21, hw21⟩ : ∃ x, x = w18.setCell ⟨g, q * 2 + 1, none⟩ (.string s15) := ⟨_, rfl⟩
          rw [← hw21] at hown3 hoB3 ⊢
          clear hw21
          rw [← hlen3.out] at hl1 ⊢
          clear c1 f1 hlen3 hown hown2 hoB hoB2 hlen2
          go_wp2_with fail
          refine (flip_any b _ _ _ hoB3.2 (by omega) (by omega)).mono ?_
          rintro e wt ⟨ft, rfl, hot⟩
          replace hoB3 := hoB3.trans hot
          replace hown3 := hown3.s hot hb1
          cases ft with
          | false =>
            go_wp2_with fail
            go_ret
            exact ⟨l3, _, _, rfl, hown3.sl.mono (by omega), hl1.2, hown3.cap, hoB3.mono (by omega)⟩
          | true =>
            go_wp2_with fail
            go_ret
            exact ⟨[], _, _, rfl, Sl.nil, by simp, by simp, hoB3.mono (by omega)⟩

end Go.Proofs.YtanioobepfllgaaDoor

namespace Go.Proofs.YtanioobepfllgaaDoor
open Go Go.RowKit Go.Bl

theorem Own.set_jb0 {w : World} {lo : Nat} {e : TypeId} {g c : Nat} {l : List Jb} (h : Own w lo e (some ⟨g, 0, none⟩) c l) {i : Nat} (hi : i < l.length) (s : ByteArray) : Own (w.setCell ⟨g, i * 4, none⟩ (.string s)) lo e (some ⟨g, 0, none⟩) c (l.set i ⟨s, l[i].mat, l[i].min, l[i].due⟩) :=
  h.put hi (j := 0) (x := ⟨s, l[i].mat, l[i].min, l[i].due⟩) (u := .string s) (by decide) (by rintro c1 rfl; rfl)

theorem Own.set_jb2 {w : World} {lo : Nat} {e : TypeId} {g c : Nat} {l : List Jb} (h : Own w lo e (some ⟨g, 0, none⟩) c l) {i : Nat} (hi : i < l.length) (s : Int) : Own (w.setCell ⟨g, i * 4 + 2, none⟩ (.int .i64 s)) lo e (some ⟨g, 0, none⟩) c (l.set i ⟨l[i].key, l[i].mat, s, l[i].due⟩) :=
  h.put hi (j := 2) (x := ⟨l[i].key, l[i].mat, s, l[i].due⟩) (u := .int .i64 s) (by decide) (by rintro c1 rfl; rfl)

theorem Own.set_jb3 {w : World} {lo : Nat} {e : TypeId} {g c : Nat} {l : List Jb} (h : Own w lo e (some ⟨g, 0, none⟩) c l) {i : Nat} (hi : i < l.length) (s : Int) : Own (w.setCell ⟨g, i * 4 + 3, none⟩ (.int .i64 s)) lo e (some ⟨g, 0, none⟩) c (l.set i ⟨l[i].key, l[i].mat, l[i].min, s⟩) :=
  h.put hi (j := 3) (x := ⟨l[i].key, l[i].mat, l[i].min, s⟩) (u := .int .i64 s) (by decide) (by rintro c1 rfl; rfl)

def jWords : List ByteArray := [⟨#[106, 49]⟩, ⟨#[106, 50]⟩, ⟨#[106, 51]⟩, ⟨#[106, 52]⟩, ⟨#[106, 53]⟩]

end Go.Proofs.YtanioobepfllgaaDoor

namespace Go.Proofs.YtanioobepfllgaaDoor
open Go Go.RowKit Go.Bl

set_option maxHeartbeats 4000000 in
set_option maxRecDepth 100000 in
theorem jobListN_any (b : Nat) (N : Int) (n : Nat) (w : World) (hs : Strm w b N) (hN : N ≤ 1000000000) (hn : n ≤ 5) :
    Calls Tryd.prog 5 #[.pointer (some ⟨b, 0, none⟩), .int .i64 n] w (SLst (α := Jb) b (N + 40) n w) := by
  have hbw := hs.lt
  go_enter Tryd.func5, Tryd.ntmps5
  go_wp2_with fail
  refine (range_any b N _ _ _ (hs.pure (gr_alloc (World.grownBy.refl _ _) _)) (by omega) (by omega) (by omega) (by omega)).mono ?_
  rintro e w1 ⟨r, rfl, hr, ho1⟩
  obtain ⟨r, rfl⟩ := Int.eq_ofNat_of_zero_le (show 0 ≤ r by omega)
  have hL0 := KWs.new jWords w 9
  have hL := hL0.gr ho1.1 (fun e => by injection e; omega)
  have ho := (SOut.refl hs).al (.cells (jWords.map Value.string).toArray 9) |>.trans ho1
  have hr3 : (r : Int) ≤ 5 := by omega
  have hgs := ho1.size
  simp at hgs
  have hb1 : b < w1.heap.size := by omega
  have hsL : w.heap.size < w1.heap.size := by omega
  clear ho1 hL0
  go_wp2_with fail
  go_loopw [5, 15] (fun o i wr => ∃ (k : Nat) (l : List Jb) (A' : Option Addr) (c' : Nat), k ≤ r ∧ i = .int .i64 k ∧ o = .slice A' l.length c' ∧ Hid (l.length = k) ∧ Own wr w1.heap.size 58 A' c' l ∧ KWs jWords wr w.heap.size ∧ SOut b (N + 1 + 3 * k) w wr ∧ w1.heap.size ≤ wr.heap.size) (fun _ i _ => r - (intOf i).toNat)
  case atStart => exact ⟨0, [], none, 0, Nat.zero_le _, rfl, rfl, rfl, Own.nil _ _ _, hL, ho.mono (by omega), Nat.le_refl _⟩
  case round =>
    clear hL ho
    obtain ⟨k, l, A', c', hk, rfl, rfl, hlk, hown, hL, ho, hsz0⟩ := hrel
    by_cases hlt : k < r
    · have hk3 : k < jWords.length := by simp [jWords]; omega
      have c0 := hL.2 k hk3
      generalize jWords[k] = ky at *
      go_wp2_with fail
      refine (some_any b (N + 1 + 3 * k) _ _ _ [⟨#[112, 108, 97]⟩, ⟨#[112, 108, 97]⟩, ⟨#[112, 101, 116]⟩] _ (ho.2.pure (gr_alloc (World.grownBy.refl _ _) _)) (by omega) (sl_strsAt _ _ _ _ _ (by first | rfl | simp) (by have := ho.2.lt; omega) (by simp [maxLen])) rfl (by simp)).mono ?_
      rintro e w2 ⟨s1, rfl, ho2⟩
      have hg0 := gr_alloc (World.grownBy.refl wr none) (.cells #[.string ⟨#[112, 108, 97]⟩, .string ⟨#[112, 108, 97]⟩, .string ⟨#[112, 101, 116]⟩] 9)
      replace ho := (ho.pure hg0).trans ho2
      replace hown := (hown.pure hg0).s ho2 hb1
      replace hL := (hL.gr hg0 (by simp)).gr ho2.1 (fun e => by injection e; omega)
      have hsz := ho2.size
      simp at hsz
      clear ho2 hg0 c0
      go_wp2_with fail
      refine (pick_any b (N + 1 + 3 * k + 1) _ _ _ [10, 20, 20, 30, 45] _ (ho.2.pure (gr_alloc (World.grownBy.refl _ _) _)) (by omega) (sl_intsAt _ _ _ _ _ (by first | rfl | simp) (by have := ho.2.lt; omega) (by simp [maxLen])) rfl (by simp)).mono ?_
      rintro e w3 ⟨s2, rfl, _, ho2⟩
      have hg0 := gr_alloc (World.grownBy.refl w2 none) (.cells #[.int .i64 10, .int .i64 20, .int .i64 20, .int .i64 30, .int .i64 45] 3)
      replace ho := (ho.pure hg0).trans ho2
      replace hown := (hown.pure hg0).s ho2 hb1
      replace hL := (hL.gr hg0 (by simp)).gr ho2.1 (fun e => by injection e; omega)
      have hsz3 := ho2.size
      simp at hsz3
      clear ho2 hg0
      go_wp2_with fail
      refine (pick_any b (N + 1 + 3 * k + 1 + 1) _ _ _ [0, 20, 40, 60, 100] _ (ho.2.pure (gr_alloc (World.grownBy.refl _ _) _)) (by omega) (sl_intsAt _ _ _ _ _ (by first | rfl | simp) (by have := ho.2.lt; omega) (by simp [maxLen])) rfl (by simp)).mono ?_
      rintro e w4 ⟨s3, rfl, _, ho2⟩
      have hg0 := gr_alloc (World.grownBy.refl w3 none) (.cells #[.int .i64 0, .int .i64 20, .int .i64 40, .int .i64 60, .int .i64 100] 3)
      replace ho := (ho.pure hg0).trans ho2
      replace hown := (hown.pure hg0).s ho2 hb1
      replace hL := (hL.gr hg0 (by simp)).gr ho2.1 (fun e => by injection e; omega)
      have hsz4 := ho2.size
      simp at hsz4
      clear ho2 hg0
      have hll : l.length ≤ 5 := by have := hlk.out; omega
      have hlW := hL.lt
      go_wp2_with (at_builtin; obtain ⟨i0, hi, hz, hi1, hi2⟩ := info_parts info_jb; refine wpList_push (α := Jb) _ rfl (.tmp 19) (.tmp 31) _ rfl w1.heap.size 58 i0 _ 48 Tryd.underlying28 hi hz hi1 hi2 rfl _ _ _ l rfl ?c1 (by exact hown.pure (gr_alloc (World.grownBy.refl _ _) _)) 0 ⟨_, 0, none⟩ 1 1 [⟨ky, s1, s2, s3⟩] rfl rfl (by exact sl_oneAt _ 0 _ _ _ _ (by first | rfl | simp) (Nat.zero_le _) rfl) ?c2 ?c3 ?c4 ?_)
      case c1 => rfl
      case c2 => first | omega | (simp; omega)
      case c3 => first | (simp [maxLen]; omega) | (unfold maxLen; omega)
      case c4 => first | omega | (simp; omega)
      intro A5 c5 w5 hown5 hup5
      have hg1 := gr_alloc (World.grownBy.refl w4 none) (.cells #[.string ky, .string s1, .int .i64 s2, .int .i64 s3] 58)
      have ho5 := (ho.pure hg1).upd (lo := w1.heap.size) (by omega) hb1 hup5
      have hL5 := (hL.gr hg1 (by simp)).upd hup5 hsL
      have hsz5 := hup5.size
      simp at hsz5
      go_wp2
      (go_roundw; (case rel => exact ⟨k + 1, l ++ [⟨ky, s1, s2, s3⟩], A5, c5, by omega, by go_num, by simp, by simp [Hid, hlk.out], hown5, hL5, ho5.mono (by omega), by omega⟩); (case measure => simp [intOf]; omega))
    · have hl1 : l.length ≤ n := by have := hlk.out; omega
      have hoB : SOut b (N + 16) w wr := ho.mono (by omega)
      clear hL ho hlk hr
      by_cases h0 : 0 < l.length
      · have hb0 : decide (((l.length : Nat) : Int) > 0) = true := by simp; omega
        go_wp2_with fail
        refine (flip_any b (N + 16) _ _ hoB.2 (by omega) (by omega)).mono ?_
        rintro e w2 ⟨f, rfl, ho2⟩
        replace hoB := hoB.trans ho2
        replace hown := hown.s ho2 hb1
        have hsz2 := ho2.size
        clear ho2
        cases f with
        | false =>
          go_wp2_with fail
          go_ret
          exact ⟨l, _, _, rfl, hown.sl.mono (by omega), hl1, hown.cap, hoB.mono (by omega)⟩
        | true =>
          go_wp2_with fail
          refine (next_any b (N + 16 + 1) _ _ hoB.2 (by omega) (by omega)).mono ?_
          rintro e w3 ⟨q, rfl, ⟨hq0, hq1⟩, ho3⟩
          obtain ⟨q, rfl⟩ := Int.eq_ofNat_of_zero_le hq0
          replace hoB := hoB.trans ho3
          replace hown := hown.s ho3 hb1
          have hql : q < l.length := by omega
          obtain ⟨g, rfl, hgl, -⟩ := hown.shape (by omega)
          clear ho3
          go_upto_region 9 with fail
          refine wp_region_tree (fun wx => Own wx w1.heap.size 58 (some ⟨g, 0, none⟩) c' l) [2, 2, 2, 2, 2, 2, 2, 1, 0, 0, 2, 0, 2, 2, 2, 2, 1, 0, 0, 2, 2, 0, 2, 2, 0, 2, 2, 0] (.bl 0 (.bl 1 (.bl 2 (.bl 3 (.bl 4 (.bl 5 (.bl 6 (.bl 7 (.bl 10 (.bl 12 (.bl 13 (.bl 14 (.bl 15 (.bl 16 (.alt (.ef 8 (.alt (.ef 9 (.alt (.ef 11 (.ef 17 (.ef 18 (.bl 19 (.bl 20 (.ef 21 (.bl 22 (.bl 23 (.ef 24 (.bl 25 (.bl 26 (.ef 27 .done)))))))))))) (.ef 17 (.ef 11 (.ef 18 (.bl 19 (.bl 20 (.ef 21 (.bl 22 (.bl 23 (.ef 24 (.bl 25 (.bl 26 (.ef 27 .done)))))))))))))) (.ef 17 (.ef 9 (.ef 11 (.ef 18 (.bl 19 (.bl 20 (.ef 21 (.bl 22 (.bl 23 (.ef 24 (.bl 25 (.bl 26 (.ef 27 .done))))))))))))))) (.ef 17 (.ef 8 (.ef 9 (.ef 11 (.ef 18 (.bl 19 (.bl 20 (.ef 21 (.bl 22 (.bl 23 (.ef 24 (.bl 25 (.bl 26 (.ef 27 .done))))))))))))))))))))))))))))) (by kernel_rfl) (by kernel_rfl) (hown.pure (gr_drew (World.grownBy.refl _ _))) ?_
          obtain ⟨W1, hW1⟩ : ∃ x, x = (w3).drew := ⟨_, rfl⟩
          rw [← hW1]
          have hgW1 : (w3).grownBy W1 none := by rw [hW1]; exact gr_drew (World.grownBy.refl _ _)
          clear hW1
          replace hoB := hoB.pure hgW1
          replace hown := hown.pure hgW1
          refine tree_p rfl rfl rfl rfl _ rfl (by simp) (fun K hK => ?_)
          apply Exists.intro
          refine ⟨fun wq K' hK' => ?_, ?_⟩
          · go_wp2_with fail
            exact hK'
          go_simp
          refine hK _ ?_
          clear hK K
          refine tree_p rfl rfl rfl rfl _ rfl (by simp) (fun K hK => ?_)
          apply Exists.intro
          refine ⟨fun wq K' hK' => ?_, ?_⟩
          · go_wp2_with fail
            exact hK'
          go_simp
          refine hK _ ?_
          clear hK K
          refine tree_p rfl rfl rfl rfl _ rfl (by simp) (fun K hK => ?_)
          apply Exists.intro
          refine ⟨fun wq K' hK' => ?_, ?_⟩
          · go_wp2_with fail
            exact hK'
          go_simp
          refine hK _ ?_
          clear hK K
          refine tree_p rfl rfl rfl rfl _ rfl (by simp) (fun K hK => ?_)
          apply Exists.intro
          refine ⟨fun wq K' hK' => ?_, ?_⟩
          · go_wp2_with fail
            exact hK'
          go_simp
          refine hK _ ?_
          clear hK K
          refine tree_p rfl rfl rfl rfl _ rfl (by simp) (fun K hK => ?_)
          apply Exists.intro
          refine ⟨fun wq K' hK' => ?_, ?_⟩
          · go_wp2_with fail
            exact hK'
          go_simp
          refine hK _ ?_
          clear hK K
          refine tree_n rfl rfl _ rfl _ rfl ?_
          try go_simp
          refine tree_p rfl rfl rfl rfl _ rfl (by simp) (fun K hK => ?_)
          apply Exists.intro
          refine ⟨fun wq K' hK' => ?_, ?_⟩
          · go_wp2_with fail
            exact hK'
          go_simp
          refine hK _ ?_
          clear hK K
          refine tree_b rfl rfl rfl rfl _ rfl (by simp) (fun K hK => ?_)
          apply Exists.intro
          refine ⟨fun wq hq K' hK' => ?_, ?_⟩
          · obtain ⟨cq, rfl, hc⟩ := hq.cell_at (by decide) hql
            have c0 : wq.cell? ⟨g, q * 4, none⟩ = some (.string l[q].key) := hc 0 _ rfl
            have c3 : wq.cell? ⟨g, q * 4 + 3, none⟩ = some (.int .i64 l[q].due) := hc 3 _ rfl
            clear hc
            go_wp2_with fail
            exact hK'
          go_simp
          refine hK _ ?_
          clear hK K
          refine tree_p rfl rfl rfl rfl _ rfl (by simp) (fun K hK => ?_)
          apply Exists.intro
          refine ⟨fun wq K' hK' => ?_, ?_⟩
          · go_wp2_with fail
            exact hK'
          go_simp
          refine hK _ ?_
          clear hK K
          refine tree_p rfl rfl rfl rfl _ rfl (by simp) (fun K hK => ?_)
          apply Exists.intro
          refine ⟨fun wq K' hK' => ?_, ?_⟩
          · go_wp2_with fail
            exact hK'
          go_simp
          refine hK _ ?_
          clear hK K
          refine tree_p rfl rfl rfl rfl _ rfl (by simp) (fun K hK => ?_)
          apply Exists.intro
          refine ⟨fun wq K' hK' => ?_, ?_⟩
          · go_wp2_with fail
            exact hK'
          go_simp
          refine hK _ ?_
          clear hK K
          refine tree_n rfl rfl _ rfl _ rfl ?_
          try go_simp
          refine tree_p rfl rfl rfl rfl _ rfl (by simp) (fun K hK => ?_)
          apply Exists.intro
          refine ⟨fun wq K' hK' => ?_, ?_⟩
          · go_wp2_with fail
            exact hK'
          go_simp
          refine hK _ ?_
          clear hK K
          refine tree_b rfl rfl rfl rfl _ rfl (by simp) (fun K hK => ?_)
          apply Exists.intro
          refine ⟨fun wq hq K' hK' => ?_, ?_⟩
          · obtain ⟨cq, rfl, hc⟩ := hq.cell_at (by decide) hql
            have c0 : wq.cell? ⟨g, q * 4, none⟩ = some (.string l[q].key) := hc 0 _ rfl
            have c3 : wq.cell? ⟨g, q * 4 + 3, none⟩ = some (.int .i64 l[q].due) := hc 3 _ rfl
            clear hc
            go_wp2_with fail
            exact hK'
          go_simp
          refine hK _ ?_
          clear hK K
          refine tree_alt ?_ ?_
          · refine tree_e rfl rfl (fun K hK => ?_)
            go_wp2_with fail
            try go_simp
            refine hK _ _ ((hown.pure (gr_alloc (World.grownBy.refl _ _) _))) ?_
            clear hK K
            obtain ⟨w8, hw8⟩ : ∃ x, x = (W1).alloc (.cells [.string l[q].key, .string ⟨#[]⟩, .string ⟨#[106, 49]⟩].toArray 9) := ⟨_, rfl⟩
            have hg8 : (W1).grownBy w8 none := by rw [hw8]; exact gr_alloc (World.grownBy.refl _ _) _
            have hb8 : Box w8 (W1).heap.size 9 [.string l[q].key, .string ⟨#[]⟩, .string ⟨#[106, 49]⟩] := by rw [hw8]; exact Box.new _ _ _
            rw [← hw8]
            clear hw8
            obtain ⟨x8, hx8⟩ : ∃ x, x = (W1).heap.size := ⟨_, rfl⟩
            rw [← hx8] at hb8 ⊢
            have hxl8 : (W1).heap.size ≤ x8 := by omega
            clear hx8
            have hbx8 : b < x8 := by have := hoB.lt; omega
            replace hoB := hoB.pure hg8
            replace hown := hown.pure hg8
            refine tree_alt ?_ ?_
            · refine tree_e rfl rfl (fun K hK => ?_)
              go_wp2_with fail
              refine (some_any b _ _ _ _ [l[q].key, ⟨#[]⟩, ⟨#[106, 49]⟩] w8 hoB.2 (by omega) (hb8.sl (row_strs _ _ _) (by omega) (by simp [maxLen])) rfl (by simp)).mono ?_
              rintro e w9 ⟨s9, rfl, ho9⟩
              go_wp2_with fail
              try go_simp
              refine hK _ _ ((hown.s ho9 hb1)) ?_
              clear hK K
              replace hoB := hoB.trans ho9
              replace hown := hown.s ho9 hb1
              refine tree_alt ?_ ?_
              · refine tree_e rfl rfl (fun K hK => ?_)
                go_wp2_with fail
                refine (odd_any b _ _ _ w9 hoB.2 (by omega) (by omega) (by omega) (by omega)).mono ?_
                rintro e w11 ⟨s11, rfl, _, ho11⟩
                go_wp2_with fail
                try go_simp
                refine hK _ _ ((hown.s ho11 hb1)) ?_
                clear hK K
                replace hoB := hoB.trans ho11
                replace hown := hown.s ho11 hb1
                refine tree_e rfl rfl (fun K hK => ?_)
                go_wp2_with fail
                try go_simp
                refine hK _ _ ((hown.pure (gr_alloc (World.grownBy.refl _ _) _))) ?_
                clear hK K
                obtain ⟨w17, hw17⟩ : ∃ x, x = (w11).alloc (.cells [.int .i64 l[q].due, .int .i64 (-1)].toArray 3) := ⟨_, rfl⟩
                have hg17 : (w11).grownBy w17 none := by rw [hw17]; exact gr_alloc (World.grownBy.refl _ _) _
                have hb17 : Box w17 (w11).heap.size 3 [.int .i64 l[q].due, .int .i64 (-1)] := by rw [hw17]; exact Box.new _ _ _
                rw [← hw17]
                clear hw17
                obtain ⟨x17, hx17⟩ : ∃ x, x = (w11).heap.size := ⟨_, rfl⟩
                rw [← hx17] at hb17 ⊢
                have hxl17 : (w11).heap.size ≤ x17 := by omega
                clear hx17
                have hbx17 : b < x17 := by have := hoB.lt; omega
                replace hoB := hoB.pure hg17
                replace hown := hown.pure hg17
                refine tree_e0 (by kernel_rfl) rfl rfl (fun K hK => ?_)
                go_wp2_with fail
                refine (pick_any b _ _ _ _ [l[q].due, -1] w17 hoB.2 (by omega) (hb17.sl (row_ints _ _ _) (by omega) (by simp [maxLen])) rfl (by simp)).mono ?_
                rintro e w18 ⟨s18, rfl, _, ho18⟩
                go_wp2_with fail
                try go_simp
                refine hK _ _ trivial ?_
                clear hK K
                replace hoB := hoB.trans ho18
                replace hown := hown.s ho18 hb1
                refine tree_n rfl rfl _ rfl _ rfl ?_
                try go_simp
                refine tree_p rfl rfl rfl rfl _ rfl (by simp) (fun K hK => ?_)
                apply Exists.intro
                refine ⟨fun wq K' hK' => ?_, ?_⟩
                · go_wp2_with fail
                  exact hK'
                go_simp
                refine hK _ ?_
                clear hK K
                refine tree_e0 (by kernel_rfl) rfl rfl (fun K hK => ?_)
                have f0 := hown.frozen (q * 4)
                obtain ⟨cq, rfl, hc⟩ := hown.cell_at (by decide) hql
                have c0 : w18.cell? ⟨g, q * 4, none⟩ = some (.string l[q].key) := hc 0 _ rfl
                clear hc
                go_wp2_with fail
                try go_simp
                refine hK _ _ trivial ?_
                clear hK K
                obtain ⟨l2, hown2, hlen2⟩ : ∃ x : List Jb, Own ((w18).setCell ⟨g, q * 4, none⟩ (.string s9)) w1.heap.size 58 (some ⟨g, 0, none⟩) c' x ∧ x.length = l.length := ⟨_, Own.set_jb0 hown hql s9, by rw [List.length_set]; skip⟩
                have hoB2 := hoB.set hbw (p := ⟨g, q * 4, none⟩) (by simp only; omega) (.string s9)
                have hql2 : q < l2.length := by omega
                replace hlen2 := hide hlen2
                obtain ⟨w21, hwn⟩ : ∃ x, x = (w18).setCell ⟨g, q * 4, none⟩ (.string s9) := ⟨_, rfl⟩
                rw [← hwn] at hown2 hoB2 ⊢
                clear hwn
                refine tree_n rfl rfl _ rfl _ rfl ?_
                try go_simp
                refine tree_p rfl rfl rfl rfl _ rfl (by simp) (fun K hK => ?_)
                apply Exists.intro
                refine ⟨fun wq K' hK' => ?_, ?_⟩
                · go_wp2_with fail
                  exact hK'
                go_simp
                refine hK _ ?_
                clear hK K
                refine tree_e0 (by kernel_rfl) rfl rfl (fun K hK => ?_)
                have f1 := hown2.frozen (q * 4 + 2)
                obtain ⟨cq, rfl, hc⟩ := hown2.cell_at (by decide) hql2
                have c1 : w21.cell? ⟨g, q * 4 + 2, none⟩ = some (.int .i64 l2[q].min) := hc 2 _ rfl
                clear hc
                go_wp2_with fail
                try go_simp
                refine hK _ _ trivial ?_
                clear hK K
                obtain ⟨l3, hown3, hlen3⟩ : ∃ x : List Jb, Own ((w21).setCell ⟨g, q * 4+ 2, none⟩ (.int .i64 s11)) w1.heap.size 58 (some ⟨g, 0, none⟩) c' x ∧ x.length = l.length := ⟨_, Own.set_jb2 hown2 hql2 s11, by rw [List.length_set]; exact hlen2.out⟩
                have hoB3 := hoB2.set hbw (p := ⟨g, q * 4+ 2, none⟩) (by simp only; omega) (.int .i64 s11)
                have hql3 : q < l3.length := by omega
                replace hlen3 := hide hlen3
                obtain ⟨w24, hwn⟩ : ∃ x, x = (w21).setCell ⟨g, q * 4+ 2, none⟩ (.int .i64 s11) := ⟨_, rfl⟩
                rw [← hwn] at hown3 hoB3 ⊢
                clear hwn
                refine tree_n rfl rfl _ rfl _ rfl ?_
                try go_simp
                refine tree_p rfl rfl rfl rfl _ rfl (by simp) (fun K hK => ?_)
                apply Exists.intro
                refine ⟨fun wq K' hK' => ?_, ?_⟩
                · go_wp2_with fail
                  exact hK'
                go_simp
                refine hK _ ?_
                clear hK K
                refine tree_e0 (by kernel_rfl) rfl rfl (fun K hK => ?_)
                have f2 := hown3.frozen (q * 4 + 3)
                obtain ⟨cq, rfl, hc⟩ := hown3.cell_at (by decide) hql3
                have c2 : w24.cell? ⟨g, q * 4 + 3, none⟩ = some (.int .i64 l3[q].due) := hc 3 _ rfl
                clear hc
                go_wp2_with fail
                try go_simp
                refine hK _ _ trivial ?_
                clear hK K
                refine tree_done ?_
                obtain ⟨l4, hown4, hlen4⟩ : ∃ x : List Jb, Own ((w24).setCell ⟨g, q * 4+ 3, none⟩ (.int .i64 s18)) w1.heap.size 58 (some ⟨g, 0, none⟩) c' x ∧ x.length = l.length := ⟨_, Own.set_jb3 hown3 hql3 s18, by rw [List.length_set]; exact hlen3.out⟩
                have hoB4 := hoB3.set hbw (p := ⟨g, q * 4+ 3, none⟩) (by simp only; omega) (.int .i64 s18)
                have hql4 : q < l4.length := by omega
                replace hlen4 := hide hlen4
                obtain ⟨w27, hwn⟩ : ∃ x, x = (w24).setCell ⟨g, q * 4+ 3, none⟩ (.int .i64 s18) := ⟨_, rfl⟩
                rw [← hwn] at hown4 hoB4 ⊢
                clear hwn
                rw [← hlen4.out]
                have hl4 : l4.length ≤ n := by have := hlen4.out; omega
                clear hlen4 hlen3 hlen2 hown hown2 hown3 hoB hoB2 hoB3
                go_wp2_with fail
                go_ret
                exact ⟨l4, _, _, rfl, hown4.sl.mono (by omega), hl4, hown4.cap, hoB4.mono (by omega)⟩
              · refine tree_e rfl rfl (fun K hK => ?_)
                go_wp2_with fail
                try go_simp
                refine hK _ _ ((hown.pure (gr_alloc (World.grownBy.refl _ _) _))) ?_
                clear hK K
                obtain ⟨w17, hw17⟩ : ∃ x, x = (w9).alloc (.cells [.int .i64 l[q].due, .int .i64 (-1)].toArray 3) := ⟨_, rfl⟩
                have hg17 : (w9).grownBy w17 none := by rw [hw17]; exact gr_alloc (World.grownBy.refl _ _) _
                have hb17 : Box w17 (w9).heap.size 3 [.int .i64 l[q].due, .int .i64 (-1)] := by rw [hw17]; exact Box.new _ _ _
                rw [← hw17]
                clear hw17
                obtain ⟨x17, hx17⟩ : ∃ x, x = (w9).heap.size := ⟨_, rfl⟩
                rw [← hx17] at hb17 ⊢
                have hxl17 : (w9).heap.size ≤ x17 := by omega
                clear hx17
                have hbx17 : b < x17 := by have := hoB.lt; omega
                replace hoB := hoB.pure hg17
                replace hown := hown.pure hg17
                refine tree_e rfl rfl (fun K hK => ?_)
                go_wp2_with fail
                refine (odd_any b _ _ _ w17 hoB.2 (by omega) (by omega) (by omega) (by omega)).mono ?_
                rintro e w11 ⟨s11, rfl, _, ho11⟩
                go_wp2_with fail
                try go_simp
                refine hK _ _ ((hown.s ho11 hb1)) ?_
                clear hK K
                replace hoB := hoB.trans ho11
                replace hown := hown.s ho11 hb1
                replace hb17 := hb17.gr ho11.1 (fun e => by injection e; omega)
                refine tree_e0 (by kernel_rfl) rfl rfl (fun K hK => ?_)
                go_wp2_with fail
                refine (pick_any b _ _ _ _ [l[q].due, -1] w11 hoB.2 (by omega) (hb17.sl (row_ints _ _ _) (by omega) (by simp [maxLen])) rfl (by simp)).mono ?_
                rintro e w18 ⟨s18, rfl, _, ho18⟩
                go_wp2_with fail
                try go_simp
                refine hK _ _ trivial ?_
                clear hK K
                replace hoB := hoB.trans ho18
                replace hown := hown.s ho18 hb1
                refine tree_n rfl rfl _ rfl _ rfl ?_
                try go_simp
                refine tree_p rfl rfl rfl rfl _ rfl (by simp) (fun K hK => ?_)
                apply Exists.intro
                refine ⟨fun wq K' hK' => ?_, ?_⟩
                · go_wp2_with fail
                  exact hK'
                go_simp
                refine hK _ ?_
                clear hK K
                refine tree_e0 (by kernel_rfl) rfl rfl (fun K hK => ?_)
                have f0 := hown.frozen (q * 4)
                obtain ⟨cq, rfl, hc⟩ := hown.cell_at (by decide) hql
                have c0 : w18.cell? ⟨g, q * 4, none⟩ = some (.string l[q].key) := hc 0 _ rfl
                clear hc
                go_wp2_with fail
                try go_simp
                refine hK _ _ trivial ?_
                clear hK K
                obtain ⟨l2, hown2, hlen2⟩ : ∃ x : List Jb, Own ((w18).setCell ⟨g, q * 4, none⟩ (.string s9)) w1.heap.size 58 (some ⟨g, 0, none⟩) c' x ∧ x.length = l.length := ⟨_, Own.set_jb0 hown hql s9, by rw [List.length_set]; skip⟩
                have hoB2 := hoB.set hbw (p := ⟨g, q * 4, none⟩) (by simp only; omega) (.string s9)
                have hql2 : q < l2.length := by omega
                replace hlen2 := hide hlen2
                obtain ⟨w21, hwn⟩ : ∃ x, x = (w18).setCell ⟨g, q * 4, none⟩ (.string s9) := ⟨_, rfl⟩
                rw [← hwn] at hown2 hoB2 ⊢
                clear hwn
                refine tree_n rfl rfl _ rfl _ rfl ?_
                try go_simp
                refine tree_p rfl rfl rfl rfl _ rfl (by simp) (fun K hK => ?_)
                apply Exists.intro
                refine ⟨fun wq K' hK' => ?_, ?_⟩
                · go_wp2_with fail
                  exact hK'
                go_simp
                refine hK _ ?_
                clear hK K
                refine tree_e0 (by kernel_rfl) rfl rfl (fun K hK => ?_)
                have f1 := hown2.frozen (q * 4 + 2)
                obtain ⟨cq, rfl, hc⟩ := hown2.cell_at (by decide) hql2
                have c1 : w21.cell? ⟨g, q * 4 + 2, none⟩ = some (.int .i64 l2[q].min) := hc 2 _ rfl
                clear hc
                go_wp2_with fail
                try go_simp
                refine hK _ _ trivial ?_
                clear hK K
                obtain ⟨l3, hown3, hlen3⟩ : ∃ x : List Jb, Own ((w21).setCell ⟨g, q * 4+ 2, none⟩ (.int .i64 s11)) w1.heap.size 58 (some ⟨g, 0, none⟩) c' x ∧ x.length = l.length := ⟨_, Own.set_jb2 hown2 hql2 s11, by rw [List.length_set]; exact hlen2.out⟩
                have hoB3 := hoB2.set hbw (p := ⟨g, q * 4+ 2, none⟩) (by simp only; omega) (.int .i64 s11)
                have hql3 : q < l3.length := by omega
                replace hlen3 := hide hlen3
                obtain ⟨w24, hwn⟩ : ∃ x, x = (w21).setCell ⟨g, q * 4+ 2, none⟩ (.int .i64 s11) := ⟨_, rfl⟩
                rw [← hwn] at hown3 hoB3 ⊢
                clear hwn
                refine tree_n rfl rfl _ rfl _ rfl ?_
                try go_simp
                refine tree_p rfl rfl rfl rfl _ rfl (by simp) (fun K hK => ?_)
                apply Exists.intro
                refine ⟨fun wq K' hK' => ?_, ?_⟩
                · go_wp2_with fail
                  exact hK'
                go_simp
                refine hK _ ?_
                clear hK K
                refine tree_e0 (by kernel_rfl) rfl rfl (fun K hK => ?_)
                have f2 := hown3.frozen (q * 4 + 3)
                obtain ⟨cq, rfl, hc⟩ := hown3.cell_at (by decide) hql3
                have c2 : w24.cell? ⟨g, q * 4 + 3, none⟩ = some (.int .i64 l3[q].due) := hc 3 _ rfl
                clear hc
                go_wp2_with fail
                try go_simp
                refine hK _ _ trivial ?_
                clear hK K
                refine tree_done ?_
                obtain ⟨l4, hown4, hlen4⟩ : ∃ x : List Jb, Own ((w24).setCell ⟨g, q * 4+ 3, none⟩ (.int .i64 s18)) w1.heap.size 58 (some ⟨g, 0, none⟩) c' x ∧ x.length = l.length := ⟨_, Own.set_jb3 hown3 hql3 s18, by rw [List.length_set]; exact hlen3.out⟩
                have hoB4 := hoB3.set hbw (p := ⟨g, q * 4+ 3, none⟩) (by simp only; omega) (.int .i64 s18)
                have hql4 : q < l4.length := by omega
                replace hlen4 := hide hlen4
                obtain ⟨w27, hwn⟩ : ∃ x, x = (w24).setCell ⟨g, q * 4+ 3, none⟩ (.int .i64 s18) := ⟨_, rfl⟩
                rw [← hwn] at hown4 hoB4 ⊢
                clear hwn
                rw [← hlen4.out]
                have hl4 : l4.length ≤ n := by have := hlen4.out; omega
                clear hlen4 hlen3 hlen2 hown hown2 hown3 hoB hoB2 hoB3
                go_wp2_with fail
                go_ret
                exact ⟨l4, _, _, rfl, hown4.sl.mono (by omega), hl4, hown4.cap, hoB4.mono (by omega)⟩
            · refine tree_e rfl rfl (fun K hK => ?_)
              go_wp2_with fail
              try go_simp
              refine hK _ _ ((hown.pure (gr_alloc (World.grownBy.refl _ _) _))) ?_
              clear hK K
              obtain ⟨w17, hw17⟩ : ∃ x, x = (w8).alloc (.cells [.int .i64 l[q].due, .int .i64 (-1)].toArray 3) := ⟨_, rfl⟩
              have hg17 : (w8).grownBy w17 none := by rw [hw17]; exact gr_alloc (World.grownBy.refl _ _) _
              have hb17 : Box w17 (w8).heap.size 3 [.int .i64 l[q].due, .int .i64 (-1)] := by rw [hw17]; exact Box.new _ _ _
              rw [← hw17]
              clear hw17
              obtain ⟨x17, hx17⟩ : ∃ x, x = (w8).heap.size := ⟨_, rfl⟩
              rw [← hx17] at hb17 ⊢
              have hxl17 : (w8).heap.size ≤ x17 := by omega
              clear hx17
              have hbx17 : b < x17 := by have := hoB.lt; omega
              replace hoB := hoB.pure hg17
              replace hown := hown.pure hg17
              replace hb8 := hb8.pure hg17
              refine tree_e rfl rfl (fun K hK => ?_)
              go_wp2_with fail
              refine (some_any b _ _ _ _ [l[q].key, ⟨#[]⟩, ⟨#[106, 49]⟩] w17 hoB.2 (by omega) (hb8.sl (row_strs _ _ _) (by omega) (by simp [maxLen])) rfl (by simp)).mono ?_
              rintro e w9 ⟨s9, rfl, ho9⟩
              go_wp2_with fail
              try go_simp
              refine hK _ _ ((hown.s ho9 hb1)) ?_
              clear hK K
              replace hoB := hoB.trans ho9
              replace hown := hown.s ho9 hb1
              replace hb17 := hb17.gr ho9.1 (fun e => by injection e; omega)
              refine tree_e rfl rfl (fun K hK => ?_)
              go_wp2_with fail
              refine (odd_any b _ _ _ w9 hoB.2 (by omega) (by omega) (by omega) (by omega)).mono ?_
              rintro e w11 ⟨s11, rfl, _, ho11⟩
              go_wp2_with fail
              try go_simp
              refine hK _ _ ((hown.s ho11 hb1)) ?_
              clear hK K
              replace hoB := hoB.trans ho11
              replace hown := hown.s ho11 hb1
              replace hb17 := hb17.gr ho11.1 (fun e => by injection e; omega)
              refine tree_e0 (by kernel_rfl) rfl rfl (fun K hK => ?_)
              go_wp2_with fail
              refine (pick_any b _ _ _ _ [l[q].due, -1] w11 hoB.2 (by omega) (hb17.sl (row_ints _ _ _) (by omega) (by simp [maxLen])) rfl (by simp)).mono ?_
              rintro e w18 ⟨s18, rfl, _, ho18⟩
              go_wp2_with fail
              try go_simp
              refine hK _ _ trivial ?_
              clear hK K
              replace hoB := hoB.trans ho18
              replace hown := hown.s ho18 hb1
              refine tree_n rfl rfl _ rfl _ rfl ?_
              try go_simp
              refine tree_p rfl rfl rfl rfl _ rfl (by simp) (fun K hK => ?_)
              apply Exists.intro
              refine ⟨fun wq K' hK' => ?_, ?_⟩
              · go_wp2_with fail
                exact hK'
              go_simp
              refine hK _ ?_
              clear hK K
              refine tree_e0 (by kernel_rfl) rfl rfl (fun K hK => ?_)
              have f0 := hown.frozen (q * 4)
              obtain ⟨cq, rfl, hc⟩ := hown.cell_at (by decide) hql
              have c0 : w18.cell? ⟨g, q * 4, none⟩ = some (.string l[q].key) := hc 0 _ rfl
              clear hc
              go_wp2_with fail
              try go_simp
              refine hK _ _ trivial ?_
              clear hK K
              obtain ⟨l2, hown2, hlen2⟩ : ∃ x : List Jb, Own ((w18).setCell ⟨g, q * 4, none⟩ (.string s9)) w1.heap.size 58 (some ⟨g, 0, none⟩) c' x ∧ x.length = l.length := ⟨_, Own.set_jb0 hown hql s9, by rw [List.length_set]; skip⟩
              have hoB2 := hoB.set hbw (p := ⟨g, q * 4, none⟩) (by simp only; omega) (.string s9)
              have hql2 : q < l2.length := by omega
              replace hlen2 := hide hlen2
              obtain ⟨w21, hwn⟩ : ∃ x, x = (w18).setCell ⟨g, q * 4, none⟩ (.string s9) := ⟨_, rfl⟩
              rw [← hwn] at hown2 hoB2 ⊢
              clear hwn
              refine tree_n rfl rfl _ rfl _ rfl ?_
              try go_simp
              refine tree_p rfl rfl rfl rfl _ rfl (by simp) (fun K hK => ?_)
              apply Exists.intro
              refine ⟨fun wq K' hK' => ?_, ?_⟩
              · go_wp2_with fail
                exact hK'
              go_simp
              refine hK _ ?_
              clear hK K
              refine tree_e0 (by kernel_rfl) rfl rfl (fun K hK => ?_)
              have f1 := hown2.frozen (q * 4 + 2)
              obtain ⟨cq, rfl, hc⟩ := hown2.cell_at (by decide) hql2
              have c1 : w21.cell? ⟨g, q * 4 + 2, none⟩ = some (.int .i64 l2[q].min) := hc 2 _ rfl
              clear hc
              go_wp2_with fail
              try go_simp
              refine hK _ _ trivial ?_
              clear hK K
              obtain ⟨l3, hown3, hlen3⟩ : ∃ x : List Jb, Own ((w21).setCell ⟨g, q * 4+ 2, none⟩ (.int .i64 s11)) w1.heap.size 58 (some ⟨g, 0, none⟩) c' x ∧ x.length = l.length := ⟨_, Own.set_jb2 hown2 hql2 s11, by rw [List.length_set]; exact hlen2.out⟩
              have hoB3 := hoB2.set hbw (p := ⟨g, q * 4+ 2, none⟩) (by simp only; omega) (.int .i64 s11)
              have hql3 : q < l3.length := by omega
              replace hlen3 := hide hlen3
              obtain ⟨w24, hwn⟩ : ∃ x, x = (w21).setCell ⟨g, q * 4+ 2, none⟩ (.int .i64 s11) := ⟨_, rfl⟩
              rw [← hwn] at hown3 hoB3 ⊢
              clear hwn
              refine tree_n rfl rfl _ rfl _ rfl ?_
              try go_simp
              refine tree_p rfl rfl rfl rfl _ rfl (by simp) (fun K hK => ?_)
              apply Exists.intro
              refine ⟨fun wq K' hK' => ?_, ?_⟩
              · go_wp2_with fail
                exact hK'
              go_simp
              refine hK _ ?_
              clear hK K
              refine tree_e0 (by kernel_rfl) rfl rfl (fun K hK => ?_)
              have f2 := hown3.frozen (q * 4 + 3)
              obtain ⟨cq, rfl, hc⟩ := hown3.cell_at (by decide) hql3
              have c2 : w24.cell? ⟨g, q * 4 + 3, none⟩ = some (.int .i64 l3[q].due) := hc 3 _ rfl
              clear hc
              go_wp2_with fail
              try go_simp
              refine hK _ _ trivial ?_
              clear hK K
              refine tree_done ?_
              obtain ⟨l4, hown4, hlen4⟩ : ∃ x : List Jb, Own ((w24).setCell ⟨g, q * 4+ 3, none⟩ (.int .i64 s18)) w1.heap.size 58 (some ⟨g, 0, none⟩) c' x ∧ x.length = l.length := ⟨_, Own.set_jb3 hown3 hql3 s18, by rw [List.length_set]; exact hlen3.out⟩
              have hoB4 := hoB3.set hbw (p := ⟨g, q * 4+ 3, none⟩) (by simp only; omega) (.int .i64 s18)
              have hql4 : q < l4.length := by omega
              replace hlen4 := hide hlen4
              obtain ⟨w27, hwn⟩ : ∃ x, x = (w24).setCell ⟨g, q * 4+ 3, none⟩ (.int .i64 s18) := ⟨_, rfl⟩
              rw [← hwn] at hown4 hoB4 ⊢
              clear hwn
              rw [← hlen4.out]
              have hl4 : l4.length ≤ n := by have := hlen4.out; omega
              clear hlen4 hlen3 hlen2 hown hown2 hown3 hoB hoB2 hoB3
              go_wp2_with fail
              go_ret
              exact ⟨l4, _, _, rfl, hown4.sl.mono (by omega), hl4, hown4.cap, hoB4.mono (by omega)⟩
          · refine tree_e rfl rfl (fun K hK => ?_)
            go_wp2_with fail
            try go_simp
            refine hK _ _ ((hown.pure (gr_alloc (World.grownBy.refl _ _) _))) ?_
            clear hK K
            obtain ⟨w17, hw17⟩ : ∃ x, x = (W1).alloc (.cells [.int .i64 l[q].due, .int .i64 (-1)].toArray 3) := ⟨_, rfl⟩
            have hg17 : (W1).grownBy w17 none := by rw [hw17]; exact gr_alloc (World.grownBy.refl _ _) _
            have hb17 : Box w17 (W1).heap.size 3 [.int .i64 l[q].due, .int .i64 (-1)] := by rw [hw17]; exact Box.new _ _ _
            rw [← hw17]
            clear hw17
            obtain ⟨x17, hx17⟩ : ∃ x, x = (W1).heap.size := ⟨_, rfl⟩
            rw [← hx17] at hb17 ⊢
            have hxl17 : (W1).heap.size ≤ x17 := by omega
            clear hx17
            have hbx17 : b < x17 := by have := hoB.lt; omega
            replace hoB := hoB.pure hg17
            replace hown := hown.pure hg17
            refine tree_e rfl rfl (fun K hK => ?_)
            go_wp2_with fail
            try go_simp
            refine hK _ _ ((hown.pure (gr_alloc (World.grownBy.refl _ _) _))) ?_
            clear hK K
            obtain ⟨w8, hw8⟩ : ∃ x, x = (w17).alloc (.cells [.string l[q].key, .string ⟨#[]⟩, .string ⟨#[106, 49]⟩].toArray 9) := ⟨_, rfl⟩
            have hg8 : (w17).grownBy w8 none := by rw [hw8]; exact gr_alloc (World.grownBy.refl _ _) _
            have hb8 : Box w8 (w17).heap.size 9 [.string l[q].key, .string ⟨#[]⟩, .string ⟨#[106, 49]⟩] := by rw [hw8]; exact Box.new _ _ _
            rw [← hw8]
            clear hw8
            obtain ⟨x8, hx8⟩ : ∃ x, x = (w17).heap.size := ⟨_, rfl⟩
            rw [← hx8] at hb8 ⊢
            have hxl8 : (w17).heap.size ≤ x8 := by omega
            clear hx8
            have hbx8 : b < x8 := by have := hoB.lt; omega
            replace hoB := hoB.pure hg8
            replace hown := hown.pure hg8
            replace hb17 := hb17.pure hg8
            refine tree_e rfl rfl (fun K hK => ?_)
            go_wp2_with fail
            refine (some_any b _ _ _ _ [l[q].key, ⟨#[]⟩, ⟨#[106, 49]⟩] w8 hoB.2 (by omega) (hb8.sl (row_strs _ _ _) (by omega) (by simp [maxLen])) rfl (by simp)).mono ?_
            rintro e w9 ⟨s9, rfl, ho9⟩
            go_wp2_with fail
            try go_simp
            refine hK _ _ ((hown.s ho9 hb1)) ?_
            clear hK K
            replace hoB := hoB.trans ho9
            replace hown := hown.s ho9 hb1
            replace hb17 := hb17.gr ho9.1 (fun e => by injection e; omega)
            refine tree_e rfl rfl (fun K hK => ?_)
            go_wp2_with fail
            refine (odd_any b _ _ _ w9 hoB.2 (by omega) (by omega) (by omega) (by omega)).mono ?_
            rintro e w11 ⟨s11, rfl, _, ho11⟩
            go_wp2_with fail
            try go_simp
            refine hK _ _ ((hown.s ho11 hb1)) ?_
            clear hK K
            replace hoB := hoB.trans ho11
            replace hown := hown.s ho11 hb1
            replace hb17 := hb17.gr ho11.1 (fun e => by injection e; omega)
            refine tree_e0 (by kernel_rfl) rfl rfl (fun K hK => ?_)
            go_wp2_with fail
            refine (pick_any b _ _ _ _ [l[q].due, -1] w11 hoB.2 (by omega) (hb17.sl (row_ints _ _ _) (by omega) (by simp [maxLen])) rfl (by simp)).mono ?_
            rintro e w18 ⟨s18, rfl, _, ho18⟩
            go_wp2_with fail
            try go_simp
            refine hK _ _ trivial ?_
            clear hK K
            replace hoB := hoB.trans ho18
            replace hown := hown.s ho18 hb1
            refine tree_n rfl rfl _ rfl _ rfl ?_
            try go_simp
            refine tree_p rfl rfl rfl rfl _ rfl (by simp) (fun K hK => ?_)
            apply Exists.intro
            refine ⟨fun wq K' hK' => ?_, ?_⟩
            · go_wp2_with fail
              exact hK'
            go_simp
            refine hK _ ?_
            clear hK K
            refine tree_e0 (by kernel_rfl) rfl rfl (fun K hK => ?_)
            have f0 := hown.frozen (q * 4)
            obtain ⟨cq, rfl, hc⟩ := hown.cell_at (by decide) hql
            have c0 : w18.cell? ⟨g, q * 4, none⟩ = some (.string l[q].key) := hc 0 _ rfl
            clear hc
            go_wp2_with fail
            try go_simp
            refine hK _ _ trivial ?_
            clear hK K
            obtain ⟨l2, hown2, hlen2⟩ : ∃ x : List Jb, Own ((w18).setCell ⟨g, q * 4, none⟩ (.string s9)) w1.heap.size 58 (some ⟨g, 0, none⟩) c' x ∧ x.length = l.length := ⟨_, Own.set_jb0 hown hql s9, by rw [List.length_set]; skip⟩
            have hoB2 := hoB.set hbw (p := ⟨g, q * 4, none⟩) (by simp only; omega) (.string s9)
            have hql2 : q < l2.length := by omega
            replace hlen2 := hide hlen2
            obtain ⟨w21, hwn⟩ : ∃ x, x = (w18).setCell ⟨g, q * 4, none⟩ (.string s9) := ⟨_, rfl⟩
            rw [← hwn] at hown2 hoB2 ⊢
            clear hwn
            refine tree_n rfl rfl _ rfl _ rfl ?_
            try go_simp
            refine tree_p rfl rfl rfl rfl _ rfl (by simp) (fun K hK => ?_)
            apply Exists.intro
            refine ⟨fun wq K' hK' => ?_, ?_⟩
            · go_wp2_with fail
              exact hK'
            go_simp
            refine hK _ ?_
            clear hK K
            refine tree_e0 (by kernel_rfl) rfl rfl (fun K hK => ?_)
            have f1 := hown2.frozen (q * 4 + 2)
            obtain ⟨cq, rfl, hc⟩ := hown2.cell_at (by decide) hql2
            have c1 : w21.cell? ⟨g, q * 4 + 2, none⟩ = some (.int .i64 l2[q].min) := hc 2 _ rfl
            clear hc
            go_wp2_with fail
            try go_simp
            refine hK _ _ trivial ?_
            clear hK K
            obtain ⟨l3, hown3, hlen3⟩ : ∃ x : List Jb, Own ((w21).setCell ⟨g, q * 4+ 2, none⟩ (.int .i64 s11)) w1.heap.size 58 (some ⟨g, 0, none⟩) c' x ∧ x.length = l.length := ⟨_, Own.set_jb2 hown2 hql2 s11, by rw [List.length_set]; exact hlen2.out⟩
            have hoB3 := hoB2.set hbw (p := ⟨g, q * 4+ 2, none⟩) (by simp only; omega) (.int .i64 s11)
            have hql3 : q < l3.length := by omega
            replace hlen3 := hide hlen3
            obtain ⟨w24, hwn⟩ : ∃ x, x = (w21).setCell ⟨g, q * 4+ 2, none⟩ (.int .i64 s11) := ⟨_, rfl⟩
            rw [← hwn] at hown3 hoB3 ⊢
            clear hwn
            refine tree_n rfl rfl _ rfl _ rfl ?_
            try go_simp
            refine tree_p rfl rfl rfl rfl _ rfl (by simp) (fun K hK => ?_)
            apply Exists.intro
            refine ⟨fun wq K' hK' => ?_, ?_⟩
            · go_wp2_with fail
              exact hK'
            go_simp
            refine hK _ ?_
            clear hK K
            refine tree_e0 (by kernel_rfl) rfl rfl (fun K hK => ?_)
            have f2 := hown3.frozen (q * 4 + 3)
            obtain ⟨cq, rfl, hc⟩ := hown3.cell_at (by decide) hql3
            have c2 : w24.cell? ⟨g, q * 4 + 3, none⟩ = some (.int .i64 l3[q].due) := hc 3 _ rfl
            clear hc
            go_wp2_with fail
            try go_simp
            refine hK _ _ trivial ?_
            clear hK K
            refine tree_done ?_
            obtain ⟨l4, hown4, hlen4⟩ : ∃ x : List Jb, Own ((w24).setCell ⟨g, q * 4+ 3, none⟩ (.int .i64 s18)) w1.heap.size 58 (some ⟨g, 0, none⟩) c' x ∧ x.length = l.length := ⟨_, Own.set_jb3 hown3 hql3 s18, by rw [List.length_set]; exact hlen3.out⟩
            have hoB4 := hoB3.set hbw (p := ⟨g, q * 4+ 3, none⟩) (by simp only; omega) (.int .i64 s18)
            have hql4 : q < l4.length := by omega
            replace hlen4 := hide hlen4
            obtain ⟨w27, hwn⟩ : ∃ x, x = (w24).setCell ⟨g, q * 4+ 3, none⟩ (.int .i64 s18) := ⟨_, rfl⟩
            rw [← hwn] at hown4 hoB4 ⊢
            clear hwn
            rw [← hlen4.out]
            have hl4 : l4.length ≤ n := by have := hlen4.out; omega
            clear hlen4 hlen3 hlen2 hown hown2 hown3 hoB hoB2 hoB3
            go_wp2_with fail
            go_ret
            exact ⟨l4, _, _, rfl, hown4.sl.mono (by omega), hl4, hown4.cap, hoB4.mono (by omega)⟩
      · have hl0 : l = [] := List.eq_nil_of_length_eq_zero (by omega)
        subst hl0
        go_wp2_with fail
        go_ret
        exact ⟨[], _, _, rfl, hown.sl.mono (by omega), by simp, hown.cap, hoB.mono (by omega)⟩

end Go.Proofs.YtanioobepfllgaaDoor
